/- siding/sidinglaw17.NormNames: whatever the arguments, the call gives true, and the arguments read as before. No condition. -/
import Derived.Test.YtloekbdlmikkcaaGreatDoorAliveK
import Derived.Test.YtloekbdlmikkcaaGreatDoorRunK4
import Derived.Test.YtloekbdlmikkcaaGreatDoorZvK7
import Derived.Test.YtloekbdlmikkcaaGreatDoorCards
import Derived.Test.YtloekbdlmikkcaaGreatDoorTie
import Derived.ProofKit
import Derived.OpenShut
import Derived.Lay
import Derived.Carry
import Derived.Deep.DeepHandedRow
set_option linter.unusedSimpArgs false
set_option linter.unusedVariables false
namespace Go.Proofs.YtloekbdlmikkcaaGreatDoor
open Go Go.Zv Go.RowKit Go.Proofs Go.ChangeShapes Go.WideShapes Go.ChangeAt
set_option maxRecDepth 100000
theorem own : ownKnob Tryz.prog.godebug = none := by kernel_rfl
theorem mixed : Tryz.prog.follows .mixedOrders = true := by kernel_rfl
theorem normNames_does  : Does Tryz.prog G.tab.glob.get 5 [] (.bool true) [] :=
 callD_sound G.tab_ok prims_ok mixed _ 5 _ _ _ (G.f_sidinglaw17_NormNames_ok 5000 0   true (G.A_f_sidinglaw17_NormNames))
section
variable {H : Type} {enc : TypeId × Value → H} {w : World} {spare : Nat → Bool} {held : Bool}
end
theorem contract (H : Type) (enc : TypeId × Value → H) (W : World) (base : Nat) (args : Array Value) (ds gs : List (DataW H)) (before : List MemPlace)
  (hval : ∀ (j : Nat) t v, Tryz.f5.params[j]? = some t → args[j]? = some v → Value.okWide Tryz.prog W .any base t v)
  (hW : DataW.Whole enc Tryz.prog Tryz.f5.params.toList Rows.normNamesSpec.vars false W args.toList ds gs before) (hL : laidMet Tryz.prog Rows.normNamesRow.laid W) :
  Calls Tryz.prog 5 args W fun e W' => ∃ v, e = .returned v ∧ Rows.normNamesSpec.post enc Tryz.prog Tryz.f5 false true false false W args v W' := by
 have hW' := hW
 obtain ⟨p, q, hA0, hV, rfl, hfz, hnd⟩ := hW
 have hA : DataW.TrodAll enc Tryz.prog W 0 (fun _ => true) true [] args.toList ds p := hA0
 obtain ⟨hargs, rfl, rfl⟩ := trodAll_nil hA
 obtain rfl : args = #[] := by cases args; simp_all
 obtain ⟨rfl, rfl⟩ := trodVars_none hV
 have hr : Reps (allS W) W [] [] [] := by
  exact .nil
 have g0 := glob_ints (n := "siding/sha.first") (k := .u32) (m := 8) (t := 105) (e := 104) (g := 0) 5 Go.Zv.G.glob0 hL (by kernel_rfl) (by kernel_rfl) (by kernel_rfl) Tryz.underlying105 Tryz.underlying104 (by kernel_rfl) (by kernel_rfl)
 have g2 := glob_ints (n := "siding/sha.constants") (k := .u32) (m := 64) (t := 182) (e := 104) (g := 2) 4 Go.Zv.G.glob2 hL (by kernel_rfl) (by kernel_rfl) (by kernel_rfl) Tryz.underlying182 Tryz.underlying104 (by kernel_rfl) (by kernel_rfl)
 have hG : G.globT.All fun g cs => GlobAt (allS W) W g cs := by
  unfold G.globT
  simp only [Tr.All, and_true, true_and, and_assoc]
  exact ⟨g0, g2⟩
 refine (open_callsG (G := G.tab.glob.get) (fun _ _ h => hG.get h) Tryz.call5 (normNames_does ) hr).mono fun e W' ⟨he, hb⟩ => ?_
 subst he
 refine ⟨_, rfl, [], [], [], [], [], [], hW', ?_, ?_, rfl, hb.frame _, fun h => by cases h⟩
 ·
  exact trodAll_cons_mk (shut_bool Tryz.underlying4 _) trodAll_mk0
 ·
  exact trodAll_mk0 
def wargs : Array Value := #[]
theorem laid_met (os : Os) : laidMet Tryz.prog Rows.normNamesRow.laid ((World.laidAll Tryz.prog os Rows.normNamesRow.laid).forCall (fun _ _ => 0) ⟨#[], wargs, []⟩).memory :=
 laidMet_laidAll _ (by kernel_rfl) (by kernel_rfl)
theorem reads (os : Os) {H : Type} (enc : TypeId × Value → H) : ∃ places, DataW.whole enc Tryz.prog ((World.laidAll Tryz.prog os Rows.normNamesRow.laid).forCall (fun _ _ => 0) ⟨#[], wargs, []⟩).memory Tryz.f5.params.toList Rows.normNamesSpec.vars false wargs.toList 8 = some ([], [], places) :=
 ⟨[], by kernel_rfl⟩
set_option maxRecDepth 100000 in
theorem lifted (os : Os) (started : os.Started) (H : Type) (enc : TypeId × Value → H) (F : Stop.Interp) :
  ReturnsInHanded {} Tryz.checked os 5 .any ((OpenSpec.ofChange Rows.normNamesSpec).preRow enc Tryz.prog Tryz.f5 Rows.normNamesRow.domain false Rows.normNamesRow.laid) (((OpenSpec.ofChange Rows.normNamesSpec).at F).post enc Tryz.prog Tryz.f5 false true false false) := by
 obtain ⟨places, hx⟩ := reads os enc
 refine returnsInHanded_of_row (C := Tryz.checked) (s := OpenSpec.ofChange Rows.normNamesSpec) own started (by kernel_rfl) Tryz.func5
  (witness_row_at (enc := enc) (C := Tryz.checked) false (World.laidAll Tryz.prog os Rows.normNamesRow.laid) wargs (World.laidAll_os _ _ _) (by kernel_rfl) (by kernel_rfl) (by kernel_rfl)
   (OpenSpec.preRow_of_cond 8 hx (by kernel_rfl) (fun k hk => by cases hk) (by kernel_rfl) (laid_met os))) ?_
 intro W base args ds gs before hval hW _ _ _ hL _ _
 exact contract H enc W base args ds gs before hval hW hL
theorem said : Rows.NormNamesSaid :=
 OpenClaim.holds_of_cond 5 Tryz.f5 rfl rfl rfl rfl rfl rfl rfl ⟨rfl, rfl, rfl, rfl, rfl⟩ rfl rfl rfl rfl rfl (by kernel_rfl) Tryz.func5 (by kernel_rfl)
  (of_decide_eq_true (by kernel_rfl)) (by unfold Func.isWrapper; first | (rw [if_pos (by decide +kernel)]; kernel_rfl) | (rw [if_neg (by decide +kernel)]; exact ⟨rfl, rfl⟩))
  (fun os started H enc _ F => by rw [OpenClaim.pre_eq_preRow]; exact lifted os started H enc F)
theorem plain (f : FuncId) (fn : Func) (hf : Tryz.pinned.checked.prog.funcNamed "siding/sidinglaw17.NormNames" = some f) (hfn : Tryz.pinned.checked.prog.funcs[f]? = some fn) :
  false = Tryz.pinned.checked.prog.looks [] ∧ ∀ (j : Nat) t, fn.params[j]? = some t → Tryz.pinned.checked.prog.wantsStandIn t = false := by
 obtain rfl : f = 5 := Option.some.inj ((show Tryz.prog.funcNamed "siding/sidinglaw17.NormNames" = some 5 by kernel_rfl).symm.trans hf) |>.symm
 obtain rfl : fn = Tryz.f5 := (Option.some.inj (Tryz.func5.symm.trans hfn)).symm
 refine ⟨by kernel_rfl, fun j t ht => ?_⟩
 have hp : Tryz.f5.params = #[] := by kernel_rfl
 rw [hp] at ht
 simp at ht
theorem normNames_card : Rows.NormNamesCardSaid :=
 Claim7.holds_tied_plain_at .later [] _ _ _ _ said (fun _ h => by cases h) (by kernel_rfl) (fun _ h => by cases h) normNames_row_tie rfl ⟨rfl, rfl⟩ (by kernel_rfl) rfl plain (by kernel_rfl)
#print axioms normNames_card
end Go.Proofs.YtloekbdlmikkcaaGreatDoor
