/- siding/sidinglaw21.TreeClasses: whatever the arguments, the call gives true, and the arguments read as before. No condition. -/
import Derived.Test.YtloekbdlmikkcaaGreatDoorLawC3
import Derived.Test.YtloekbdlmikkcaaGreatDoorAliveC
import Derived.Test.YtloekbdlmikkcaaGreatDoorRunC5
import Derived.Test.YtloekbdlmikkcaaGreatDoorZvC7
import Derived.Test.YtloekbdlmikkcaaGreatDoorCards
import Derived.Test.YtloekbdlmikkcaaGreatDoorTie
import Derived.ProofKit
import Derived.OpenShut
import Derived.Lay
import Derived.Carry
import Derived.Deep.DeepHandedRow
namespace Go.Proofs.YtloekbdlmikkcaaGreatDoor
open Go Go.Zv Go.RowKit Go.Proofs Go.ChangeShapes Go.WideShapes Go.ChangeAt
set_option maxRecDepth 100000
theorem own : ownKnob Tryz.prog.godebug = none := by kernel_rfl
theorem mixed : Tryz.prog.follows .mixedOrders = true := by kernel_rfl
theorem laidOut : laidOutB Tryz.prog = true := by kernel_rfl
theorem treeClasses_does (x0 : List (G.GFile)) (x1 : List (G.GFile)) (x2 : List UInt8) (x3 : List UInt8) : Does Tryz.prog G.tab.glob.get 9 [V.sl 2 false (x0.map G.eGF), V.sl 2 false (x1.map G.eGF), V.str x2, V.sl 1 false (x3.map encB)] (.bool true) [.ud, .ud, .ud, .ud] :=
 callD_sound G.tab_ok prims_ok mixed _ 9 _ _ _ (G.f_sidinglaw21_TreeClasses_ok 5000 0 G.A10 x0 x1 x2 x3 true (G.law_TreeClasses (by decide) x0 x1 x2 x3))
section
variable {H : Type} {enc : TypeId × Value → H} {w : World} {spare : Nat → Bool} {held : Bool}
theorem opens9 : Opens enc Tryz.prog w spare held 9 fun s : List UInt8 => [V.str s] := opens_str Tryz.underlying9
theorem opens34 : Opens enc Tryz.prog w spare held 34 fun l : List UInt8 => [V.sl 1 false (l.map encB)] :=
 opens_slice (e := 5) Tryz.underlying34 (by kernel_rfl) (by decide) (fun _ => rfl) (opens_u8 Tryz.underlying5)
theorem opens69 : Opens enc Tryz.prog w spare held 69 G.eGF :=
 opens_struct2 (e0 := (fun s : List UInt8 => [V.str s])) (e1 := (fun l : List UInt8 => [V.sl 1 false (l.map encB)])) (fun a b => ⟨a, b⟩) G.eGF (fun _ _ => rfl) Tryz.underlying69 (by kernel_rfl) (by kernel_rfl) (by kernel_rfl) opens9 opens34
theorem opens22 : Opens enc Tryz.prog w spare held 22 fun l : List (G.GFile) => [V.sl 2 false (l.map G.eGF)] :=
 opens_slice (e := 69) Tryz.underlying22 (by kernel_rfl) (by decide) (fun _ => rfl) opens69
end
theorem contract (H : Type) (enc : TypeId × Value → H) (W : World) (base : Nat) (args : Array Value) (ds gs : List (DataW H)) (before : List MemPlace)
  (hval : ∀ (j : Nat) t v, Tryz.f9.params[j]? = some t → args[j]? = some v → Value.okWide Tryz.prog W .any base t v)
  (hW : DataW.Whole enc Tryz.prog Tryz.f9.params.toList Rows.treeClassesSpec.vars false W args.toList ds gs before) :
  Calls Tryz.prog 9 args W fun e W' => ∃ v, e = .returned v ∧ Rows.treeClassesSpec.post enc Tryz.prog Tryz.f9 false true false false W args v W' := by
 have hW' := hW
 obtain ⟨p, q, hA0, hV, rfl, hfz, hnd⟩ := hW
 have hA : DataW.TrodAll enc Tryz.prog W 0 (fun _ => true) true [22, 22, 9, 34] args.toList ds p := hA0
 obtain ⟨v0, v1, v2, v3, d0, d1, d2, d3, p0, p1, p2, p3, rfl, rfl, rfl, h0, h1, h2, h3⟩ := trodAll_four hA
 obtain ⟨rfl, rfl⟩ := trodVars_none hV
 obtain ⟨a0, l0, c0, rfl⟩ := okWide_slice Tryz.underlying22 (hval 0 22 v0 rfl rfl)
 obtain ⟨n0, k0⟩ := id h0
 obtain ⟨x0, r0, _⟩ := opens22 n0 _ _ k0
 obtain ⟨a1, l1, c1, rfl⟩ := okWide_slice Tryz.underlying22 (hval 1 22 v1 rfl rfl)
 obtain ⟨n1, k1⟩ := id h1
 obtain ⟨x1, r1, _⟩ := opens22 n1 _ _ k1
 obtain ⟨s2, rfl⟩ := okWide_string Tryz.underlying9 (hval 2 9 v2 rfl rfl)
 obtain ⟨a3, l3, c3, rfl⟩ := okWide_slice Tryz.underlying34 (hval 3 34 v3 rfl rfl)
 obtain ⟨n3, k3⟩ := id h3
 obtain ⟨x3, r3, _⟩ := opens34 n3 _ _ k3
 have hr : Reps (allS W) W [Value.slice a0 l0 c0, Value.slice a1 l1 c1, Value.string s2, Value.slice a3 l3 c3] [V.sl 2 false (x0.map G.eGF), V.sl 2 false (x1.map G.eGF), V.str s2.data.toList, V.sl 1 false (x3.map encB)] [] := by
  have r2 : Reps (allS W) W [Value.string s2] [V.str s2.data.toList] [] := .cons (O1 := []) (O2 := []) (.str s2) .nil
  exact reps_append (us := [Value.slice a0 l0 c0]) r0 (reps_append (us := [Value.slice a1 l1 c1]) r1 (reps_append (us := [Value.string s2]) r2 (r3)))
 have hlt : ∀ y ∈ p0 ++ p1 ++ p2 ++ p3 ++ [], y.block < W.heap.size := fun y hy => hW'.lt y hy
 refine (open_calls (G := G.tab.glob.get) (fun _ => rfl) Tryz.call9 (treeClasses_does (x0) (x1) (s2.data.toList) (x3)) W hr).mono fun e W' ⟨he, hb⟩ => ?_
 subst he
 refine ⟨_, rfl, [d0, d1, d2, d3], [], p0 ++ p1 ++ p2 ++ p3 ++ [], [], (p0 ++ (p1 ++ (p2 ++ p3))), [], hW', ?_, ?_, rfl, hb.frame _, fun h => by cases h⟩
 ·
  exact trodAll_cons_mk (shut_bool Tryz.underlying4 _) trodAll_mk0
 ·
  exact trodAll_mk4 (Below.trod laidOut (by kernel_rfl) (of_decide_eq_true (by kernel_rfl)) h0 hb fun y hy => hlt y (by simp [hy])) (Below.trod laidOut (by kernel_rfl) (of_decide_eq_true (by kernel_rfl)) h1 hb fun y hy => hlt y (by simp [hy])) (Below.trod laidOut (by kernel_rfl) (of_decide_eq_true (by kernel_rfl)) h2 hb fun y hy => hlt y (by simp [hy])) (Below.trod laidOut (by kernel_rfl) (of_decide_eq_true (by kernel_rfl)) h3 hb fun y hy => hlt y (by simp [hy]))
def wargs : Array Value := #[.slice none 0 0, .slice none 0 0, .string ⟨#[]⟩, .slice none 0 0]
theorem laid_met (os : Os) : laidMet Tryz.prog Rows.treeClassesRow.laid ((World.laidAll Tryz.prog os Rows.treeClassesRow.laid).forCall (fun _ _ => 0) ⟨#[], wargs, []⟩).memory :=
 laidMet_laidAll _ (by kernel_rfl) (by kernel_rfl)
theorem reads (os : Os) {H : Type} (enc : TypeId × Value → H) : ∃ places, DataW.whole enc Tryz.prog ((World.laidAll Tryz.prog os Rows.treeClassesRow.laid).forCall (fun _ _ => 0) ⟨#[], wargs, []⟩).memory Tryz.f9.params.toList Rows.treeClassesSpec.vars false wargs.toList 8 = some ([.nil, .nil, .lit (.string []), .nil], [], places) :=
 ⟨[], by kernel_rfl⟩
set_option maxRecDepth 100000 in
theorem lifted (os : Os) (started : os.Started) (H : Type) (enc : TypeId × Value → H) (F : Stop.Interp) :
  ReturnsInHanded {} Tryz.checked os 9 .any ((OpenSpec.ofChange Rows.treeClassesSpec).preRow enc Tryz.prog Tryz.f9 Rows.treeClassesRow.domain false Rows.treeClassesRow.laid) (((OpenSpec.ofChange Rows.treeClassesSpec).at F).post enc Tryz.prog Tryz.f9 false true false false) := by
 obtain ⟨places, hx⟩ := reads os enc
 refine returnsInHanded_of_row (C := Tryz.checked) (s := OpenSpec.ofChange Rows.treeClassesSpec) own started (by kernel_rfl) Tryz.func9
  (witness_row_at (enc := enc) (C := Tryz.checked) false (World.laidAll Tryz.prog os Rows.treeClassesRow.laid) wargs (World.laidAll_os _ _ _) (by kernel_rfl) (by kernel_rfl) (by kernel_rfl)
   (OpenSpec.preRow_of_cond 8 hx (by kernel_rfl) (fun k hk => by cases hk) (by kernel_rfl) (laid_met os))) ?_
 intro W base args ds gs before hval hW _ _ _ hL _ _
 exact contract H enc W base args ds gs before hval hW
theorem said : Rows.TreeClassesSaid :=
 OpenClaim.holds_of_cond 9 Tryz.f9 rfl rfl rfl rfl rfl rfl rfl ⟨rfl, rfl, rfl, rfl, rfl⟩ rfl rfl rfl rfl rfl (by kernel_rfl) Tryz.func9 (by kernel_rfl)
  (of_decide_eq_true (by kernel_rfl)) (by unfold Func.isWrapper; first | (rw [if_pos (by decide +kernel)]; kernel_rfl) | (rw [if_neg (by decide +kernel)]; exact ⟨rfl, rfl⟩))
  (fun os started H enc _ F => by rw [OpenClaim.pre_eq_preRow]; exact lifted os started H enc F)
theorem plain (f : FuncId) (fn : Func) (hf : Tryz.pinned.checked.prog.funcNamed "siding/sidinglaw21.TreeClasses" = some f) (hfn : Tryz.pinned.checked.prog.funcs[f]? = some fn) :
  false = Tryz.pinned.checked.prog.looks [] ∧ ∀ (j : Nat) t, fn.params[j]? = some t → Tryz.pinned.checked.prog.wantsStandIn t = false := by
 obtain rfl : f = 9 := Option.some.inj ((show Tryz.prog.funcNamed "siding/sidinglaw21.TreeClasses" = some 9 by kernel_rfl).symm.trans hf) |>.symm
 obtain rfl : fn = Tryz.f9 := (Option.some.inj (Tryz.func9.symm.trans hfn)).symm
 refine ⟨by kernel_rfl, fun j t ht => ?_⟩
 have hp : Tryz.f9.params = #[22, 22, 9, 34] := by kernel_rfl
 have key : ∀ t ∈ [22, 22, 9, 34], Tryz.pinned.checked.prog.wantsStandIn t = false := by
  intro t ht
  simp only [List.mem_cons, List.not_mem_nil, or_false] at ht
  rcases ht with rfl | rfl | rfl | rfl <;> kernel_rfl
 rw [hp] at ht
 refine key t ?_
 have := List.mem_of_getElem? (l := [22, 22, 9, 34]) (i := j) (a := t) (by simpa using ht)
 exact this
theorem treeClasses_card : Rows.TreeClassesCardSaid :=
 Claim7.holds_tied_plain_at .later [] _ _ _ _ said (fun _ h => by cases h) (by kernel_rfl) (fun _ h => by cases h) treeClasses_row_tie rfl ⟨rfl, rfl⟩ (by kernel_rfl) rfl plain (by kernel_rfl)
#print axioms treeClasses_card
end Go.Proofs.YtloekbdlmikkcaaGreatDoor
