/- What is known of the library's functions at this program. No condition. -/
import Derived.Test.YtloekbdlmikkcaaGreatDoorShelfC
import Derived.Test.YtloekbdlmikkcaaGreatDoorZvCx
import Derived.Test.YtloekbdlmikkcaaGreatDoorZvC6
import Derived.Test.YtloekbdlmikkcaaGreatDoorWalkC
import Derived.Test.YtloekbdlmikkcaaGreatDoorSortC
import Derived.KernelRfl
namespace Go.Proofs.YtloekbdlmikkcaaGreatDoor
open Go Go.Zv Go.RowKit Go.Proofs
set_option maxRecDepth 100000
def letN (c : Nat) : Bool := !(Nat.ble 97 c && Nat.ble c 122 || Nat.ble 65 c && Nat.ble c 90 || Nat.ble 48 c && Nat.ble c 57 || Nat.beq c 45 || Nat.beq c 95 || Nat.beq c 46)
theorem ble_int (a b : Nat) : Nat.ble a b = decide ((a : Int) ≤ (b : Int)) := by
 rw [Bool.eq_iff_iff, Nat.ble_eq, decide_eq_true_eq]; omega
theorem beq_int (a b : Nat) : Nat.beq a b = decide ((a : Int) = (b : Int)) := by
 rw [Bool.eq_iff_iff, Nat.beq_eq, decide_eq_true_eq]; omega
theorem letN_eq (c : Nat) : letN c = !isLet (c : Int) := by
 unfold letN isLet
 simp only [ble_int, beq_int]
 rfl
def primsT : Tr (List V → Option (V × List V)) :=
 (.node (.node (.node (.node .leaf 79 primCloneB .leaf) 83 (primDel 2) .leaf) 86 primCloneS (.node (.node .leaf 92 (primSort 93 4) .leaf) 115 (primIns 2) .leaf)) 122 primJoin (.node (.node (.node .leaf 129 (primContains 130 letN) .leaf) 148 primCount .leaf) 171 primCmp (.node (.node .leaf 209 primCount .leaf) 219 primIndex .leaf)))
def prims (f : Nat) (args : List V) : Option (V × List V) := match primsT.get f with
 | some g => g args
 | none => none
theorem bytesFile : Tryz.t69.bytes = 40 := by kernel_rfl
theorem rowTy : RowTy Tryz.prog 22 69 2 Tryz.t69 (.agg #[.string ⟨#[]⟩, .slice none 0 0]) where
 under := Tryz.underlying22
 info := by kernel_rfl
 zero := by kernel_rfl
 size := by kernel_rfl
 cells := by kernel_rfl
 one := by
  intro c hc
  have : c = .string ⟨#[]⟩ ∨ c = .slice none 0 0 := by simpa [Value.cells] using hc
  rcases this with rfl | rfl <;> rfl
 bytes := by rw [bytesFile]; omega
theorem letN_high (x : Nat) (h : 128 ≤ x) : letN x = true := by
 rw [letN_eq]
 unfold isLet
 simp only [Bool.not_eq_true', Bool.or_eq_false_iff, Bool.and_eq_false_iff, decide_eq_false_iff_not]
 omega
theorem prims_ok {G : Nat → Option (List V)} : ∀ f args res outs, prims f args = some (res, outs) → Does Tryz.prog G f args res outs := by
 have hA : primsT.All fun f g => ∀ args res outs, g args = some (res, outs) → Does Tryz.prog G f args res outs := by
  refine ⟨⟨⟨⟨trivial, ?_, trivial⟩, ?_, trivial⟩, ?_, ⟨⟨trivial, ?_, trivial⟩, ?_, trivial⟩⟩, ?_, ⟨⟨⟨trivial, ?_, trivial⟩, ?_, trivial⟩, ?_, ⟨⟨trivial, ?_, trivial⟩, ?_, trivial⟩⟩⟩ <;> intro args res outs h
  ·
   exact cloneB_ok Tryz.call79 Tryz.bytes_Clone_nil (fun a n c xs w h1 h2 h3 => Tryz.bytes_Clone_at a n c xs w h1 h2 h3) h
  ·
   exact del_ok rowTy Tryz.call83 (fun b o n c i j w w1 w2 A h1 h2 h3 h4 h5 h6 => delete_any b o n c i j w w1 w2 A h1 h2 h3 h4 h5 h6) h
  ·
   exact cloneS_ok Tryz.call86 Tryz.slices_Clone_string_nil Tryz.slices_Clone_string_zero Tryz.slices_Clone_string h
  ·
   exact patchSort_ok h
  ·
   refine ins_ok (fo := 150) (by decide) rowTy (u := 3) Tryz.underlying3 Tryz.call115 (fun w a b la ca lb cb tA tB kA kB h1 h2 h3 h4 h5 h6 => ?_) insert_end insert_shift insert_grow h
   rw [run_callFunc_extern Tryz.func150 (by kernel_rfl) (by kernel_rfl) (by kernel_rfl) (e := Extern.SlicesOverlaps.overlaps #[22, 22] #[4]) (by kernel_rfl),
    Lib.run_overlaps_apart w 22 4 69 Tryz.underlying22 2 Tryz.sizeOf69 a b la ca lb cb h1 tA tB kA kB h2 h3 h4 h5 h6]
   rfl
  ·
   exact join_ok Tryz.call122 Tryz.strings_Join_none Tryz.strings_Join h
  ·
   refine contains_ok (g := 130) Tryz.call129 Tryz.call130 letN_high (fun c w => ?_) (fun lb s w hp => Any.strings_ContainsFunc_grows Tryz.laysGw17 130 lb Tryz.call130 letN s w hp) h
   rw [letN_eq]
   exact notLetter_any c w
  ·
   exact count_ok Tryz.func148 (by kernel_rfl) (by kernel_rfl) (by kernel_rfl) (by kernel_rfl) h
  ·
   exact cmp_ok Tryz.func171 (by kernel_rfl) (by kernel_rfl) (by kernel_rfl) (by kernel_rfl) h
  ·
   exact count_ok Tryz.func209 (by kernel_rfl) (by kernel_rfl) (by kernel_rfl) (by kernel_rfl) h
  ·
   exact index_ok Tryz.func219 (by kernel_rfl) (by kernel_rfl) (by kernel_rfl) (by kernel_rfl) h
 intro f args res outs h
 unfold prims at h
 split at h
 ·
  rename_i g hg
  exact hA.get hg args res outs h
 ·
  cases h
#print axioms prims_ok
end Go.Proofs.YtloekbdlmikkcaaGreatDoor
