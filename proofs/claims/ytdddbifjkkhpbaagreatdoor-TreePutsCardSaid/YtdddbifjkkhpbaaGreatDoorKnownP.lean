/- What is known of the library's functions at this program. No condition. -/
import Derived.Test.YtdddbifjkkhpbaaGreatDoorShelf
import Derived.Test.YtdddbifjkkhpbaaGreatDoorZvPx
import Derived.Test.YtdddbifjkkhpbaaGreatDoorZvP6
import Derived.Test.YtdddbifjkkhpbaaGreatDoorWalkP
import Derived.KernelRfl
namespace Go.Proofs.YtdddbifjkkhpbaaGreatDoor
open Go Go.Zv Go.RowKit Go.Proofs
set_option maxRecDepth 100000
def letN (c : Nat) : Bool := !(Nat.ble 97 c && Nat.ble c 122 || Nat.ble 65 c && Nat.ble c 90 || Nat.ble 48 c && Nat.ble c 57 || Nat.beq c 45 || Nat.beq c 95 || Nat.beq c 46)
theorem ble_int (a b : Nat) : Nat.ble a b = decide ((a : Int) ≤ (b : Int)) := by
  rw [Bool.eq_iff_iff, Nat.ble_eq, decide_eq_true_eq]; omega
theorem beq_int (a b : Nat) : Nat.beq a b = decide ((a : Int) = (b : Int)) := by
  rw [Bool.eq_iff_iff, Nat.beq_eq, decide_eq_true_eq]; omega
theorem letN_eq (c : Nat) : letN c = !isLet (c : Int) := by
  unfold letN isLet
  simp only [ble_int, beq_int]
  rfl
def primsL : List (Nat × (List V → Option (V × List V))) :=
  [(43, primCloneB), (46, primDel 2), (74, primIns 2), (86, primCloneS), (115, primCount), (123, primJoin), (130, primContains 131 letN), (154, primCmp), (220, primCount), (234, primIndex)]
def primsT : Tr (List V → Option (V × List V)) :=
  .node (.node (.node .leaf 43 primCloneB .leaf) 46 (primDel 2) (.node .leaf 74 (primIns 2) .leaf)) 86 primCloneS
    (.node (.node (.node .leaf 115 primCount .leaf) 123 primJoin .leaf) 130 (primContains 131 letN) (.node (.node .leaf 154 primCmp .leaf) 220 primCount (.node .leaf 234 primIndex .leaf)))
def prims (f : Nat) (args : List V) : Option (V × List V) := match primsT.get f with
  | some g => g args
  | none => none
theorem bytes38 : Tryz.t38.bytes = 40 := by kernel_rfl
theorem rowTy : RowTy Tryz.prog 22 38 2 Tryz.t38 (.agg #[.string ⟨#[]⟩, .slice none 0 0]) where
  under := Tryz.underlying22
  info := by kernel_rfl
  zero := by kernel_rfl
  size := by kernel_rfl
  cells := by kernel_rfl
  one := by
    intro c hc
    have : c = .string ⟨#[]⟩ ∨ c = .slice none 0 0 := by simpa [Value.cells] using hc
    rcases this with rfl | rfl <;> rfl
  bytes := by rw [bytes38]; omega
theorem letN_high (x : Nat) (h : 128 ≤ x) : letN x = true := by
  rw [letN_eq]
  unfold isLet
  simp only [Bool.not_eq_true', Bool.or_eq_false_iff, Bool.and_eq_false_iff, decide_eq_false_iff_not]
  omega
theorem prims_ok {G : Nat → Option (List V)} : ∀ f args res outs, prims f args = some (res, outs) → Does Tryz.prog G f args res outs := by
  have hA : primsT.All fun f g => ∀ args res outs, g args = some (res, outs) → Does Tryz.prog G f args res outs := by
    refine ⟨⟨⟨trivial, ?_, trivial⟩, ?_, ⟨trivial, ?_, trivial⟩⟩, ?_, ⟨⟨⟨trivial, ?_, trivial⟩, ?_, trivial⟩, ?_, ⟨⟨trivial, ?_, trivial⟩, ?_, ⟨trivial, ?_, trivial⟩⟩⟩⟩ <;> intro args res outs h
    · exact cloneB_ok Tryz.call43 Tryz.bytes_Clone_nil (fun a n c xs w h1 h2 h3 => Tryz.bytes_Clone_at a n c xs w h1 h2 h3) h
    · exact del_ok rowTy Tryz.call46 (fun b o n c i j w w1 w2 A h1 h2 h3 h4 h5 h6 => delete_any b o n c i j w w1 w2 A h1 h2 h3 h4 h5 h6) h
    · refine ins_ok (fo := 117) (by decide) rowTy (u := 3) Tryz.underlying3 Tryz.call74 (fun w a b la ca lb cb tA tB kA kB h1 h2 h3 h4 h5 h6 => ?_) insert_end insert_shift insert_grow h
      rw [run_callFunc_extern Tryz.func117 (by kernel_rfl) (by kernel_rfl) (by kernel_rfl) (e := Extern.SlicesOverlaps.overlaps #[22, 22] #[4]) (by kernel_rfl),
        Lib.run_overlaps_apart w 22 4 38 Tryz.underlying22 2 Tryz.sizeOf38 a b la ca lb cb h1 tA tB kA kB h2 h3 h4 h5 h6]
      rfl
    · exact cloneS_ok Tryz.call86 Tryz.slices_Clone_string_nil Tryz.slices_Clone_string_zero Tryz.slices_Clone_string h
    · exact count_ok Tryz.func115 (by kernel_rfl) (by kernel_rfl) (by kernel_rfl) (by kernel_rfl) h
    · exact join_ok Tryz.call123 Tryz.strings_Join_none Tryz.strings_Join h
    · refine contains_ok (g := 131) Tryz.call130 Tryz.call131 letN_high (fun c w => ?_) (fun lb s w hp => Any.strings_ContainsFunc_grows Tryz.laysGw17 131 lb Tryz.call131 letN s w hp) h
      rw [letN_eq]
      exact notLetter_any c w
    · exact cmp_ok Tryz.func154 (by kernel_rfl) (by kernel_rfl) (by kernel_rfl) (by kernel_rfl) h
    · exact count_ok Tryz.func220 (by kernel_rfl) (by kernel_rfl) (by kernel_rfl) (by kernel_rfl) h
    · exact index_ok Tryz.func234 (by kernel_rfl) (by kernel_rfl) (by kernel_rfl) (by kernel_rfl) h
  intro f args res outs h
  unfold prims at h
  split at h
  · rename_i g hg
    exact hA.get hg args res outs h
  · cases h
#print axioms prims_ok
end Go.Proofs.YtdddbifjkkhpbaaGreatDoor
