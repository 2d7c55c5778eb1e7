/- What is known of the library's functions at this program. No condition. -/
import Derived.Test.YtloekbdlmikkcaaGreatDoorShelfK
import Derived.Test.YtloekbdlmikkcaaGreatDoorZvKx
import Derived.Test.YtloekbdlmikkcaaGreatDoorZvK6
import Derived.Test.YtloekbdlmikkcaaGreatDoorWalkK
import Derived.Test.YtloekbdlmikkcaaGreatDoorSortK
import Derived.Test.YtloekbdlmikkcaaGreatDoorWriK
import Derived.KernelRfl
set_option linter.unusedSimpArgs false
set_option linter.unusedVariables false
namespace Go.Proofs.YtloekbdlmikkcaaGreatDoor
open Go Go.Zv Go.RowKit Go.Proofs
set_option maxRecDepth 100000
def letN (c : Nat) : Bool := !(Nat.ble 97 c && Nat.ble c 122 || Nat.ble 65 c && Nat.ble c 90 || Nat.ble 48 c && Nat.ble c 57 || Nat.beq c 45 || Nat.beq c 95 || Nat.beq c 46)
theorem ble_int (a b : Nat) : Nat.ble a b = decide ((a : Int) ≤ (b : Int)) := by
 rw [Bool.eq_iff_iff, Nat.ble_eq, decide_eq_true_eq]; omega
theorem beq_int (a b : Nat) : Nat.beq a b = decide ((a : Int) = (b : Int)) := by
 rw [Bool.eq_iff_iff, Nat.beq_eq, decide_eq_true_eq]; omega
theorem letN_eq (c : Nat) : letN c = !isLet (c : Int) := by
 unfold letN isLet
 simp only [ble_int, beq_int]
 rfl
def primsT : Tr (List V → Option (V × List V)) :=
 (.node (.node (.node (.node .leaf 57 (primWS 1 89 5) .leaf) 59 primItoa (.node .leaf 60 (primWB 89 5) .leaf)) 61 (primBytesW 89 5) (.node (.node .leaf 86 primCloneS .leaf) 92 (primSort 93 4) (.node .leaf 96 (primWS 0 136 5) .leaf))) 97 (primLenW 136 5) (.node (.node (.node .leaf 98 (primStrW 136 5) .leaf) 112 primCloneB (.node .leaf 129 (primContains 130 letN) .leaf)) 145 primGrow (.node (.node .leaf 209 primCount .leaf) 219 primIndex .leaf)))
def prims (f : Nat) (args : List V) : Option (V × List V) := match primsT.get f with
 | some g => g args
 | none => none
theorem letN_high (x : Nat) (h : 128 ≤ x) : letN x = true := by
 rw [letN_eq]
 unfold isLet
 simp only [Bool.not_eq_true', Bool.or_eq_false_iff, Bool.and_eq_false_iff, decide_eq_false_iff_not]
 omega
theorem prims_ok {G : Nat → Option (List V)} : ∀ f args res outs, prims f args = some (res, outs) → Does Tryz.prog G f args res outs := by
 have hA : primsT.All fun f g => ∀ args res outs, g args = some (res, outs) → Does Tryz.prog G f args res outs := by
  refine ⟨⟨⟨⟨trivial, ?_, trivial⟩, ?_, ⟨trivial, ?_, trivial⟩⟩, ?_, ⟨⟨trivial, ?_, trivial⟩, ?_, ⟨trivial, ?_, trivial⟩⟩⟩, ?_, ⟨⟨⟨trivial, ?_, trivial⟩, ?_, ⟨trivial, ?_, trivial⟩⟩, ?_, ⟨⟨trivial, ?_, trivial⟩, ?_, trivial⟩⟩⟩ <;> intro args res outs h
  ·
   exact writeS_ok Tryz.call57 (fun w b O bs s h1 h2 h3 => buf_writeS w b O bs s h1 h2 h3) h
  ·
   exact itoa_ok Tryz.call59 itoa_small h
  ·
   exact writeB_ok Tryz.call60 (fun w b O bs s a o c h1 h2 h3 h4 h5 h6 h7 h8 => buf_writeB w b O bs s a o c h1 h2 h3 h4 h5 h6 h7 h8) h
  ·
   exact bytesW_ok Tryz.call61 (fun w b v lr O bs h1 h2 => buf_bytes w b v lr O bs h1 h2) h
  ·
   exact cloneS_ok Tryz.call86 Tryz.slices_Clone_string_nil Tryz.slices_Clone_string_zero Tryz.slices_Clone_string h
  ·
   exact patchSort_ok h
  ·
   exact writeS_ok Tryz.call96 (fun w b O bs s h1 h2 h3 => builder_write w b O bs s h1 h2 h3) h
  ·
   exact lenW_ok Tryz.call97 (fun w b O bs h => builder_len w b O bs h) h
  ·
   exact strW_ok Tryz.call98 (fun w b O bs h1 h2 => builder_string w b O bs h1 h2) h
  ·
   exact cloneB_ok Tryz.call112 cloneB_nil (fun a n c xs w h1 h2 h3 => cloneB_at a n c xs w h1 h2 h3) h
  ·
   refine contains_ok (g := 130) Tryz.call129 Tryz.call130 letN_high (fun c w => ?_) (fun lb s w hp => Any.strings_ContainsFunc_grows Tryz.laysGw17 130 lb Tryz.call130 letN s w hp) h
   rw [letN_eq]
   exact notLetter_any c w
  ·
   exact grow_ok Tryz.call145 growB_zero growB_pos h
  ·
   exact count_ok Tryz.func209 (by kernel_rfl) (by kernel_rfl) (by kernel_rfl) (by kernel_rfl) h
  ·
   exact index_ok Tryz.func219 (by kernel_rfl) (by kernel_rfl) (by kernel_rfl) (by kernel_rfl) h
 intro f args res outs h
 unfold prims at h
 split at h
 ·
  rename_i g hg
  exact hA.get hg args res outs h
 ·
  cases h
#print axioms prims_ok
end Go.Proofs.YtloekbdlmikkcaaGreatDoor
