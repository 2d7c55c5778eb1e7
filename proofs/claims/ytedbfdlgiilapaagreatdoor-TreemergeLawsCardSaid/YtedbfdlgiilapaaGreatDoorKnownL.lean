/- What is known of the library's functions at this program. No condition. -/
import Derived.Test.YtedbfdlgiilapaaGreatDoorShelfL
import Derived.Test.YtedbfdlgiilapaaGreatDoorZvLx
import Derived.Test.YtedbfdlgiilapaaGreatDoorZvL6
import Derived.Test.YtedbfdlgiilapaaGreatDoorWalkL
import Derived.Test.YtedbfdlgiilapaaGreatDoorZvLt
import Derived.Test.YtedbfdlgiilapaaGreatDoorWalkbL
import Derived.KernelRfl
set_option linter.unusedSimpArgs false
set_option linter.unusedVariables false
namespace Go.Proofs.YtedbfdlgiilapaaGreatDoor
open Go Go.Zv Go.RowKit Go.Proofs
set_option maxRecDepth 100000
def letN (c:Nat):Bool:=!(Nat.ble 97 c&&Nat.ble c 122||Nat.ble 65 c&&Nat.ble c 90||Nat.ble 48 c&&Nat.ble c 57||Nat.beq c 45||Nat.beq c 95||Nat.beq c 46)
theorem ble_int (a b:Nat):Nat.ble a b=decide ((a:Int)≤(b:Int)):=by
 rw[Bool.eq_iff_iff,Nat.ble_eq,decide_eq_true_eq];omega
theorem beq_int (a b:Nat):Nat.beq a b=decide ((a:Int)=(b:Int)):=by
 rw[Bool.eq_iff_iff,Nat.beq_eq,decide_eq_true_eq];omega
theorem letN_eq (c:Nat):letN c=!isLet (c:Int):=by
 unfold letN isLet
 simp only[ble_int,beq_int]
 rfl
def primsT:Tr (List V→Option (V×List V)) :=
 (.node (.node (.node (.node .leaf 52 primCloneB .leaf) 97 primSortS .leaf) 98 primCompactS (.node (.node .leaf 104 primJoin .leaf) 106 primRepI .leaf)) 108 primCloneS (.node (.node (.node .leaf 127 (primContains 218 letN) .leaf) 140 (primGrowK 2) .leaf) 158 primCount (.node (.node .leaf 224 primCount .leaf) 227 primIndex .leaf)))
def prims (f:Nat) (args:List V):Option (V×List V):=match primsT.get f with
 | some g=>g args
 | none=>none
theorem letN_high (x:Nat) (h:128≤x):letN x=true:=by
 rw[letN_eq]
 unfold isLet
 simp only[Bool.not_eq_true',Bool.or_eq_false_iff,Bool.and_eq_false_iff,decide_eq_false_iff_not]
 omega
theorem prims_ok {G:Nat→Option (List V)}:∀ f args res outs,prims f args=some (res,outs)→Does Tryz.prog G f args res outs:=by
 have hA:primsT.All fun f g=>∀ args res outs,g args=some (res,outs)→Does Tryz.prog G f args res outs:=by
  refine ⟨⟨⟨⟨trivial,?_,trivial⟩,?_,trivial⟩,?_,⟨⟨trivial,?_,trivial⟩,?_,trivial⟩⟩,?_,⟨⟨⟨trivial,?_,trivial⟩,?_,trivial⟩,?_,⟨⟨trivial,?_,trivial⟩,?_,trivial⟩⟩⟩ <;> intro args res outs h
  ·
   exact cloneB_ok Tryz.call52 Tryz.bytes_Clone_nil (fun a n c xs w h1 h2 h3=>Tryz.bytes_Clone_at a n c xs w h1 (by have:=h2;unfold Go.Zv.lim at this;omega) h3) h
  ·
   exact sortS_ok Tryz.call97 Tryz.slices_Sort_string (fun a w=>Tryz.slices_Sort_string_none a 0 w) h
  ·
   exact compactS_ok Tryz.call98 Tryz.slices_Compact_string_arr (fun a w=>Tryz.slices_Compact_string_empty a 0 w) h
  ·
   exact join_ok Tryz.call104 Tryz.strings_Join_none Tryz.strings_Join h
  ·
   exact repI_ok Tryz.call106 repI_any h
  ·
   exact cloneS_ok Tryz.call108 Tryz.slices_Clone_string_nil Tryz.slices_Clone_string_zero Tryz.slices_Clone_string h
  ·
   refine contains_ok (g:=218) Tryz.call127 Tryz.call218 letN_high (fun c w=>?_) (fun lb s w hp=>Any.strings_ContainsFunc_grows Tryz.laysGw17 218 lb Tryz.call218 letN s w hp) h
   rw[letN_eq]
   exact notLetter_any c w
  ·
   exact growK_ok Tryz.call140 growF_zero growF_pos h
  ·
   exact count_ok Tryz.func158 (by kernel_rfl) (by kernel_rfl) (by kernel_rfl) (by kernel_rfl) h
  ·
   exact count_ok Tryz.func224 (by kernel_rfl) (by kernel_rfl) (by kernel_rfl) (by kernel_rfl) h
  ·
   exact index_ok Tryz.func227 (by kernel_rfl) (by kernel_rfl) (by kernel_rfl) (by kernel_rfl) h
 intro f args res outs h
 unfold prims at h
 split at h
 ·
  rename_i g hg
  exact hA.get hg args res outs h
 ·
  cases h
#print axioms prims_ok
end Go.Proofs.YtedbfdlgiilapaaGreatDoor
