/- Sorting patches: the comparison walked, the library's sort by its contract. No condition. -/
import Derived.Test.YtloekbdlmikkcaaGreatDoorShelfK
import Derived.Test.YtloekbdlmikkcaaGreatDoorShelf2K
import Derived.Test.YtloekbdlmikkcaaGreatDoorZvKs
import Derived.WalkKit
import Derived.BigGuard
import Derived.WalkSpells
import Derived.KernelRfl
set_option linter.unusedSimpArgs false
set_option linter.unusedVariables false
namespace Go.Proofs.YtloekbdlmikkcaaGreatDoor
open Go Go.RowKit Go.Proofs Go.Zv
set_option maxHeartbeats 1000000 in
set_option maxRecDepth 100000 in
theorem patchCmp (x y : Elem 3) (W : World) : Calls Tryz.prog 93 #[.agg (cellsE x).toArray, .agg (cellsE y).toArray] W fun e w' => e = .returned (.int .i64 (cfE x y)) ∧ ∃ q os', w' = Go.Sort.grow (W.drewN q) os' := by
 obtain ⟨s, l, hl, hx⟩ := x
 obtain ⟨t, m, hm, hy⟩ := y
 match l, hl with
 | [a1, a2, a3], _ =>
 match m, hm with
 | [b1, b2, b3], _ =>
 have hcon := fun W' => Tryz.strings_Compare s t W'
 show Calls Tryz.prog 93 #[.agg #[.string s, a1, a2, a3], .agg #[.string t, b1, b2, b3]] W fun e w' => e = .returned (.int .i64 (Lib.compareBytes s.data.toList t.data.toList)) ∧ _
 generalize Lib.compareBytes s.data.toList t.data.toList = r at hcon ⊢
 go_enter Tryz.func93, Tryz.ntmps93
 go_wp2_with (go_at_call 94; refine (hcon _).mono ?_; rintro e w' ⟨rfl, rfl⟩)
 go_ret
 exact ⟨rfl, 0, _, by rw [Go.Sort.alloc_eq_grow, Go.Sort.alloc_eq_grow, Go.Sort.grow_grow]; rfl⟩
theorem patchSort_ok {G : Nat → Option (List V)} {args outs : List V} {res : V} (h : primSort 93 4 args = some (res, outs)) : Does Tryz.prog G 92 args res outs :=
 sort_ok (k := 3) (by decide) Tryz.call92
  (fun b o c d w hH hb hd => AnyQ.slices_SortFunc Tryz.sortPatch 4 Tryz.isAgg39 Tryz.sizeOf39 cellsE (fun x => cellsE_len x) (fun x => cellsE_one x) cfE (swoE 3) 93 #[] b o c d w
   Tryz.call93 (fun _ _ _ _ x y => patchCmp x y _) hH hb hd)
  (fun a w => AnyF.slices_SortFunc_none { Tryz.sortPatch with } a 0 _ w) h
#print axioms patchSort_ok
end Go.Proofs.YtloekbdlmikkcaaGreatDoor
