/- Walks of the library functions that insert and delete rows, and of a predicate. No condition. -/
import Derived.Test.YtloekbdlmikkcaaGreatDoorProg
import Derived.WalkKit
import Derived.BigGuard
import Derived.WalkSpells
import Derived.Deep.RegionLaw
import Derived.Test.YtloekbdlmikkcaaGreatDoorZvC6
import Derived.Lib.Overlaps
import Derived.Laws.Externs
namespace Go.Proofs.YtloekbdlmikkcaaGreatDoor
open Go Go.RowKit Go.Proofs
def isLet (c : Int) : Bool := decide (97 ≤ c) && decide (c ≤ 122) || decide (65 ≤ c) && decide (c ≤ 90) || decide (48 ≤ c) && decide (c ≤ 57) || decide (c = 45) || decide (c = 95) || decide (c = 46)
set_option maxHeartbeats 1000000 in
set_option maxRecDepth 100000 in
theorem letter_any (c : Int) (w : World) : Calls Tryz.prog 131 #[.int .i32 c] w fun e w' => e = .returned (.bool (isLet c)) ∧ w' = w := by
 go_enter Tryz.func131, Tryz.ntmps131
 go_wp2
 all_goals (go_ret; refine ⟨congrArg Ending.returned (congrArg Value.bool ?_), rfl⟩)
 all_goals (rw [Bool.eq_iff_iff]; simp only [isLet, Bool.or_eq_true, Bool.and_eq_true, decide_eq_true_eq, beq_iff_eq, true_iff, Bool.false_eq_true, false_iff]; first | omega | (simp_all; done) | (simp_all; omega) | trace_state)
theorem notLetter_any (c : Int) (w : World) : Calls Tryz.prog 130 #[.int .i32 c] w fun e w' => e = .returned (.bool (!isLet c)) ∧ w' = w := by
 go_enter Tryz.func130, Tryz.ntmps130
 go_wp2_with (go_at_call 131; refine (letter_any _ _).mono ?_; rintro e w' ⟨rfl, rfl⟩)
 go_ret
 exact ⟨rfl, rfl⟩
end Go.Proofs.YtloekbdlmikkcaaGreatDoor
namespace Go.Proofs.YtloekbdlmikkcaaGreatDoor
open Go Go.RowKit Go.Proofs Go.Zv
theorem step_append_run {P : Program} {ops : Array Oper} {o : Oper} {a : Act} {w : World} {K : Act → World → Prop} {Q : Exit → Act → World → Prop} {E : Prop}
  (hg : o.guard = none) (d x : Operand) (t t' : TypeId) (hop : o.op = Op.call { callee := Callee.builtin Builtin.append, args := #[d, x], argTypes := #[t, t'] })
  (v u : Value) (hd : a.eval d = v) (hx : a.eval x = u) {v' : Value} {w' : World} (hr : (Builtin.append_ #[t, t'] o.type #[v, u]).run P w = .ok v' w') (hK : K (a.put o.dst v') w') :
  if Region.wanted o (yielded ops a.tmps) = true then Oper.wp P o a w K Q else E := by
 have hw : Region.wanted o (yielded ops a.tmps) = true := by simp [Region.wanted, hg]
 rw [if_pos hw]
 unfold Oper.wp
 simp [execOp, hop, resolve, invoke, builtin, hd, hx, hr, Result.andThen]
 exact hK
theorem wpList_clear_run {P : Program} {ops : Array Oper} {rest : List Oper} {o : Oper} {a : Act} {w : World} {Q : Exit → Act → World → Prop} (hg : o.guard = none) (d : Operand) (t : TypeId)
  (ho : o.op = .call { callee := .builtin .clear, args := #[d], argTypes := #[t] }) (v : Value) (hd : a.eval d = v) {v' : Value} {w' : World}
  (hr : (Builtin.clear_ #[t] o.type #[v]).run P w = .ok v' w') (h : wpList P ops Q rest (a.put o.dst v') w') : wpList P ops Q (o :: rest) a w :=
 wpList_plain hg fun K hK => by
  unfold Oper.wp
  simp [execOp, ho, resolve, invoke, builtin, hd, hr, Result.andThen]
  exact hK _ _ h
set_option maxHeartbeats 1000000 in
set_option maxRecDepth 100000 in
theorem delete_any (b o n c i j : Nat) (w w1 w2 : World) (A : Addr) (hij : i < j) (hjn : j ≤ n) (hnc : n ≤ c) (hA : (if c = j then some (⟨b, o, none⟩ : Addr) else some ⟨b, o + j * 2, none⟩) = some A)
  (happ : (Builtin.append_ #[22, 22] 22 #[.slice (some ⟨b, o, none⟩) i c, .slice (some A) (n - j) (c - j)]).run Tryz.prog w.drew = .ok (.slice (some ⟨b, o, none⟩) (i + (n - j)) c) w1)
  (hclr : (Builtin.clear_ #[22] 0 #[.slice (some ⟨b, o + (i + (n - j)) * 2, none⟩) (n - (i + (n - j))) (c - (i + (n - j)))]).run Tryz.prog w1 = .ok (.tuple #[]) w2) :
  Calls Tryz.prog 83 #[.slice (some ⟨b, o, none⟩) n c, .int .i64 i, .int .i64 j] w fun e w' => e = .returned (.slice (some ⟨b, o, none⟩) (i + (n - j)) c) ∧ w' = w2 := by
 have hic : i ≤ c := by omega
 have hjc : j ≤ c := by omega
 have hne : ((i : Int) == (j : Int)) = false := by simp; omega
 go_enter Tryz.func83, Tryz.ntmps83
 go_wp2_with fail
 go_region_law (refine step_append_run rfl (.tmp 22) (.tmp 25) 22 22 rfl _ _ (by simp [Act.eval, Act.put]) (by simp [Act.eval, Act.put]) happ ?_)
 go_wp2_with (at_builtin; refine wpList_clear_run rfl (.tmp 31) 22 rfl _ rfl hclr ?_)
 go_ret
 exact ⟨rfl, rfl⟩
end Go.Proofs.YtloekbdlmikkcaaGreatDoor
namespace Go.Proofs.YtloekbdlmikkcaaGreatDoor
open Go Go.RowKit Go.Proofs Go.Zv
theorem wpList_append_eq {P : Program} {ops : Array Oper} {rest : List Oper} {o : Oper} {a : Act} {w : World} {Q : Exit → Act → World → Prop} (hg : o.guard = none) (d x : Operand) (t t' : TypeId)
  (ho : o.op = .call { callee := .builtin .append, args := #[d, x], argTypes := #[t, t'] }) (v u : Value) (hd : a.eval d = v) (hx : a.eval x = u) {v' : Value} {w' : World}
  (hr : (Builtin.append_ #[t, t'] o.type #[v, u]).run P w = .ok v' w') (h : wpList P ops Q rest (a.put o.dst v') w') : wpList P ops Q (o :: rest) a w :=
 wpList_plain hg fun K hK => by
  unfold Oper.wp
  simp [execOp, ho, resolve, invoke, builtin, hd, hx, hr, Result.andThen]
  exact hK _ _ h
theorem wpList_copy_eq {P : Program} {ops : Array Oper} {rest : List Oper} {o : Oper} {a : Act} {w : World} {Q : Exit → Act → World → Prop} (hg : o.guard = none) (d x : Operand) (t t' : TypeId)
  (ho : o.op = .call { callee := .builtin .copy, args := #[d, x], argTypes := #[t, t'] }) (v u : Value) (hd : a.eval d = v) (hx : a.eval x = u) {v' : Value} {w' : World}
  (hr : (Builtin.copy_ #[t, t'] o.type #[v, u]).run P w = .ok v' w') (h : wpList P ops Q rest (a.put o.dst v') w') : wpList P ops Q (o :: rest) a w :=
 wpList_plain hg fun K hK => by
  unfold Oper.wp
  simp [execOp, ho, resolve, invoke, builtin, hd, hx, hr, Result.andThen]
  exact hK _ _ h
theorem step_copy_run {P : Program} {ops : Array Oper} {o : Oper} {a : Act} {w : World} {K : Act → World → Prop} {Q : Exit → Act → World → Prop} {E : Prop}
  (hg : o.guard = none) (d x : Operand) (t t' : TypeId) (hop : o.op = Op.call { callee := Callee.builtin Builtin.copy, args := #[d, x], argTypes := #[t, t'] })
  (v u : Value) (hd : a.eval d = v) (hx : a.eval x = u) {v' : Value} {w' : World} (hr : (Builtin.copy_ #[t, t'] o.type #[v, u]).run P w = .ok v' w') (hK : K (a.put o.dst v') w') :
  if Region.wanted o (yielded ops a.tmps) = true then Oper.wp P o a w K Q else E := by
 have hw : Region.wanted o (yielded ops a.tmps) = true := by simp [Region.wanted, hg]
 rw [if_pos hw]
 unfold Oper.wp
 simp [execOp, hop, resolve, invoke, builtin, hd, hx, hr, Result.andThen]
 exact hK
set_option maxHeartbeats 1000000 in
set_option maxRecDepth 100000 in
theorem insert_end (base : Option Addr) (n c m : Nat) (vb : Addr) (vc : Nat) (w w1 : World) (r : Value) (hm : 0 < m) (hnc : n ≤ c)
  (happ : (Builtin.append_ #[22, 22] 22 #[.slice base n c, .slice (some vb) m vc]).run Tryz.prog w = .ok r w1) :
  Calls Tryz.prog 115 #[.slice base n c, .int .i64 n, .slice (some vb) m vc] w fun e w' => e = .returned r ∧ w' = w1 := by
 have hz1 : ¬ ((m : Int) = 0) := by omega
 go_enter Tryz.func115, Tryz.ntmps115
 cases base with
 | none =>
  go_wp2_with (at_builtin; refine wpList_append_eq rfl _ _ 22 22 rfl _ _ rfl rfl happ ?_)
  all_goals (go_ret; exact ⟨rfl, rfl⟩)
 | some a =>
  obtain ⟨ab, ao, asp⟩ := a
  go_wp2_with (at_builtin; refine wpList_append_eq rfl _ _ 22 22 rfl _ _ rfl rfl happ ?_)
  all_goals (go_ret; exact ⟨rfl, rfl⟩)
set_option maxHeartbeats 2000000 in
set_option maxRecDepth 100000 in
theorem insert_shift (b o n c i m : Nat) (vb : Addr) (vc : Nat) (w w1 w2 : World) (v1 v2 : Value) (hi : i < n) (hm : 0 < m) (hroom : n + m ≤ c) (hbig : n + m ≤ 9223372036854775807)
  (hov : ∀ lb cb, (callFunc 150 #[.slice (some vb) m vc, .slice (some ⟨b, o + (i + m) * 2, none⟩) lb cb]).run Tryz.prog w = .ok (.value (.bool false)) w)
  (hc1 : (Builtin.copy_ #[22, 22] 3 #[.slice (some ⟨b, o + (i + m) * 2, none⟩) (n + m - (i + m)) (c - (i + m)), .slice (some ⟨b, o + i * 2, none⟩) (n + m - i) (c - i)]).run Tryz.prog w.drew = .ok v1 w1)
  (hc2 : (Builtin.copy_ #[22, 22] 3 #[.slice (some ⟨b, o + i * 2, none⟩) (n + m - i) (c - i), .slice (some vb) m vc]).run Tryz.prog w1 = .ok v2 w2) :
  Calls Tryz.prog 115 #[.slice (some ⟨b, o, none⟩) n c, .int .i64 i, .slice (some vb) m vc] w fun e w' => e = .returned (.slice (some ⟨b, o, none⟩) (n + m) c) ∧ w' = w2 := by
 have hz1 : ¬ ((m : Int) = 0) := by omega
 have hz2 : ¬ ((i : Int) = (n : Int)) := by omega
 have hw1 : IntKind.i64.wrap ((i : Int) + (m : Int)) = (i : Int) + (m : Int) := by rw [IntKind.wrap_i64]; omega
 have hw2 : IntKind.i64.wrap ((n : Int) + (m : Int)) = (n : Int) + (m : Int) := by rw [IntKind.wrap_i64]; omega
 have hb1 : (0 : Int) ≤ (i : Int) + (m : Int) := by omega
 have hin : i ≤ n := by omega
 have htn : ((i : Int) + (m : Int)).toNat = i + m := by omega
 have htn2 : ((n : Int) + (m : Int)).toNat = n + m := by omega
 have hb2 : ¬ (c = i + m) := by omega
 have hb3 : (i : Int) ≤ (n : Int) + (m : Int) := by omega
 have hb4 : ¬ (c = i) := by omega
 have hb5 : ¬ ((c : Int) < (n : Int) + (m : Int)) := by omega
 go_enter Tryz.func115, Tryz.ntmps115
 go_wp2_with (simp only [hov])
 go_region_law (refine step_copy_run rfl _ _ 22 22 rfl _ _ (by simp [Act.eval, Act.put]) (by simp [Act.eval, Act.put]) hc1 ?_)
 go_wp2_with (at_builtin; refine wpList_copy_eq rfl _ _ 22 22 rfl _ _ rfl rfl hc2 ?_)
 go_ret
 exact ⟨rfl, rfl⟩
set_option maxHeartbeats 2000000 in
set_option maxRecDepth 100000 in
theorem insert_grow (b o n c i m g G : Nat) (vb : Addr) (vc : Nat) (w w1 w2 w3 : World) (v1 v2 : Value) (hi : i < n) (hm : 0 < m) (hnc : n ≤ c) (hroom : c < n + m) (hbig : n + m ≤ 9223372036854775807) (hG : n + m ≤ G)
  (happ : (Builtin.append_ #[22, 3] 22 #[.slice (some ⟨b, o, none⟩) i c, .int .i64 ((n : Int) + (m : Int) - (i : Int))]).run Tryz.prog w = .ok (.slice (some ⟨g, 0, none⟩) (n + m) G) w1)
  (hc1 : (Builtin.copy_ #[22, 22] 3 #[.slice (some ⟨g, i * 2, none⟩) (n + m - i) (G - i), .slice (some vb) m vc]).run Tryz.prog w1 = .ok v1 w2)
  (hc2 : (Builtin.copy_ #[22, 22] 3 #[.slice (some ⟨g, (i + m) * 2, none⟩) (n + m - (i + m)) (G - (i + m)), .slice (some ⟨b, o + i * 2, none⟩) (n - i) (c - i)]).run Tryz.prog w2.drew = .ok v2 w3) :
  Calls Tryz.prog 115 #[.slice (some ⟨b, o, none⟩) n c, .int .i64 i, .slice (some vb) m vc] w fun e w' => e = .returned (.slice (some ⟨g, 0, none⟩) (n + m) G) ∧ w' = w3 := by
 have hz1 : ¬ ((m : Int) = 0) := by omega
 have hz2 : ¬ ((i : Int) = (n : Int)) := by omega
 have hz3 : (c : Int) < (n : Int) + (m : Int) := by omega
 have hw1 : IntKind.i64.wrap ((i : Int) + (m : Int)) = (i : Int) + (m : Int) := by rw [IntKind.wrap_i64]; omega
 have hw2 : IntKind.i64.wrap ((n : Int) + (m : Int)) = (n : Int) + (m : Int) := by rw [IntKind.wrap_i64]; omega
 have hw3 : IntKind.i64.wrap ((n : Int) + (m : Int) - (i : Int)) = (n : Int) + (m : Int) - (i : Int) := by rw [IntKind.wrap_i64]; omega
 have hb1 : (0 : Int) ≤ (i : Int) + (m : Int) := by omega
 have hin : i ≤ n := by omega
 have hic : i ≤ c := by omega
 have htn : ((i : Int) + (m : Int)).toNat = i + m := by omega
 have hb2 : ¬ (G = i + m) := by omega
 have hb3 : (i : Int) ≤ (n : Int) + (m : Int) := by omega
 have hb4 : ¬ (c = i) := by omega
 have hb5 : ¬ (G = i) := by omega
 have hb6 : (i : Int) ≤ (n : Int) := by omega
 go_enter Tryz.func115, Tryz.ntmps115
 go_wp2_with (first
  | (at_builtin; refine wpList_append_eq rfl _ _ 22 3 rfl _ _ rfl rfl happ ?_)
  | (at_builtin; refine wpList_copy_eq rfl _ _ 22 22 rfl _ _ rfl rfl hc1 ?_))
 go_region_law (refine step_copy_run rfl _ _ 22 22 rfl _ _ (by simp [Act.eval, Act.put]) (by simp [Act.eval, Act.put]) hc2 ?_)
 go_wp2
 go_ret
 exact ⟨rfl, rfl⟩
end Go.Proofs.YtloekbdlmikkcaaGreatDoor
