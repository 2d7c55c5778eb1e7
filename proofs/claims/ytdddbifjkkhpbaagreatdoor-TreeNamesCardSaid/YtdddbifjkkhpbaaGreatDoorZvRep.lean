/- Zv: how values of the model stand for values of the pure interpreter, in a world with stable blocks (S) and owned ones. No condition. -/
import Derived.Test.YtdddbifjkkhpbaaGreatDoorZvSem
namespace Go.Zv
open Go

/-- Block b is a row of at least n cells, none of them frozen. -/
def OpenRow (k : Nat) (w : World) (b n : Nat) : Prop :=
  ∃ cs e lo hi, w.heap[b]? = some (.cells cs e (lo, hi)) ∧ n ≤ cs.size ∧ (lo = hi ∨ (k = 1 ∧ cs.size ≤ lo))

mutual
/-- Value v stands for x; O: the blocks that x owns. -/
inductive Rep (S : Nat → Prop) (w : World) : Value → V → List Nat → Prop
  | undef (v : Value) : Rep S w v .undef []
  | int (k : IntKind) (n : Int) : Rep S w (.int k n) (.int k n) []
  | bool (b : Bool) : Rep S w (.bool b) (.bool b) []
  | str (s : ByteArray) : Rep S w (.string s) (.str s.data.toList) []
  | nilsl (a : Option Addr) : Rep S w (.slice a 0 0) .nilsl []
  | nilp : Rep S w (.pointer none) .nilp []
  | agg {cs : Array Value} {vs : List V} : (∀ c ∈ cs.toList, c.oneCell' = true) → Reps S w cs.toList vs [] → Rep S w (.agg cs) (.agg vs) []
  | tup {cs : Array Value} {vs : List V} {O : List Nat} : Reps S w cs.toList vs O → Rep S w (.tuple cs) (.tup vs) O
  | cl {v : Value} {x : V} : Rep S w v x [] → Rep S w v (.cl x) []
  | sl0 (a : Option Addr) (c k : Nat) (f : Bool) : (f = true → c = 0) → Rep S w (.slice a 0 c) (.sl k f []) []
  | sl {b o c k : Nat} {f : Bool} {rows : List (List V)} : 0 < k → rows ≠ [] → (∀ r ∈ rows, r.length = k) → S b → (rows.length ≤ c ∧ (f = true → c = rows.length)) →
      Mem S w b o rows.flatten [] → Rep S w (.slice (some ⟨b, o, none⟩) rows.length c) (.sl k f rows) []
  | own0 (a : Option Addr) (n : Bool) (k : Nat) : Rep S w (.slice a 0 0) (.own n k []) []
  | own {b o c k : Nat} {n : Bool} {rows : List (List V)} {O : List Nat} : 0 < k → (∀ r ∈ rows, r.length = k) → OpenRow k w b (o + c * k) → rows.length ≤ c →
      (n = false → O = []) → Mem S w b o rows.flatten O → Rep S w (.slice (some ⟨b, o, none⟩) rows.length c) (.own n k rows) (b :: O)
  | obox {b : Nat} {cells : List V} {O : List Nat} : OpenRow 1 w b cells.length → Mem S w b 0 cells O → Rep S w (.pointer (some ⟨b, 0, none⟩)) (.obox cells) (b :: O)
  | ptr (v : Value) (r : Nat) (p : Path) : Rep S w v (.ptr r p) []
  | ref (v : Value) (r : Nat) (p : Path) : Rep S w v (.ref r p) []
  | bsl (v : Value) (r : Nat) (p : Path) (n : Nat) : Rep S w v (.bsl r p n) []
  | iptr {b o off a : Nat} {cells : List V} : S b → a = o + off → Mem S w b o cells [] → Rep S w (.pointer (some ⟨b, a, none⟩)) (.iptr cells off) []
  | fn {f : Nat} {caps : Array Value} {vs : List V} : Reps S w caps.toList vs [] → Rep S w (.func (.func f) #[] caps) (.fn f vs) []
inductive Reps (S : Nat → Prop) (w : World) : List Value → List V → List Nat → Prop
  | nil : Reps S w [] [] []
  | cons {v : Value} {x : V} {vs : List Value} {xs : List V} {O1 O2 : List Nat} : Rep S w v x O1 → Reps S w vs xs O2 → Reps S w (v :: vs) (x :: xs) (O1 ++ O2)
inductive Mem (S : Nat → Prop) (w : World) : Nat → Nat → List V → List Nat → Prop
  | nil (b o : Nat) : Mem S w b o [] []
  | cons {b o : Nat} {v : Value} {x : V} {xs : List V} {O1 O2 : List Nat} : w.cell? ⟨b, o, none⟩ = some v → v.oneCell' = true → Rep S w v x O1 → Mem S w b (o + 1) xs O2 → Mem S w b o (x :: xs) (O1 ++ O2)
end

theorem cell?_of_heap {w w' : World} {b o : Nat} (h : w'.heap[b]? = w.heap[b]?) : w'.cell? ⟨b, o, none⟩ = w.cell? ⟨b, o, none⟩ := by
  simp [World.cell?, h]
theorem OpenRow.of_heap {k : Nat} {w w' : World} {b n : Nat} (h : w'.heap[b]? = w.heap[b]?) (H : OpenRow k w b n) : OpenRow k w' b n := by
  obtain ⟨cs, e, lo, hi, h1, h2⟩ := H
  exact ⟨cs, e, lo, hi, by rw [h, h1], h2⟩

section
variable {S S' : Nat → Prop} {w w' : World}
mutual
theorem Rep.mono (hS : ∀ b, S b → S' b) (hs : ∀ b, S b → w'.heap[b]? = w.heap[b]?) :
    ∀ {v : Value} {x : V} {O : List Nat}, Rep S w v x O → (∀ b ∈ O, w'.heap[b]? = w.heap[b]?) → Rep S' w' v x O
  | _, _, _, .undef v, _ => .undef v
  | _, _, _, .int k n, _ => .int k n
  | _, _, _, .bool b, _ => .bool b
  | _, _, _, .str s, _ => .str s
  | _, _, _, .nilsl a, _ => .nilsl a
  | _, _, _, .nilp, _ => .nilp
  | _, _, _, .agg h0 h, _ => .agg h0 (Reps.mono hS hs h (by simp))
  | _, _, _, .tup h, ho => .tup (Reps.mono hS hs h ho)
  | _, _, _, .cl h, _ => .cl (Rep.mono hS hs h (by simp))
  | _, _, _, .sl0 a c k f h, _ => .sl0 a c k f h
  | _, _, _, .sl h1 h2 h3 h4 h5 h6, _ => .sl h1 h2 h3 (hS _ h4) h5 (Mem.mono hS hs h6 (.inl h4) (by simp))
  | _, _, _, .own0 a n k, _ => .own0 a n k
  | _, _, _, .own h1 h2 h3 h4 h5 h6, ho => .own h1 h2 (h3.of_heap (ho _ (by simp))) h4 h5 (Mem.mono hS hs h6 (.inr (ho _ (by simp))) fun b hb => ho b (by simp [hb]))
  | _, _, _, .obox h1 h2, ho => .obox (h1.of_heap (ho _ (by simp))) (Mem.mono hS hs h2 (.inr (ho _ (by simp))) fun b hb => ho b (by simp [hb]))
  | _, _, _, .ptr v r p, _ => .ptr v r p
  | _, _, _, .ref v r p, _ => .ref v r p
  | _, _, _, .bsl v r p n, _ => .bsl v r p n
  | _, _, _, .iptr h1 h0 h2, _ => .iptr (hS _ h1) h0 (Mem.mono hS hs h2 (.inl h1) (by simp))
  | _, _, _, .fn h, _ => .fn (Reps.mono hS hs h (by simp))
theorem Reps.mono (hS : ∀ b, S b → S' b) (hs : ∀ b, S b → w'.heap[b]? = w.heap[b]?) :
    ∀ {vs : List Value} {xs : List V} {O : List Nat}, Reps S w vs xs O → (∀ b ∈ O, w'.heap[b]? = w.heap[b]?) → Reps S' w' vs xs O
  | _, _, _, .nil, _ => .nil
  | _, _, _, .cons h1 h2, ho => .cons (Rep.mono hS hs h1 fun b hb => ho b (by simp [hb])) (Reps.mono hS hs h2 fun b hb => ho b (by simp [hb]))
theorem Mem.mono (hS : ∀ b, S b → S' b) (hs : ∀ b, S b → w'.heap[b]? = w.heap[b]?) :
    ∀ {b o : Nat} {xs : List V} {O : List Nat}, Mem S w b o xs O → (S b ∨ w'.heap[b]? = w.heap[b]?) → (∀ b ∈ O, w'.heap[b]? = w.heap[b]?) → Mem S' w' b o xs O
  | _, _, _, _, .nil b o, _, _ => .nil b o
  | _, _, _, _, .cons h1 h0 h2 h3, hb, ho => .cons (by rw [cell?_of_heap (hb.elim (hs _) id)]; exact h1) h0 (Rep.mono hS hs h2 fun b hb => ho b (by simp [hb])) (Mem.mono hS hs h3 hb fun b hb => ho b (by simp [hb]))
end
end

/-- The blocks that a value owns are there. -/
theorem lt_of_some {w : World} {b : Nat} {o : Obj} (h : w.heap[b]? = some o) : b < w.heap.size := by
  rcases Nat.lt_or_ge b w.heap.size with h' | h'
  · exact h'
  · rw [Array.getElem?_eq_none h'] at h; cases h
mutual
theorem Rep.low {S : Nat → Prop} {w : World} : ∀ {v : Value} {x : V} {O : List Nat}, Rep S w v x O → ∀ b ∈ O, b < w.heap.size
  | _, _, _, .undef v, _, h | _, _, _, .int k n, _, h | _, _, _, .bool _, _, h | _, _, _, .str s, _, h | _, _, _, .nilsl a, _, h | _, _, _, .nilp, _, h
  | _, _, _, .agg _ _, _, h | _, _, _, .cl _, _, h | _, _, _, .sl0 .., _, h | _, _, _, .sl .., _, h | _, _, _, .own0 .., _, h | _, _, _, .ptr .., _, h
  | _, _, _, .ref .., _, h | _, _, _, .bsl .., _, h | _, _, _, .iptr .., _, h | _, _, _, .fn .., _, h => by cases h
  | _, _, _, .tup h, b, hb => Reps.low h b hb
  | _, _, _, .own _ _ h3 _ _ h6, b, hb => by
    rcases List.mem_cons.1 hb with rfl | hb
    · obtain ⟨cs, e, lo, hi, h, _⟩ := h3; exact lt_of_some h
    · exact Mem.low h6 b hb
  | _, _, _, .obox h1 h2, b, hb => by
    rcases List.mem_cons.1 hb with rfl | hb
    · obtain ⟨cs, e, lo, hi, h, _⟩ := h1; exact lt_of_some h
    · exact Mem.low h2 b hb
theorem Reps.low {S : Nat → Prop} {w : World} : ∀ {vs : List Value} {xs : List V} {O : List Nat}, Reps S w vs xs O → ∀ b ∈ O, b < w.heap.size
  | _, _, _, .nil, _, h => by cases h
  | _, _, _, .cons h1 h2, b, hb => (List.mem_append.1 hb).elim (Rep.low h1 b) (Reps.low h2 b)
theorem Mem.low {S : Nat → Prop} {w : World} : ∀ {b o : Nat} {xs : List V} {O : List Nat}, Mem S w b o xs O → ∀ b ∈ O, b < w.heap.size
  | _, _, _, _, .nil _ _, _, h => by cases h
  | _, _, _, _, .cons _ _ h2 h3, b, hb => (List.mem_append.1 hb).elim (Rep.low h2 b) (Mem.low h3 b)
end

/-! ### Parts of a row -/
theorem Mem.append {S : Nat → Prop} {w : World} {b : Nat} : ∀ {xs ys : List V} {o : Nat} {O1 O2 : List Nat}, Mem S w b o xs O1 → Mem S w b (o + xs.length) ys O2 → Mem S w b o (xs ++ ys) (O1 ++ O2)
  | _, _, _, _, _, .nil _ _, h => by simpa using h
  | _, ys, o, _, O2, .cons (xs := xs) h1 h0 h2 h3, h => by
    have := Mem.append (ys := ys) h3 (by simpa [Nat.add_assoc, Nat.add_comm 1] using h)
    simpa using Mem.cons h1 h0 h2 this
theorem Mem.split {S : Nat → Prop} {w : World} {b : Nat} : ∀ {xs ys : List V} {o : Nat} {O : List Nat}, Mem S w b o (xs ++ ys) O →
    ∃ O1 O2, O = O1 ++ O2 ∧ Mem S w b o xs O1 ∧ Mem S w b (o + xs.length) ys O2
  | [], _, _, O, h => ⟨[], O, rfl, .nil _ _, by simpa using h⟩
  | x :: xs, ys, o, O, h => by
    cases h with
    | cons h1 h0 h2 h3 =>
      rename_i v O1 O2
      obtain ⟨P1, P2, rfl, m1, m2⟩ := Mem.split h3
      refine ⟨O1 ++ P1, P2, by simp, .cons h1 h0 h2 m1, ?_⟩
      simpa [Nat.add_assoc, Nat.add_comm 1] using m2
/-- The cell at index j. -/
theorem Mem.at {S : Nat → Prop} {w : World} {b : Nat} {xs : List V} {o : Nat} {O : List Nat} (h : Mem S w b o xs O) {j : Nat} (hj : j < xs.length) :
    ∃ O1 O2 O3 v, O = O1 ++ O2 ++ O3 ∧ w.cell? ⟨b, o + j, none⟩ = some v ∧ Rep S w v (xs.getD j .undef) O2 ∧
      Mem S w b o (xs.take j) O1 ∧ Mem S w b (o + j + 1) (xs.drop (j + 1)) O3 ∧ v.oneCell' = true := by
  have e : xs = xs.take j ++ (xs.getD j .undef :: xs.drop (j + 1)) := by
    rw [List.getD_eq_getElem?_getD, List.getElem?_eq_getElem hj]; simp
  rw [e] at h
  obtain ⟨O1, P, rfl, m1, m2⟩ := h.split
  have hl : (xs.take j).length = j := by simp; omega
  rw [hl] at m2
  cases m2 with
  | cons h1 h0 h2 h3 => exact ⟨O1, _, _, _, by simp, h1, h2, m1, h3, h0⟩

end Go.Zv
