/- Plain laws: what the plain functions say. No condition. -/
import Derived.Tactics
import Derived.Test.YtloekbdlmikkcaaGreatDoorPlainD
import Derived.Sort.Walk0
namespace Go.Zv
structure Hk (α : Type) where
 at_ : Nat
 old : List α
 new : List α
section
variable {α : Type}
def hunksOf (a b : List α) : Nat → Nat → List (Nat × Nat) → List (Hk α)
 | _, _, [] => []
 | i, k, p :: ps => (if i < p.1 ∨ k < p.2 then [⟨i, (a.take p.1).drop i, (b.take p.2).drop k⟩] else []) ++ hunksOf a b (p.1 + 1) (p.2 + 1) ps
def putOf (a : List α) : Nat → List (Hk α) → List α
 | e, [] => a.drop e
 | e, h :: hs => (a.take h.at_).drop e ++ h.new ++ putOf a (h.at_ + h.old.length) hs
inductive Pairs (a b : List α) : Nat → Nat → List (Nat × Nat) → Prop
 | last (i k : Nat) : i ≤ a.length → k ≤ b.length → Pairs a b i k [(a.length, b.length)]
 | pair {i k x y : Nat} {ps : List (Nat × Nat)} (h : x < a.length) (h' : y < b.length) : i ≤ x → k ≤ y → a[x] = b[y] → Pairs a b (x + 1) (y + 1) ps → Pairs a b i k ((x, y) :: ps)
theorem Pairs.le {a b : List α} {i k : Nat} {ps : List (Nat × Nat)} (h : Pairs a b i k ps) : i ≤ a.length ∧ k ≤ b.length := by
 cases h with
 | last _ _ h1 h2 => exact ⟨h1, h2⟩
 | pair h h' h1 h2 => exact ⟨by omega, by omega⟩
theorem slice_append {l : List α} {e i j : Nat} (h1 : e ≤ i) (h2 : i ≤ j) (h3 : j ≤ l.length) : (l.take i).drop e ++ (l.take j).drop i = (l.take j).drop e := by
 have e1 : l.take i = (l.take j).take i := by rw [List.take_take, Nat.min_eq_left h2]
 have hlen : (l.take j).length = j := by simp [h3]
 rw [e1]
 generalize l.take j = m at hlen
 have : m.drop e = (m.take i ++ m.drop i).drop e := by rw [List.take_append_drop]
 rw [this, List.drop_append_of_le_length (by simp; omega)]
theorem slice_drop {l : List α} {e i : Nat} (h1 : e ≤ i) (h2 : i ≤ l.length) : (l.take i).drop e ++ l.drop i = l.drop e := by
 have := slice_append (l := l) h1 h2 (Nat.le_refl _)
 rwa [List.take_length] at this
theorem slice_succ {l : List α} {e i : Nat} (h1 : e ≤ i) (h2 : i < l.length) : (l.take (i + 1)).drop e = (l.take i).drop e ++ [l[i]] := by
 rw [List.take_succ_eq_append_getElem h2, List.drop_append_of_le_length (by simp; omega)]
theorem put_hunks {a b : List α} {i k : Nat} {ps : List (Nat × Nat)} (h : Pairs a b i k ps) : ∀ e, e ≤ i → putOf a e (hunksOf a b i k ps) = (a.take i).drop e ++ b.drop k := by
 induction h with
 | last i k h1 h2 =>
  intro e he
  by_cases hc : i < a.length ∨ k < b.length
  ·
   simp only [hunksOf, if_pos hc, List.append_nil, putOf, List.take_length]
   have : i + (a.drop i).length = a.length := by simp; omega
   rw [this, List.drop_length, List.append_nil]
  ·
   simp only [hunksOf, if_neg hc, List.append_nil, putOf]
   have e1 : i = a.length := by omega
   have e2 : k = b.length := by omega
   subst e1; subst e2
   simp
 | @pair i k x y ps hx hy h1 h2 heq hp ih =>
  intro e he
  have hdb : b.drop k = (b.take y).drop k ++ (b[y] :: b.drop (y + 1)) := by
   rw [← List.drop_eq_getElem_cons hy, slice_drop h2 (by omega)]
  by_cases hc : i < x ∨ k < y
  ·
   simp only [hunksOf, if_pos hc, List.singleton_append, putOf]
   have hl : i + ((a.take x).drop i).length = x := by simp; omega
   rw [hl, ih x (by omega), slice_succ (Nat.le_refl _) hx, hdb, heq]
   simp
  ·
   have e1 : x = i := by omega
   have e2 : y = k := by omega
   subst e1; subst e2
   simp only [hunksOf, if_neg hc, List.nil_append]
   rw [ih e (by omega), slice_succ he hx, hdb, heq]
   simp
def turned (h : Hk α) (k : Nat) : Hk α := ⟨k, h.new, h.old⟩
theorem hunksOf_swap {a b : List α} {i k : Nat} {ps : List (Nat × Nat)} (h : Pairs a b i k ps) : Pairs b a k i (ps.map fun p => (p.2, p.1)) := by
 induction h with
 | last i k h1 h2 => exact .last _ _ h2 h1
 | pair hx hy h1 h2 heq _ ih => exact .pair hy hx h2 h1 heq.symm ih
inductive Gaps : Nat → List (Hk α) → Prop
 | nil (n : Nat) : Gaps n []
 | cons {n : Nat} {h : Hk α} {hs : List (Hk α)} : n ≤ h.at_ → 0 < h.old.length + h.new.length → Gaps (h.at_ + h.old.length + 1) hs → Gaps n (h :: hs)
theorem Gaps.mono {n m : Nat} {hs : List (Hk α)} (h : Gaps n hs) (hm : m ≤ n) : Gaps m hs := by
 cases h with
 | nil => exact .nil _
 | cons h1 h2 h3 => exact .cons (by omega) h2 h3
theorem hunks_gaps {a b : List α} {i k : Nat} {ps : List (Nat × Nat)} (h : Pairs a b i k ps) : Gaps i (hunksOf a b i k ps) := by
 induction h with
 | last i k h1 h2 =>
  by_cases hc : i < a.length ∨ k < b.length
  ·
   simp only [hunksOf, if_pos hc, List.append_nil]
   exact .cons (Nat.le_refl _) (by simp; omega) (.nil _)
  ·
   simp only [hunksOf, if_neg hc, List.append_nil]
   exact .nil _
 | @pair i k x y ps hx hy h1 h2 heq hp ih =>
  by_cases hc : i < x ∨ k < y
  ·
   simp only [hunksOf, if_pos hc, List.singleton_append]
   refine .cons (Nat.le_refl _) (by simp; omega) ?_
   have hl : i + ((a.take x).drop i).length + 1 = x + 1 := by simp; omega
   show Gaps (i + ((a.take x).drop i).length + 1) _
   rw [hl]
   exact ih
  ·
   simp only [hunksOf, if_neg hc, List.nil_append]
   exact ih.mono (by omega)
theorem hunks_few {a b : List α} {i k : Nat} {ps : List (Nat × Nat)} (h : Pairs a b i k ps) : 3 * (hunksOf a b i k ps).length ≤ (a.length - i) + (b.length - k) + 2 := by
 induction h with
 | last i k h1 h2 =>
  by_cases hc : i < a.length ∨ k < b.length
  ·
   simp only [hunksOf, if_pos hc, List.append_nil, List.length_singleton]; omega
  ·
   simp only [hunksOf, if_neg hc, List.append_nil, List.length_nil]; omega
 | @pair i k x y ps hx hy h1 h2 heq hp ih =>
  by_cases hc : i < x ∨ k < y
  ·
   simp only [hunksOf, if_pos hc, List.singleton_append, List.length_cons]; omega
  ·
   simp only [hunksOf, if_neg hc, List.nil_append]; omega
theorem hunks_fit {a b : List α} {i k : Nat} {ps : List (Nat × Nat)} (h : Pairs a b i k ps) : ∀ x ∈ hunksOf a b i k ps, x.at_ + x.old.length ≤ a.length ∧ (a.take (x.at_ + x.old.length)).drop x.at_ = x.old ∧ (∀ s ∈ x.new, s ∈ b) ∧ x.new.length ≤ b.length := by
 induction h with
 | last i k h1 h2 =>
  intro x hx
  by_cases hc : i < a.length ∨ k < b.length
  ·
   simp only [hunksOf, if_pos hc, List.append_nil, List.mem_singleton] at hx
   subst hx
   have hl : i + ((a.take a.length).drop i).length = a.length := by simp; omega
   refine ⟨by rw [hl]; exact Nat.le_refl _, by rw [hl], fun s hs => List.mem_of_mem_take (List.mem_of_mem_drop hs), by simp⟩
  ·
   simp [hunksOf, if_neg hc] at hx
 | @pair i k x y ps hx hy h1 h2 heq hp ih =>
  intro z hz
  by_cases hc : i < x ∨ k < y
  ·
   simp only [hunksOf, if_pos hc, List.singleton_append, List.mem_cons] at hz
   rcases hz with rfl | hz
   ·
    have hl : i + ((a.take x).drop i).length = x := by simp; omega
    refine ⟨by rw [hl]; omega, by rw [hl], fun s hs => List.mem_of_mem_take (List.mem_of_mem_drop hs), by simp; omega⟩
   ·
    exact ih z hz
  ·
   simp only [hunksOf, if_neg hc, List.nil_append] at hz
   exact ih z hz
theorem hunks_none {a b : List α} {ps : List (Nat × Nat)} (h : Pairs a b 0 0 ps) (h0 : hunksOf a b 0 0 ps = []) : a = b := by
 have := put_hunks h 0 (Nat.le_refl _)
 rw [h0] at this
 simpa [putOf] using this
def invOf : Int → List (Hk α) → List (Int × List α × List α)
 | _, [] => []
 | m, h :: hs => ((h.at_ : Int) + m, h.new, h.old) :: invOf (m + ((h.new.length : Int) - (h.old.length : Int))) hs
theorem inv_hunks {a b : List α} {i k : Nat} {ps : List (Nat × Nat)} (h : Pairs a b i k ps) : invOf ((k : Int) - (i : Int)) (hunksOf a b i k ps) = (hunksOf b a k i (ps.map fun p => (p.2, p.1))).map fun h => ((h.at_ : Int), h.old, h.new) := by
 induction h with
 | last i k h1 h2 =>
  by_cases hc : i < a.length ∨ k < b.length
  ·
   have hc' : k < b.length ∨ i < a.length := by omega
   simp only [List.map_cons, List.map_nil, hunksOf, if_pos hc, if_pos hc', List.append_nil, invOf]
   simp; omega
  ·
   have hc' : ¬ (k < b.length ∨ i < a.length) := by omega
   simp only [List.map_cons, List.map_nil, hunksOf, if_neg hc, if_neg hc', List.append_nil, invOf]
 | @pair i k x y ps hx hy h1 h2 heq hp ih =>
  by_cases hc : i < x ∨ k < y
  ·
   have hc' : k < y ∨ i < x := by omega
   simp only [List.map_cons, hunksOf, if_pos hc, if_pos hc', List.singleton_append, invOf]
   have e1 : ((k : Int) - (i : Int)) + ((((b.take y).drop k).length : Int) - (((a.take x).drop i).length : Int)) = ((y + 1 : Nat) : Int) - ((x + 1 : Nat) : Int) := by
    simp only [List.length_drop, List.length_take]; omega
   rw [e1, ih]
   simp; omega
  ·
   have hc' : ¬ (k < y ∨ i < x) := by omega
   have e1 : x = i := by omega
   have e2 : y = k := by omega
   subst e1; subst e2
   simp only [List.map_cons, hunksOf, if_neg hc, if_neg hc', List.nil_append]
   rw [show ((y : Int) - (x : Int)) = ((y + 1 : Nat) : Int) - ((x + 1 : Nat) : Int) by omega]
   exact ih
variable [DecidableEq α]
def common : List α → List α → Nat
 | [], _ => 0
 | x :: xs, [] => 0
 | x :: xs, y :: ys => if x = y then common xs ys + 1 else max (common xs (y :: ys)) (common (x :: xs) ys)
termination_by a b => a.length + b.length
theorem common_nil (a : List α) : common a [] = 0 := by
 cases a <;> simp [common]
theorem common_pair {a b : List α} {i k : Nat} (hi : i < a.length) (hk : k < b.length) : common (a.drop i) (b.drop k) = if a[i] = b[k] then common (a.drop (i + 1)) (b.drop (k + 1)) + 1 else max (common (a.drop (i + 1)) (b.drop k)) (common (a.drop i) (b.drop (k + 1))) := by
 rw [List.drop_eq_getElem_cons hi, List.drop_eq_getElem_cons hk, common]
theorem common_find {a b : List α} : ∀ (n i k : Nat), (a.length - i) + (b.length - k) ≤ n → 0 < common (a.drop i) (b.drop k) → ∃ x y, ∃ (hx : x < a.length) (hy : y < b.length), i ≤ x ∧ k ≤ y ∧ a[x] = b[y] ∧ common (a.drop (x + 1)) (b.drop (y + 1)) + 1 = common (a.drop i) (b.drop k) := by
 intro n
 induction n with
 | zero =>
  intro i k h hc
  rw [List.drop_of_length_le (by omega)] at hc
  simp [common] at hc
 | succ n ih =>
  intro i k h hc
  by_cases hi : i < a.length
  ·
   by_cases hk : k < b.length
   ·
    rw [common_pair hi hk] at hc ⊢
    by_cases he : a[i] = b[k]
    ·
     rw [if_pos he] at hc ⊢
     exact ⟨i, k, hi, hk, Nat.le_refl _, Nat.le_refl _, he, rfl⟩
    ·
     rw [if_neg he] at hc ⊢
     by_cases hm : common (a.drop i) (b.drop (k + 1)) ≤ common (a.drop (i + 1)) (b.drop k)
     ·
      rw [Nat.max_eq_left hm] at hc ⊢
      obtain ⟨x, y, hx, hy, h1, h2, h3, h4⟩ := ih (i + 1) k (by omega) hc
      exact ⟨x, y, hx, hy, by omega, h2, h3, h4⟩
     ·
      rw [Nat.max_eq_right (by omega)] at hc ⊢
      obtain ⟨x, y, hx, hy, h1, h2, h3, h4⟩ := ih i (k + 1) (by omega) hc
      exact ⟨x, y, hx, hy, h1, by omega, h3, h4⟩
   ·
    rw [List.drop_of_length_le (l := b) (by omega), common_nil] at hc
    omega
  ·
   rw [List.drop_of_length_le (l := a) (by omega)] at hc
   simp [common] at hc
end
end Go.Zv
namespace Go.Zv.G
open Go Go.Zv Go.Proofs
set_option maxRecDepth 100000
abbrev S := List UInt8
theorem bsome {α β : Type} (x : α) (f : α → Option β) : (some x).bind f = f x := Eq.trans (Option.bind_some x f) (Eq.refl _)
attribute [local simp high] bsome
theorem ix_nat {α : Type} {l : List α} {i : Nat} (h : i < l.length) : ix l (i : Int) = some l[i] := by
 unfold ix
 rw [if_pos (by omega)]
 simp [h]
theorem ix_zero {α : Type} {l : List α} (h : 0 < l.length) : ix l 0 = some l[0] := ix_nat (i := 0) h
theorem rng_ok {x : Int} (h1 : -9223372036854775808 ≤ x) (h2 : x < 9223372036854775808) : rng x = some x := by
 unfold rng; rw [if_pos ⟨h1, h2⟩]
theorem rng_nat {x : Nat} (h2 : x < 4611686018427387904) : rng (x : Int) = some (x : Int) := rng_ok (by omega) (by omega)
theorem rng_succ {x : Nat} (h2 : x < 4611686018427387904) : rng ((x : Int) + 1) = some ((x + 1 : Nat) : Int) := rng_ok (by omega) (by omega)
theorem need_ok {p : Prop} [Decidable p] (h : p) : need p = some () := by unfold need; rw [if_pos h]
theorem cutI_nat {α : Type} {l : List α} {a b : Nat} (h1 : a ≤ b) (h2 : b ≤ l.length) : cutI l (a : Int) (b : Int) = some ((l.take b).drop a) := by
 unfold cutI
 rw [if_pos (by omega)]
 simp
theorem cutI_end {α : Type} {l : List α} {a : Nat} (h1 : a ≤ l.length) : cutI l (a : Int) (l.length : Int) = some (l.drop a) := by
 rw [cutI_nat h1 (Nat.le_refl _), List.take_length]
theorem cutI_front {α : Type} {l : List α} {b : Nat} (h2 : b ≤ l.length) : cutI l 0 (b : Int) = some (l.take b) := cutI_nat (a := 0) (by omega) h2
def splitC (c : UInt8) : S → List S
 | [] => [[]]
 | x :: xs => if x = c then [] :: splitC c xs else match splitC c xs with
  | [] => [[x]]
  | p :: ps => (x :: p) :: ps
theorem splitC_ne (c : UInt8) : ∀ s : S, splitC c s ≠ []
 | [] => by simp [splitC]
 | x :: xs => by
  unfold splitC
  split
  ·
   simp
  ·
   split <;> simp
theorem splitC_length (c : UInt8) : ∀ s : S, (splitC c s).length = cnt8 c s + 1
 | [] => rfl
 | x :: xs => by
  unfold splitC cnt8
  by_cases h : x = c
  ·
   simp [h, splitC_length c xs]
  ·
   have := splitC_length c xs
   split
   ·
    rename_i e; exact absurd e h
   ·
    split
    ·
     rename_i e; exact absurd e (splitC_ne c xs)
    ·
     rename_i p ps e
     rw [e] at this
     have hb : (x == c) = false := by simpa using h
     simp only [hb, cond_false, List.length_cons]
     simpa using this
theorem splitC_none (c : UInt8) : ∀ s : S, c ∉ s → splitC c s = [s]
 | [], _ => rfl
 | x :: xs, h => by
  have h1 : x ≠ c := fun e => h (by simp [e])
  have h2 : c ∉ xs := fun e => h (by simp [e])
  unfold splitC
  rw [if_neg h1, splitC_none c xs h2]
theorem splitC_mid (c : UInt8) : ∀ (a b : S), c ∉ a → splitC c (a ++ c :: b) = a :: splitC c b
 | [], b, _ => by simp [splitC]
 | x :: xs, b, h => by
  have h1 : x ≠ c := fun e => h (by simp [e])
  have h2 : c ∉ xs := fun e => h (by simp [e])
  rw [List.cons_append, splitC, if_neg h1, splitC_mid c xs b h2]
theorem cnt8_pos {c : UInt8} : ∀ {s : S}, 0 < cnt8 c s ↔ c ∈ s
 | [] => by simp [cnt8]
 | x :: xs => by
  unfold cnt8
  by_cases h : x = c
  ·
   simp [h]
  ·
   have hb : (x == c) = false := by simpa using h
   simp only [hb, cond_false, cnt8_pos (s := xs), List.mem_cons]
   exact ⟨.inr, fun e => e.resolve_left fun e => h e.symm⟩
theorem cnt8_le {c : UInt8} : ∀ {s : S}, cnt8 c s ≤ s.length
 | [] => by simp [cnt8]
 | x :: xs => by
  unfold cnt8
  have := cnt8_le (c := c) (s := xs)
  cases x == c <;> simp <;> omega
theorem cnt8_append (c : UInt8) : ∀ (a b : S), cnt8 c (a ++ b) = cnt8 c a + cnt8 c b
 | [], b => by simp [cnt8]
 | x :: xs, b => by
  rw [List.cons_append, cnt8, cnt8, cnt8_append c xs b]
  cases x == c <;> simp <;> omega
theorem idx8_spec (c : UInt8) : ∀ (s : S) (k : Nat), (c ∉ s ∧ idx8 c s k = -1) ∨ ∃ a b, s = a ++ c :: b ∧ c ∉ a ∧ idx8 c s k = ((k + a.length : Nat) : Int)
 | [], k => .inl ⟨by simp, rfl⟩
 | x :: xs, k => by
  by_cases h : x = c
  ·
   subst h
   exact .inr ⟨[], xs, by simp, by simp, by simp [idx8]⟩
  ·
   have hb : (x == c) = false := by simpa using h
   rcases idx8_spec c xs (k + 1) with ⟨h1, h2⟩ | ⟨a, b, h1, h2, h3⟩
   ·
    refine .inl ⟨by simp [h1]; exact fun e => h e.symm, ?_⟩
    simp only [idx8, hb, cond_false, h2]
   ·
    refine .inr ⟨x :: a, b, by simp [h1], by simp [h2]; exact fun e => h e.symm, ?_⟩
    simp only [idx8, hb, cond_false, h3, List.length_cons]
    omega
def okB (c : UInt8) : Bool := !letG c.toNat
def okPart (s : S) : Bool := !((s == []) || (s == [46]) || (s == [46, 46])) && s.all okB
def okPath (s : S) : Bool := decide (s.length ≤ 60) && (splitC 47 s).all okPart
theorem f_norm_path_1_eq (n : Nat) (s : S) : f_norm_path_1 n s = some (!okPart s) := by
 unfold f_norm_path_1 okPart
 cases e : (((s == ([] : List UInt8)) || (s == ([46] : List UInt8))) || (s == ([46, 46] : List UInt8))) with
 | true => simp
 | false =>
  simp only [Bool.false_eq_true, if_false, Bool.not_false, Bool.true_and]
  congr 1
  unfold okB
  rw [List.all_eq_not_any_not]
  simp
theorem f_slices_IndexFunc_string_by_norm_path_1_L5_eq (n : Nat) (l : List S) (hl : l.length < 1000000) : ∀ (m i : Nat), l.length < m + i → i ≤ l.length → ∃ r, f_slices_IndexFunc_string_by_norm_path_1_L5 n l m (i : Int) = some r ∧ decide (r ≥ 0) = (l.drop i).any fun s => !okPart s
 | 0, i, h1, h2 => by omega
 | m + 1, i, h1, h2 => by
  rw [f_slices_IndexFunc_string_by_norm_path_1_L5]
  by_cases hi : i < l.length
  ·
   rw [if_pos (by simpa using hi), ix_nat hi]
   simp only [bsome, f_norm_path_1_eq, rng_succ (show i < 4611686018427387904 by omega)]
   rw [List.drop_eq_getElem_cons hi, List.any_cons]
   cases e : (!okPart l[i]) with
   | true => exact ⟨i, by simp, by simp⟩
   | false =>
    obtain ⟨r, h3, h4⟩ := f_slices_IndexFunc_string_by_norm_path_1_L5_eq n l hl m (i + 1) (by omega) (by omega)
    exact ⟨r, by simpa using h3, by simpa using h4⟩
  ·
   rw [if_neg (by simpa using hi)]
   have : i = l.length := by omega
   subst this
   exact ⟨-1, rfl, by simp⟩
theorem f_slices_ContainsFunc_string_by_norm_path_1_eq {n : Nat} {l : List S} (hl : l.length < 1000000) (hn : l.length < n) : f_slices_ContainsFunc_string_by_norm_path_1 n l = some (!(l.all okPart)) := by
 unfold f_slices_ContainsFunc_string_by_norm_path_1 f_slices_IndexFunc_string_by_norm_path_1
 obtain ⟨r, h3, h4⟩ := f_slices_IndexFunc_string_by_norm_path_1_L5_eq n l hl n 0 (by omega) (by omega)
 rw [show ((0 : Nat) : Int) = 0 from rfl] at h3
 rw [h3]
 simp only [bsome, h4, List.drop_zero]
 congr 1
 rw [List.all_eq_not_any_not]
 simp
theorem f_stringslite_Index_one (n : Nat) (s : S) (c : UInt8) : f_stringslite_Index n s [c] = some (idx8 c s 0) := by
 simp [f_stringslite_Index, f_stringslite_IndexByte, ix]
 rintro rfl
 simp [idx8]
theorem f_strings_Index_one (n : Nat) (s : S) (c : UInt8) : f_strings_Index n s [c] = some (idx8 c s 0) := by
 simp [f_strings_Index, f_stringslite_Index_one]
theorem f_strings_Count_one (n : Nat) (s : S) (c : UInt8) : f_strings_Count n s [c] = some ((cnt8 c s : Nat) : Int) := by
 simp [f_strings_Count, ix]
theorem f_strings_genSplit_L32_eq (n : Nat) (c : UInt8) : ∀ (m : Nat) (s : S) (done : List S) (k : Nat), cnt8 c s = k → k < m → done.length + k < 1000000 → s.length < 1000000 →
  f_strings_genSplit_L32 n [c] 0 ((done.length + k : Nat) : Int) m s (done ++ List.replicate (k + 1) []) (done.length : Int) = some (done ++ splitC c s)
 | 0, s, done, k, hk, hm, hd, hs => by omega
 | m + 1, s, done, k, hk, hm, hd, hs => by
  rw [f_strings_genSplit_L32]
  have fin : ∀ k', k' = k → c ∉ s → f_strings_genSplit_J19 s (done ++ List.replicate (k' + 1) []) (done.length : Int) = some (done ++ [s]) := by
   intro k' hk' hc
   have h0 : k' = 0 := by
    subst hk'; subst hk
    have := mt cnt8_pos.1 hc
    omega
   subst h0
   unfold f_strings_genSplit_J19
   rw [ix_nat (by simp)]
   simp only [bsome, rng_succ (show done.length < 4611686018427387904 by omega)]
   rw [cutI_front (by simp)]
   simp [List.take_of_length_le]
  by_cases h0 : 0 < k
  ·
   rw [if_pos (by simp; omega), f_strings_Index_one]
   simp only [bsome]
   rcases idx8_spec c s 0 with ⟨h1, h2⟩ | ⟨a, b, h1, h2, h3⟩
   ·
    exact absurd (cnt8_pos.1 (hk ▸ h0)) h1
   ·
    rw [h3]
    have hcb : cnt8 c s = cnt8 c b + 1 := by
     rw [h1, cnt8_append]
     have : cnt8 c a = 0 := by
      have := mt cnt8_pos.1 h2; omega
     simp [cnt8, this]
    have hla : a.length ≤ s.length := by rw [h1]; simp
    rw [if_neg (by simp), Int.add_zero, Nat.zero_add, rng_nat (by omega)]
    simp only [bsome]
    rw [cutI_front hla]
    simp only [bsome]
    rw [ix_nat (by simp)]
    simp only [bsome, List.length_singleton]
    rw [show ((a.length : Int) + ((1 : Nat) : Int)) = ((a.length + 1 : Nat) : Int) by omega, rng_nat (by omega)]
    simp only [bsome]
    rw [cutI_end (by rw [h1]; simp)]
    simp only [bsome, rng_succ (show done.length < 4611686018427387904 by omega)]
    obtain ⟨k', rfl⟩ : ∃ k', k = k' + 1 := ⟨k - 1, by omega⟩
    have hta : s.take a.length = a := by rw [h1]; simp
    have hdb : s.drop (a.length + 1) = b := by rw [h1]; simp
    rw [hta, hdb]
    have hset : (done ++ List.replicate (k' + 1 + 1) ([] : S)).set (Int.toNat (done.length : Int)) a = (done ++ [a]) ++ List.replicate (k' + 1) [] := by
     rw [Int.toNat_natCast, List.set_append_right _ _ (Nat.le_refl _), Nat.sub_self, List.replicate_succ, List.set_cons_zero, List.append_assoc, List.singleton_append]
    rw [hset]
    have ih := f_strings_genSplit_L32_eq n c m b (done ++ [a]) k' (by omega) (by omega) (by simp; omega) (by rw [h1] at hs; simp at hs; omega)
    rw [List.length_append, List.length_singleton] at ih
    rw [show ((done.length + (k' + 1) : Nat) : Int) = ((done.length + 1 + k' : Nat) : Int) by omega]
    rw [ih, h1, splitC_mid c a b h2]
    simp
  ·
   have hk0 : k = 0 := by omega
   subst hk0
   have hc : c ∉ s := fun e => by have := cnt8_pos.2 e; omega
   rw [if_neg (by simp), fin 0 rfl hc, splitC_none c s hc]
theorem f_strings_Split_eq {n : Nat} {s : S} {c : UInt8} (hs : s.length < 1000000) (hn : s.length < n) : f_strings_Split n s [c] = some (splitC c s) := by
 unfold f_strings_Split f_strings_genSplit
 have hle := cnt8_le (c := c) (s := s)
 simp only [f_strings_Count_one, bsome]
 rw [if_neg (by decide), if_neg (by simp), if_pos (by decide), rng_succ (by omega)]
 simp only [bsome]
 unfold f_strings_genSplit_J8
 rw [rng_succ (by omega)]
 simp only [bsome]
 have hmin : (if ((s.length + 1 : Nat) : Int) < ((cnt8 c s + 1 : Nat) : Int) then ((s.length + 1 : Nat) : Int) else ((cnt8 c s + 1 : Nat) : Int)) = ((cnt8 c s + 1 : Nat) : Int) := if_neg (by omega)
 rw [hmin, need_ok ⟨by omega, by omega, by unfold lim; omega⟩]
 simp only [bsome]
 rw [show (((cnt8 c s + 1 : Nat) : Int) - 1) = ((cnt8 c s : Nat) : Int) by omega, rng_nat (by omega)]
 simp only [bsome, Int.toNat_natCast]
 have := f_strings_genSplit_L32_eq n c n s [] (cnt8 c s) rfl (by omega) (by simp; omega) hs
 simp only [List.length_nil, Nat.zero_add, List.nil_append] at this
 rw [show ((0 : Nat) : Int) = 0 from rfl] at this
 rw [this]
 rfl
theorem f_norm_path_eq {n : Nat} (s : S) (hn : 100 < n) : f_norm_path n s = some (okPath s) := by
 unfold f_norm_path okPath
 by_cases h0 : s.length = 0
 ·
  have : s = [] := List.length_eq_zero_iff.1 h0
  subst this
  rfl
 by_cases h1 : 60 < s.length
 ·
  rw [if_pos (by simp; omega)]
  have : decide (s.length ≤ 60) = false := by simpa using h1
  rw [this, Bool.false_and]
 ·
  rw [if_neg (by simp; exact ⟨fun e => h0 (by simp [e]), by omega⟩), f_strings_Split_eq (by omega) (by omega)]
  simp only [bsome]
  have hl := splitC_length 47 s
  have hc := cnt8_le (c := 47) (s := s)
  rw [f_slices_ContainsFunc_string_by_norm_path_1_eq (by omega) (by omega)]
  have : decide (s.length ≤ 60) = true := by simpa using h1
  simp [this]
theorem f_norm_valid_new {n : Nat} (s : S) (hn : 100 < n) : f_norm_valid n s true true [] = some (okPath s) := by
 unfold f_norm_valid
 rw [f_norm_path_eq s hn]
 simp only [bsome]
 have h85 : f_hunk_Check n [] = some 0 := by
  obtain ⟨m, rfl⟩ : ∃ m, n = m + 1 := ⟨n - 1, by omega⟩
  simp [f_hunk_Check, f_hunk_Check_L9]
 rw [h85]
 cases okPath s <;> simp [f_norm_valid_J2]
theorem f_tree_path_eq {n : Nat} (s : S) (hn : 100 < n) : f_tree_path n s = some (okPath s) := by
 unfold f_tree_path f_norm_Check
 obtain ⟨m, rfl⟩ : ∃ m, n = m + 1 + 1 := ⟨n - 2, by omega⟩
 have h53 : f_norm_Check_2 (m + 1 + 1) s true true [] = some (!okPath s) := by simp [f_norm_Check_2, f_norm_valid_new s hn]
 have h51b : f_slices_ContainsFunc_Patch_by_norm_Check_2 (m + 1 + 1) [⟨s, true, true, []⟩] = some (!okPath s) := by
  simp only [f_slices_ContainsFunc_Patch_by_norm_Check_2, f_slices_IndexFunc_Patch_by_norm_Check_2, f_slices_IndexFunc_Patch_by_norm_Check_2_L5]
  rw [if_pos (by simp), ix_zero (by simp)]
  simp only [bsome, List.getElem_cons_zero, h53]
  cases okPath s <;> simp [rng, f_slices_IndexFunc_Patch_by_norm_Check_2_L5]
 have h51 : f_slices_ContainsFunc_Patch_by_norm_Check_1 (m + 1 + 1) [] s true true [] = some false := by simp [f_slices_ContainsFunc_Patch_by_norm_Check_1, f_slices_IndexFunc_Patch_by_norm_Check_1, f_slices_IndexFunc_Patch_by_norm_Check_1_L5]
 rw [if_neg (by simp), f_norm_Check_L8]
 rw [if_pos (by simp), ix_zero (by simp)]
 simp only [bsome, List.getElem_cons_zero]
 rw [show cutI [(⟨s, true, true, []⟩ : GPatch)] 0 0 = some [] from rfl]
 simp only [bsome, h51, Bool.false_eq_true, if_false]
 rw [show rng (0 + 1) = some 1 from rfl]
 simp only [bsome, f_norm_Check_L8]
 rw [if_neg (by simp), h51b]
 cases okPath s <;> simp
theorem letG_iff (c : UInt8) : okB c = !((((((!((decide ((c.toNat : Int) ≥ 97)) && (decide ((c.toNat : Int) ≤ 122)))) && (!((decide ((c.toNat : Int) ≥ 65)) && (decide ((c.toNat : Int) ≤ 90))))) && (!((decide ((c.toNat : Int) ≥ 48)) && (decide ((c.toNat : Int) ≤ 57))))) && ((c.toNat : Int) != 45)) && ((c.toNat : Int) != 95)) && ((c.toNat : Int) != 46)) := by
 unfold okB letG
 have e1 : ∀ a b : Nat, Nat.ble a b = decide ((a : Int) ≤ (b : Int)) := fun a b => by
  rw [Bool.eq_iff_iff, Nat.ble_eq, decide_eq_true_eq]; omega
 have e2 : ∀ a b : Nat, Nat.beq a b = decide ((a : Int) = (b : Int)) := fun a b => by
  rw [Bool.eq_iff_iff, Nat.beq_eq, decide_eq_true_eq]; omega
 rw [Bool.eq_iff_iff]
 simp only [e1, e2]
 simp
theorem f_sidingref17_part_L8_eq (s : S) (hs : s.length < 1000000) : ∀ (m i : Nat), s.length < m + i → i ≤ s.length → f_sidingref17_part_L8 s m (i : Int) = some ((s.drop i).all okB)
 | 0, i, h1, h2 => by omega
 | m + 1, i, h1, h2 => by
  rw [f_sidingref17_part_L8]
  by_cases hi : i < s.length
  ·
   rw [if_pos (by simpa using hi), ix_nat hi]
   simp only [bsome, rng_succ (show i < 4611686018427387904 by omega)]
   rw [List.drop_eq_getElem_cons hi, List.all_cons, letG_iff s[i]]
   generalize ((((((!((decide ((s[i].toNat : Int) ≥ 97)) && (decide ((s[i].toNat : Int) ≤ 122)))) && (!((decide ((s[i].toNat : Int) ≥ 65)) && (decide ((s[i].toNat : Int) ≤ 90))))) && (!((decide ((s[i].toNat : Int) ≥ 48)) && (decide ((s[i].toNat : Int) ≤ 57))))) && ((s[i].toNat : Int) != 45)) && ((s[i].toNat : Int) != 95)) && ((s[i].toNat : Int) != 46)) = q
   cases q with
   | true => simp
   | false => simpa using f_sidingref17_part_L8_eq s hs m (i + 1) (by omega) (by omega)
  ·
   rw [if_neg (by simpa using hi)]
   have : i = s.length := by omega
   subst this
   simp
theorem f_sidingref17_part_eq {n : Nat} (s : S) (hs : s.length < 1000000) (hn : s.length < n) : f_sidingref17_part n s = some (okPart s) := by
 unfold f_sidingref17_part okPart
 have h := f_sidingref17_part_L8_eq s hs n 0 (by omega) (by omega)
 rw [show ((0 : Nat) : Int) = 0 from rfl, List.drop_zero] at h
 rw [h]
 have e : ((s.length : Int) == 0) = (s == []) := by
  rw [Bool.eq_iff_iff]; cases s <;> simp; omega
 rw [e]
 cases (((s == ([] : List UInt8)) || (s == ([46] : List UInt8))) || (s == ([46, 46] : List UInt8))) <;> simp
theorem f_sidingref17_Path_L9_eq (n : Nat) (s : S) (hs : s.length < 1000000) (hn : s.length < n) : ∀ (m a i : Nat), s.length < m + i → a ≤ i → i ≤ s.length → 47 ∉ (s.take i).drop a → f_sidingref17_Path_L9 n s m (a : Int) (i : Int) = some ((splitC 47 (s.drop a)).all okPart)
 | 0, a, i, h1, h2, h3, h4 => by omega
 | m + 1, a, i, h1, h2, h3, h4 => by
  rw [f_sidingref17_Path_L9]
  by_cases hi : i < s.length
  ·
   rw [if_pos (by simpa using hi), ix_nat hi]
   simp only [bsome, rng_succ (show i < 4611686018427387904 by omega)]
   by_cases hc : s[i] = 47
   ·
    rw [if_pos (by rw [hc]; rfl), cutI_nat h2 (by omega)]
    simp only [bsome]
    rw [f_sidingref17_part_eq _ (by simp; omega) (by simp; omega)]
    have hsp : s.drop a = (s.take i).drop a ++ 47 :: s.drop (i + 1) := by
     have e1 : s = s.take i ++ s[i] :: s.drop (i + 1) := by simp
     have e2 : s.drop a = (s.take i ++ s[i] :: s.drop (i + 1)).drop a := by rw [← e1]
     rw [e2, List.drop_append_of_le_length (by simp; omega), hc]
    rw [hsp, splitC_mid 47 _ _ h4, List.all_cons]
    cases e : okPart ((s.take i).drop a) with
    | false => simp
    | true =>
     simp only [bsome, Bool.not_true, Bool.false_eq_true, if_false, Bool.true_and]
     exact f_sidingref17_Path_L9_eq n s hs hn m (i + 1) (i + 1) (by omega) (Nat.le_refl _) (by omega) (by simp)
   ·
    rw [if_neg (by simp; exact fun e => hc (by rw [← UInt8.toNat_inj]; exact Int.ofNat.inj e))]
    refine f_sidingref17_Path_L9_eq n s hs hn m a (i + 1) (by omega) (by omega) (by omega) ?_
    rw [List.take_succ_eq_append_getElem hi, List.drop_append_of_le_length (by simp; omega)]
    simp [h4]
    exact fun e => hc e.symm
  ·
   rw [if_neg (by simpa using hi), cutI_end (by omega)]
   have : i = s.length := by omega
   subst this
   simp only [bsome]
   rw [f_sidingref17_part_eq _ (by simp; omega) (by simp; omega)]
   rw [List.take_length] at h4
   rw [splitC_none 47 _ h4]
   simp
theorem f_sidingref17_Path_eq {n : Nat} (s : S) (hn : 100 < n) : f_sidingref17_Path n s = some (okPath s) := by
 unfold f_sidingref17_Path okPath
 by_cases h1 : 60 < s.length
 ·
  rw [if_pos (by simp; omega)]
  have : decide (s.length ≤ 60) = false := by simpa using h1
  rw [this, Bool.false_and]
 ·
  rw [if_neg (by simp; omega)]
  have := f_sidingref17_Path_L9_eq n s (by omega) (by omega) n 0 0 (by omega) (Nat.le_refl _) (by omega) (by simp)
  rw [show ((0 : Nat) : Int) = 0 from rfl] at this
  rw [this]
  have : decide (s.length ≤ 60) = true := by simpa using h1
  simp [this]
end Go.Zv.G
namespace Go.Zv.G
open Go Go.Zv Go.Proofs
set_option maxRecDepth 100000
attribute [local simp high] bsome
def txtE (s : S) : Int := if s.length ≤ 2000 ∧ cnt8 10 s < 60 then 0 else 4
theorem f_lines_Check_eq {n : Nat} (s : S) : f_lines_Check n s = some (txtE s) := by
 unfold f_lines_Check txtE
 by_cases h : 2000 < s.length
 ·
  rw [if_pos (by simp; omega), if_neg (by omega)]
 ·
  rw [if_neg (by simp; omega)]
  have : f_bytes_Count n s [(10 : UInt8)] = some ((cnt8 10 s : Nat) : Int) := by simp [f_bytes_Count, ix]
  rw [this]
  simp only [bsome]
  by_cases h2 : cnt8 10 s < 60
  ·
   rw [if_neg (by simp; omega), if_pos (by omega)]
  ·
   rw [if_pos (by simp; omega), if_neg (by omega)]
theorem f_sidingref13_Parts_L7_eq (s : S) (hs : s.length < 1000000) : ∀ (m a i : Nat) (done : List S), s.length < m + i → a ≤ i → i ≤ s.length → 10 ∉ (s.take i).drop a → done.length + s.length - i < 1000000 →
  f_sidingref13_Parts_L7 s m (done ++ [[]]) (a : Int) (i : Int) = some (done ++ splitC 10 (s.drop a))
 | 0, a, i, done, h1, h2, h3, h4, h5 => by omega
 | m + 1, a, i, done, h1, h2, h3, h4, h5 => by
  rw [f_sidingref13_Parts_L7]
  have e1 : ((done ++ [([] : S)]).length : Int) - 1 = ((done.length : Nat) : Int) := by simp
  by_cases hi : i < s.length
  ·
   rw [if_pos (by simpa using hi), ix_nat hi]
   simp only [bsome, rng_succ (show i < 4611686018427387904 by omega)]
   by_cases hc : s[i] = 10
   ·
    rw [if_pos (by rw [hc]; rfl), e1, rng_nat (by omega), cutI_nat h2 (by omega)]
    simp only [bsome]
    rw [ix_nat (by simp), need_ok (by unfold lim; simp; omega)]
    simp only [bsome, Int.toNat_natCast]
    have hsp : s.drop a = (s.take i).drop a ++ 10 :: s.drop (i + 1) := by
     have e1 : s = s.take i ++ s[i] :: s.drop (i + 1) := by simp
     have e2 : s.drop a = (s.take i ++ s[i] :: s.drop (i + 1)).drop a := by rw [← e1]
     rw [e2, List.drop_append_of_le_length (by simp; omega), hc]
    rw [hsp, splitC_mid 10 _ _ h4, List.set_append_right _ _ (Nat.le_refl _), Nat.sub_self, List.set_cons_zero]
    rw [f_sidingref13_Parts_L7_eq s hs m (i + 1) (i + 1) (done ++ [(s.take i).drop a]) (by omega) (Nat.le_refl _) (by omega) (by simp) (by simp; omega)]
    simp
   ·
    rw [if_neg (by simp; exact fun e => hc (by rw [← UInt8.toNat_inj]; exact Int.ofNat.inj e))]
    refine f_sidingref13_Parts_L7_eq s hs m a (i + 1) done (by omega) (by omega) (by omega) ?_ (by omega)
    rw [List.take_succ_eq_append_getElem hi, List.drop_append_of_le_length (by simp; omega)]
    simp [h4]
    exact fun e => hc e.symm
  ·
   rw [if_neg (by simpa using hi), e1, rng_nat (by omega), cutI_end (by omega)]
   have : i = s.length := by omega
   subst this
   simp only [bsome]
   rw [ix_nat (by simp)]
   rw [List.take_length] at h4
   rw [splitC_none 10 _ h4]
   simp
theorem f_sidingref13_Parts_eq {n : Nat} (s : S) (hs : s.length < 500000) (hn : s.length < n) : f_sidingref13_Parts n s = some (splitC 10 s) := by
 unfold f_sidingref13_Parts
 have := f_sidingref13_Parts_L7_eq s (by omega) n 0 0 [] (by omega) (Nat.le_refl _) (by omega) (by simp) (by simp; omega)
 simpa using this
theorem f_sidingref13_Check_eq {n : Nat} (s : S) (hn : 3000 < n) : f_sidingref13_Check n s = some (txtE s) := by
 unfold f_sidingref13_Check txtE
 by_cases h : 2000 < s.length
 ·
  rw [if_pos (by simp; omega), if_neg (by omega)]
 ·
  rw [if_neg (by simp; omega), f_sidingref13_Parts_eq s (by omega) (by omega)]
  simp only [bsome, splitC_length]
  by_cases h2 : cnt8 10 s < 60
  ·
   rw [if_neg (by simp; omega), if_pos (by omega)]
  ·
   rw [if_pos (by simp; omega), if_neg (by omega)]
def okFrom (t : List GFile) (i : Nat) : Bool := ((List.range' i (t.length - i)).all fun j => match t[j]? with
 | some x => okPath x.path_ && (decide (j = 0) || match t[j - 1]? with
  | some y => decide (y.path_ < x.path_)
  | none => false)
 | none => false)
theorem okFrom_end {t : List GFile} : okFrom t t.length = true := by simp [okFrom]
theorem okFrom_step {t : List GFile} {i : Nat} (h : i < t.length) : okFrom t i = (okPath t[i].path_ && (decide (i = 0) || decide ((t[i - 1]'(by omega)).path_ < t[i].path_)) && okFrom t (i + 1)) := by
 unfold okFrom
 rw [show t.length - i = (t.length - (i + 1)) + 1 by omega, List.range'_succ, List.all_cons]
 congr 1
 simp only [List.getElem?_eq_getElem h, List.getElem?_eq_getElem (show i - 1 < t.length by omega)]
def txtFrom (t : List GFile) (i : Nat) : Int := match (t.drop i).find? fun x => txtE x.text_ != 0 with
 | some x => txtE x.text_
 | none => 0
theorem txtFrom_end {t : List GFile} : txtFrom t t.length = 0 := by simp [txtFrom]
theorem txtFrom_step {t : List GFile} {i : Nat} (h : i < t.length) : txtFrom t i = if txtE t[i].text_ != 0 then txtE t[i].text_ else txtFrom t (i + 1) := by
 unfold txtFrom
 rw [List.drop_eq_getElem_cons h, List.find?_cons]
 cases e : (txtE t[i].text_ != 0) <;> simp
def chk (t : List GFile) : Int := if 12 < t.length then 4 else if okFrom t 0 = true then txtFrom t 0 else 8
theorem f_tree_Check_L39_eq {n : Nat} (t : List GFile) (ht : t.length ≤ 12) : ∀ (m i : Nat), t.length < m + i → i ≤ t.length → f_tree_Check_L39 n t m (i : Int) = some (txtFrom t i)
 | 0, i, h1, h2 => by omega
 | m + 1, i, h1, h2 => by
  rw [f_tree_Check_L39]
  by_cases hi : i < t.length
  ·
   rw [if_pos (by simpa using hi), ix_nat hi]
   simp only [bsome, f_lines_Check_eq, rng_succ (show i < 4611686018427387904 by omega)]
   rw [txtFrom_step hi]
   cases e : (txtE t[i].text_ != 0) with
   | true => simp
   | false => simpa using f_tree_Check_L39_eq t ht m (i + 1) (by omega) (by omega)
  ·
   rw [if_neg (by simpa using hi)]
   have : i = t.length := by omega
   subst this
   rw [txtFrom_end]
theorem f_sidingref21_Check_L39_eq {n : Nat} (hn : 3000 < n) (t : List GFile) (ht : t.length ≤ 12) : ∀ (m i : Nat), t.length < m + i → i ≤ t.length → f_sidingref21_Check_L39 n t m (i : Int) = some (txtFrom t i)
 | 0, i, h1, h2 => by omega
 | m + 1, i, h1, h2 => by
  rw [f_sidingref21_Check_L39]
  by_cases hi : i < t.length
  ·
   rw [if_pos (by simpa using hi), ix_nat hi]
   simp only [bsome, f_sidingref13_Check_eq _ hn, rng_succ (show i < 4611686018427387904 by omega)]
   rw [txtFrom_step hi]
   cases e : (txtE t[i].text_ != 0) with
   | true => simp
   | false => simpa using f_sidingref21_Check_L39_eq hn t ht m (i + 1) (by omega) (by omega)
  ·
   rw [if_neg (by simpa using hi)]
   have : i = t.length := by omega
   subst this
   rw [txtFrom_end]
theorem less_eq (a b : S) : Op.bytesLess a b = decide (a < b) := bytesLess_eq a b
theorem f_tree_Check_L8_eq {n : Nat} (hn : 3000 < n) (t : List GFile) (ht : t.length ≤ 12) : ∀ (m i : Nat), t.length < m + i → i ≤ t.length → f_tree_Check_L8 n t m (i : Int) = some (if okFrom t i = true then txtFrom t 0 else 8)
 | 0, i, h1, h2 => by omega
 | m + 1, i, h1, h2 => by
  rw [f_tree_Check_L8]
  by_cases hi : i < t.length
  ·
   rw [if_pos (by simpa using hi), ix_nat hi]
   simp only [bsome, f_tree_path_eq _ (show 100 < n by omega), rng_succ (show i < 4611686018427387904 by omega)]
   rw [okFrom_step hi]
   cases e : okPath t[i].path_ with
   | false => simp
   | true =>
    simp only [if_true]
    have ih := f_tree_Check_L8_eq hn t ht m (i + 1) (by omega) (by omega)
    by_cases h0 : 0 < i
    ·
     rw [if_pos (by simpa using h0), show ((i : Int) - 1) = ((i - 1 : Nat) : Int) by omega, rng_nat (by omega)]
     simp only [bsome]
     rw [ix_nat (show i - 1 < t.length by omega)]
     simp only [bsome, less_eq]
     have hz : decide (i = 0) = false := by simp; omega
     rw [hz, Bool.false_or, Bool.true_and]
     by_cases hl : (t[i - 1]'(by omega)).path_ < t[i].path_
     ·
      rw [decide_eq_true hl]; simpa using ih
     ·
      rw [decide_eq_false hl]; simp
    ·
     rw [if_neg (by simpa using h0)]
     have hz : i = 0 := by omega
     subst hz
     simpa using ih
  ·
   rw [if_neg (by simpa using hi)]
   have : i = t.length := by omega
   subst this
   rw [okFrom_end, if_pos rfl]
   exact f_tree_Check_L39_eq t ht n 0 (by omega) (by omega)
theorem f_sidingref21_Check_L8_eq {n : Nat} (hn : 3000 < n) (t : List GFile) (ht : t.length ≤ 12) : ∀ (m i : Nat), t.length < m + i → i ≤ t.length → f_sidingref21_Check_L8 n t m (i : Int) = some (if okFrom t i = true then txtFrom t 0 else 8)
 | 0, i, h1, h2 => by omega
 | m + 1, i, h1, h2 => by
  rw [f_sidingref21_Check_L8]
  by_cases hi : i < t.length
  ·
   rw [if_pos (by simpa using hi), ix_nat hi]
   simp only [bsome, f_sidingref17_Path_eq _ (show 100 < n by omega), rng_succ (show i < 4611686018427387904 by omega)]
   rw [okFrom_step hi]
   cases e : okPath t[i].path_ with
   | false => simp
   | true =>
    simp only [Bool.not_true, Bool.false_eq_true, if_false]
    have ih := f_sidingref21_Check_L8_eq hn t ht m (i + 1) (by omega) (by omega)
    by_cases h0 : 0 < i
    ·
     rw [if_pos (by simpa using h0), show ((i : Int) - 1) = ((i - 1 : Nat) : Int) by omega, rng_nat (by omega)]
     simp only [bsome]
     rw [ix_nat (show i - 1 < t.length by omega)]
     simp only [bsome, less_eq]
     have hz : decide (i = 0) = false := by simp; omega
     rw [hz, Bool.false_or, Bool.true_and]
     by_cases hl : (t[i - 1]'(by omega)).path_ < t[i].path_
     ·
      rw [decide_eq_true hl]; simpa using ih
     ·
      rw [decide_eq_false hl]; simp
    ·
     rw [if_neg (by simpa using h0)]
     have hz : i = 0 := by omega
     subst hz
     simpa using ih
  ·
   rw [if_neg (by simpa using hi)]
   have : i = t.length := by omega
   subst this
   rw [okFrom_end, if_pos rfl]
   exact f_sidingref21_Check_L39_eq hn t ht n 0 (by omega) (by omega)
theorem f_tree_Check_eq {n : Nat} (hn : 3000 < n) (t : List GFile) : f_tree_Check n t = some (chk t) := by
 unfold f_tree_Check chk
 by_cases h : 12 < t.length
 ·
  rw [if_pos (by simp; omega), if_pos h]
 ·
  rw [if_neg (by simp; omega), if_neg h]
  exact f_tree_Check_L8_eq hn t (by omega) n 0 (by omega) (by omega)
theorem f_sidingref21_Check_eq {n : Nat} (hn : 3000 < n) (t : List GFile) : f_sidingref21_Check n t = some (chk t) := by
 unfold f_sidingref21_Check chk
 by_cases h : 12 < t.length
 ·
  rw [if_pos (by simp; omega), if_pos h]
 ·
  rw [if_neg (by simp; omega), if_neg h]
  exact f_sidingref21_Check_L8_eq hn t (by omega) n 0 (by omega) (by omega)
theorem f_sidingref21_Long_eq {n : Nat} (hn : 100 < n) (t : List GFile) : ∃ r, f_sidingref21_Long n t = some r ∧ (r = false → t.length ≤ 40 ∧ ∀ x ∈ t, x.path_.length ≤ 200 ∧ x.text_.length ≤ 3000) := by
 have key : ∀ (m i : Nat), 42 < m + i → i ≤ t.length → i ≤ 41 → (∀ x ∈ t.take i, x.path_.length ≤ 200 ∧ x.text_.length ≤ 3000) → ∃ r, f_sidingref21_Long_L5 t m (i : Int) = some r ∧ (r = false → t.length ≤ 40 ∧ ∀ x ∈ t, x.path_.length ≤ 200 ∧ x.text_.length ≤ 3000) := by
  intro m
  induction m with
  | zero => intro i h1 h2 h3; omega
  | succ m ih =>
   intro i h1 h2 h3 h4
   rw [f_sidingref21_Long_L5]
   by_cases hi : i < t.length ∧ i ≤ 40
   ·
    obtain ⟨hi, hi2⟩ := hi
    rw [if_pos (by simp; omega), ix_nat hi]
    simp only [bsome, rng_succ (show i < 4611686018427387904 by omega)]
    cases e : ((decide ((t[i].path_.length : Int) > 200)) || (decide ((t[i].text_.length : Int) > 3000))) with
    | true => exact ⟨true, by simp, by simp⟩
    | false =>
     simp only [Bool.false_eq_true, if_false]
     simp at e
     refine ih (i + 1) (by omega) (by omega) (by omega) ?_
     intro x hx
     rw [List.take_succ_eq_append_getElem hi, List.mem_append] at hx
     rcases hx with hx | hx
     ·
      exact h4 x hx
     ·
      simp at hx; subst hx; omega
   ·
    rw [if_neg (by simp; omega)]
    refine ⟨_, rfl, fun hr => ?_⟩
    simp at hr
    have : i = t.length := by omega
    subst this
    rw [List.take_length] at h4
    exact ⟨by omega, h4⟩
 exact key n 0 (by omega) (by omega) (by omega) (by simp)
theorem f_tree_twin_eq {n : Nat} (t : List GFile) (ht : t.length < 1000000) (hx : ∀ x ∈ t, x.text_.length ≤ lim) (hn : t.length < n) : f_tree_twin n t = some t := by
 have key : ∀ (m i : Nat), t.length < m + i → i ≤ t.length → f_tree_twin_L6 t m (t.take i) (i : Int) = some t := by
  intro m
  induction m with
  | zero => intro i h1 h2; omega
  | succ m ih =>
   intro i h1 h2
   rw [f_tree_twin_L6]
   by_cases hi : i < t.length
   ·
    rw [if_pos (by simpa using hi), ix_nat hi]
    have hlm : lmt t[i].text_ = some t[i].text_ := by unfold lmt; rw [if_pos (hx _ (List.getElem_mem hi))]
    simp only [bsome, hlm, rng_succ (show i < 4611686018427387904 by omega)]
    rw [need_ok (by unfold lim; simp; omega)]
    simp only [bsome]
    rw [show (t.take i ++ [(⟨t[i].path_, t[i].text_⟩ : GFile)]) = t.take (i + 1) from (List.take_succ_eq_append_getElem hi).symm]
    exact ih (i + 1) (by omega) (by omega)
   ·
    rw [if_neg (by simpa using hi)]
    have : i = t.length := by omega
    subst this
    rw [List.take_length]
 exact key n 0 (by omega) (by omega)
theorem f_sidingref21_Same_eq {n : Nat} (a b : List GFile) (ha : a.length < 1000000) (hn : a.length < n) : ∃ r, f_sidingref21_Same n a b = some r ∧ (a = b → r = true) := by
 unfold f_sidingref21_Same
 by_cases hl : a.length = b.length
 ·
  rw [if_neg (by simp; omega)]
  have key : ∀ (m i : Nat), a.length < m + i → i ≤ a.length → ∃ r, f_sidingref21_Same_L8 a b m (i : Int) = some r ∧ (a = b → r = true) := by
   intro m
   induction m with
   | zero => intro i h1 h2; omega
   | succ m ih =>
    intro i h1 h2
    rw [f_sidingref21_Same_L8]
    by_cases hi : i < a.length
    ·
     rw [if_pos (by simpa using hi), ix_nat hi, ix_nat (show i < b.length by omega)]
     simp only [bsome, rng_succ (show i < 4611686018427387904 by omega)]
     cases e1 : (!(a[i].path_ == (b[i]'(by omega)).path_)) with
     | true => exact ⟨false, by simp, fun h => by subst h; simp at e1⟩
     | false =>
      cases e2 : (!(a[i].text_ == (b[i]'(by omega)).text_)) with
      | true => exact ⟨false, by simp, fun h => by subst h; simp at e2⟩
      | false => simpa using ih (i + 1) (by omega) (by omega)
    ·
     rw [if_neg (by simpa using hi)]
     exact ⟨true, rfl, fun _ => rfl⟩
  exact key n 0 (by omega) (by omega)
 ·
  rw [if_pos (by simp; omega)]
  exact ⟨false, rfl, fun h => by subst h; exact absurd rfl hl⟩
theorem f_sidingref21_Has_eq {n : Nat} (t : List GFile) (p : S) (ht : t.length < 1000000) (hn : t.length < n) : f_sidingref21_Has n t p = some (match t.find? fun x => x.path_ == p with
  | some x => (x.text_, true)
  | none => ([], false)) := by
 have key : ∀ (m i : Nat), t.length < m + i → i ≤ t.length → f_sidingref21_Has_L5 t p m (i : Int) = some (match (t.drop i).find? fun x => x.path_ == p with
  | some x => (x.text_, true)
  | none => ([], false)) := by
  intro m
  induction m with
  | zero => intro i h1 h2; omega
  | succ m ih =>
   intro i h1 h2
   rw [f_sidingref21_Has_L5]
   by_cases hi : i < t.length
   ·
    rw [if_pos (by simpa using hi), ix_nat hi]
    simp only [bsome, rng_succ (show i < 4611686018427387904 by omega)]
    rw [List.drop_eq_getElem_cons hi, List.find?_cons]
    cases e : (t[i].path_ == p) with
    | true => simp
    | false => simpa using ih (i + 1) (by omega) (by omega)
   ·
    rw [if_neg (by simpa using hi)]
    have : i = t.length := by omega
    subst this
    simp
 exact key n 0 (by omega) (by omega)
end Go.Zv.G
namespace Go.Zv.G
open Go Go.Zv Go.Proofs
set_option maxRecDepth 100000
attribute [local simp high] bsome
theorem cmp_spec : ∀ (a b : S), (Lib.compareBytes a b < 0 ↔ a < b) ∧ (Lib.compareBytes a b = 0 ↔ a = b)
 | [], [] => by simp [Lib.compareBytes]
 | [], b :: v => by simp [Lib.compareBytes]
 | a :: u, [] => by simp [Lib.compareBytes]
 | a :: u, b :: v => by
  obtain ⟨h1, h2⟩ := cmp_spec u v
  unfold Lib.compareBytes
  by_cases h : a < b
  ·
   have hne : a ≠ b := fun e => by subst e; exact absurd h (UInt8.lt_irrefl a)
   rw [if_pos h, List.cons_lt_cons_iff]
   simp [h, hne]
  ·
   by_cases h' : b < a
   ·
    have hne : a ≠ b := fun e => by subst e; exact absurd h' (UInt8.lt_irrefl a)
    rw [if_neg h, if_pos h', List.cons_lt_cons_iff]
    simp [h, hne]
   ·
    have he : a = b := by
     have e1 : ¬ a.toNat < b.toNat := fun e => h (UInt8.lt_iff_toNat_lt.2 e)
     have e2 : ¬ b.toNat < a.toNat := fun e => h' (UInt8.lt_iff_toNat_lt.2 e)
     exact UInt8.toNat_inj.1 (by omega)
    subst he
    rw [if_neg h, if_neg h', List.cons_lt_cons_iff, h1, h2]
    simp [h]
theorem s_irrefl (a : S) : ¬ a < a := List.lt_irrefl a
theorem s_trans {a b c : S} (h1 : a < b) (h2 : b < c) : a < c := List.lt_trans h1 h2
theorem s_tri : ∀ (a b : S), a < b ∨ a = b ∨ b < a
 | [], [] => .inr (.inl rfl)
 | [], b :: v => .inl (by simp)
 | a :: u, [] => .inr (.inr (by simp))
 | a :: u, b :: v => by
  simp only [List.cons_lt_cons_iff, List.cons.injEq]
  by_cases h : a < b
  ·
   exact .inl (.inl h)
  ·
   by_cases h' : b < a
   ·
    exact .inr (.inr (.inl h'))
   ·
    have he : a = b := by
     have e1 : ¬ a.toNat < b.toNat := fun e => h (UInt8.lt_iff_toNat_lt.2 e)
     have e2 : ¬ b.toNat < a.toNat := fun e => h' (UInt8.lt_iff_toNat_lt.2 e)
     exact UInt8.toNat_inj.1 (by omega)
    subst he
    rcases s_tri u v with h1 | h1 | h1
    ·
     exact .inl (.inr ⟨rfl, h1⟩)
    ·
     exact .inr (.inl ⟨rfl, h1⟩)
    ·
     exact .inr (.inr (.inr ⟨rfl, h1⟩))
abbrev Sorted (t : List GFile) : Prop := t.Pairwise fun x y => x.path_ < y.path_
theorem okFrom_all {t : List GFile} : ∀ {i : Nat}, i ≤ t.length → okFrom t i = true → ∀ j (h : j < t.length), i ≤ j → okPath t[j].path_ = true ∧ (j = 0 ∨ (t[j - 1]'(by omega)).path_ < t[j].path_) := by
 intro i hi ho j h hij
 unfold okFrom at ho
 rw [List.all_eq_true] at ho
 have := ho j (List.mem_range'_1.2 ⟨hij, by omega⟩)
 rw [List.getElem?_eq_getElem h, List.getElem?_eq_getElem (show j - 1 < t.length by omega)] at this
 simpa using this
theorem okFrom_of {t : List GFile} (h : ∀ j (h : j < t.length), okPath t[j].path_ = true ∧ (j = 0 ∨ (t[j - 1]'(by omega)).path_ < t[j].path_)) : okFrom t 0 = true := by
 unfold okFrom
 rw [List.all_eq_true]
 intro j hj
 have hj' : j < t.length := by have := List.mem_range'_1.1 hj; omega
 rw [List.getElem?_eq_getElem hj', List.getElem?_eq_getElem (show j - 1 < t.length by omega)]
 simpa using h j hj'
theorem sorted_of_ok {t : List GFile} (h : okFrom t 0 = true) : Sorted t := by
 have hs := okFrom_all (Nat.zero_le _) h
 rw [Sorted, List.pairwise_iff_getElem]
 intro i j hi hj hij
 have key : ∀ d, ∀ j (hj : j < t.length), j = i + d + 1 → t[i].path_ < t[j].path_ := by
  intro d
  induction d with
  | zero =>
   intro j hj e
   have := (hs j hj (by omega)).2.resolve_left (by omega)
   simpa [show j - 1 = i by omega] using this
  | succ d ih =>
   intro j hj e
   have h1 := ih (j - 1) (by omega) (by omega)
   have h2 := (hs j hj (by omega)).2.resolve_left (by omega)
   exact s_trans h1 h2
 exact key (j - i - 1) j hj (by omega)
theorem txtE_cases (s : S) : txtE s = 0 ∨ txtE s = 4 := by unfold txtE; split <;> simp
theorem chk_iff {t : List GFile} : chk t = 0 ↔ t.length ≤ 12 ∧ (∀ x ∈ t, okPath x.path_ = true) ∧ Sorted t ∧ ∀ x ∈ t, txtE x.text_ = 0 := by
 unfold chk
 by_cases h : 12 < t.length
 ·
  rw [if_pos h]; simp; omega
 rw [if_neg h]
 by_cases ho : okFrom t 0 = true
 ·
  rw [if_pos ho]
  have hs := okFrom_all (Nat.zero_le _) ho
  have hp : ∀ x ∈ t, okPath x.path_ = true := by
   intro x hx
   obtain ⟨j, hj, rfl⟩ := List.mem_iff_getElem.1 hx
   exact (hs j hj (by omega)).1
  have ht : txtFrom t 0 = 0 ↔ ∀ x ∈ t, txtE x.text_ = 0 := by
   unfold txtFrom
   rw [List.drop_zero]
   cases e : t.find? (fun x => txtE x.text_ != 0) with
   | none =>
    rw [List.find?_eq_none] at e
    simpa using e
   | some x =>
    have h1 := List.mem_of_find?_eq_some e
    have h2 := List.find?_some e
    simp at h2
    simp only
    exact ⟨fun h => absurd h h2, fun h => absurd (h x h1) h2⟩
  rw [ht]
  exact ⟨fun h4 => ⟨by omega, hp, sorted_of_ok ho, h4⟩, fun h => h.2.2.2⟩
 ·
  rw [if_neg ho]
  refine ⟨fun h => by omega, fun ⟨_, h2, h3, _⟩ => absurd (okFrom_of fun j hj => ⟨h2 _ (List.getElem_mem hj), ?_⟩) ho⟩
  by_cases h0 : j = 0
  ·
   exact .inl h0
  ·
   exact .inr (List.pairwise_iff_getElem.1 h3 (j - 1) j (by omega) hj (by omega))
structure Pos (t : List GFile) (p : S) (k : Nat) : Prop where
 le : k ≤ t.length
 lo : ∀ j (h : j < t.length), j < k → t[j].path_ < p
 hi : ∀ j (h : j < t.length), k ≤ j → ¬ t[j].path_ < p
def isAt (t : List GFile) (p : S) (k : Nat) : Bool := match t[k]? with
 | some x => x.path_ == p
 | none => false
theorem f_slices_BinarySearchFunc_string_by_tree_find_1_eq {n : Nat} {t : List GFile} {p : S} (hs : Sorted t) (ht : t.length < 1000000) : ∀ (m i j : Nat), j - i < m → i ≤ j → j ≤ t.length → (∀ k (h : k < t.length), k < i → t[k].path_ < p) → (∀ k (h : k < t.length), j ≤ k → ¬ t[k].path_ < p) →
  ∃ k, Pos t p k ∧ f_slices_BinarySearchFunc_string_by_tree_find_1_L6 n t p m (i : Int) (j : Int) = some ((k : Int), isAt t p k)
 | 0, i, j, h1, h2, h3, h4, h5 => by omega
 | m + 1, i, j, h1, h2, h3, h4, h5 => by
  rw [f_slices_BinarySearchFunc_string_by_tree_find_1_L6]
  have h76 : ∀ x : GFile, f_tree_find_1 n x.path_ x.text_ p = some (Lib.compareBytes x.path_ p) := fun x => by simp [f_tree_find_1, f_strings_Compare, f_bytealg_CompareString]
  by_cases hij : i < j
  ·
   have hh : (((i + j : Nat) : Int).fdiv 2) = (((i + j) / 2 : Nat) : Int) := by
    rw [Int.fdiv_eq_ediv_of_nonneg _ (by omega)]; omega
   rw [if_pos (by simpa using hij), show ((i : Int) + (j : Int)) = ((i + j : Nat) : Int) by omega, rng_nat (by omega)]
   simp only [bsome, hh]
   rw [need_ok (wrapLu64 (by omega) (by omega)), need_ok (wrapL (by omega) (by omega))]
   simp only [bsome]
   rw [ix_nat (show (i + j) / 2 < t.length by omega)]
   simp only [bsome, h76]
   by_cases hc : (t[(i + j) / 2]'(by omega)).path_ < p
   ·
    rw [if_pos (by simpa using (cmp_spec _ _).1.2 hc), rng_succ (by omega)]
    simp only [bsome]
    refine f_slices_BinarySearchFunc_string_by_tree_find_1_eq hs ht m ((i + j) / 2 + 1) j (by omega) (by omega) h3 ?_ h5
    intro k hk hk2
    by_cases e : k = (i + j) / 2
    ·
     subst e; exact hc
    ·
     exact s_trans (List.pairwise_iff_getElem.1 hs k ((i + j) / 2) hk (by omega) (by omega)) hc
   ·
    rw [if_neg (by simpa using fun e => hc ((cmp_spec _ _).1.1 e))]
    refine f_slices_BinarySearchFunc_string_by_tree_find_1_eq hs ht m i ((i + j) / 2) (by omega) (by omega) (by omega) h4 ?_
    intro k hk hk2 hlt
    by_cases e : k = (i + j) / 2
    ·
     subst e; exact hc hlt
    ·
     exact hc (s_trans (List.pairwise_iff_getElem.1 hs ((i + j) / 2) k (by omega) hk (by omega)) hlt)
  ·
   rw [if_neg (by simpa using hij)]
   have : i = j := by omega
   subst this
   refine ⟨i, ⟨h3, h4, h5⟩, ?_⟩
   by_cases hi : i < t.length
   ·
    rw [if_pos (by simpa using hi), ix_nat hi]
    simp only [bsome, h76, isAt, List.getElem?_eq_getElem hi]
    congr 2
    rw [Bool.eq_iff_iff]
    simpa using (cmp_spec _ _).2
   ·
    rw [if_neg (by simpa using hi)]
    simp [isAt, List.getElem?_eq_none (Nat.le_of_not_lt hi)]
theorem f_tree_find_eq {n : Nat} {t : List GFile} {p : S} (hs : Sorted t) (ht : t.length < 1000000) (hn : t.length < n) : ∃ k, Pos t p k ∧ f_tree_find n t p = some ((k : Int), isAt t p k) := by
 obtain ⟨k, h1, h2⟩ := f_slices_BinarySearchFunc_string_by_tree_find_1_eq (n := n) (p := p) hs ht n 0 t.length (by omega) (by omega) (Nat.le_refl _) (fun k h h' => by omega) (fun k h h' => by omega)
 refine ⟨k, h1, ?_⟩
 unfold f_tree_find f_slices_BinarySearchFunc_string_by_tree_find_1
 rw [show ((0 : Nat) : Int) = 0 from rfl] at h2
 rw [h2]
 rfl
theorem Pos.unique {t : List GFile} {p : S} {k k' : Nat} (h : Pos t p k) (h' : Pos t p k') : k = k' := by
 have := h.le; have := h'.le
 rcases Nat.lt_trichotomy k k' with e | e | e
 ·
  exact absurd (h'.lo k (by omega) e) (h.hi k (by omega) (Nat.le_refl _))
 ·
  exact e
 ·
  exact absurd (h.lo k' (by omega) e) (h'.hi k' (by omega) (Nat.le_refl _))
theorem find_sorted {t : List GFile} (hs : Sorted t) {x : GFile} (hx : x ∈ t) : t.find? (fun y => y.path_ == x.path_) = some x := by
 induction t with
 | nil => cases hx
 | cons y ys ih =>
  rw [List.find?_cons]
  rw [Sorted, List.pairwise_cons] at hs
  rcases List.mem_cons.1 hx with e | e
  ·
   subst e; simp
  ·
   have : y.path_ ≠ x.path_ := fun h => s_irrefl x.path_ (h ▸ hs.1 x e)
   have hb : (y.path_ == x.path_) = false := by simpa using this
   rw [hb]
   exact ih hs.2 e
theorem find_none {t : List GFile} {p : S} (h : ∀ x ∈ t, x.path_ ≠ p) : t.find? (fun y => y.path_ == p) = none := by
 rw [List.find?_eq_none]
 intro x hx
 simpa using h x hx
theorem isAt_mem {t : List GFile} {p : S} {k : Nat} (hs : Sorted t) (hp : Pos t p k) : isAt t p k = true ↔ ∃ x ∈ t, x.path_ = p := by
 constructor
 ·
  intro h
  unfold isAt at h
  split at h
  ·
   rename_i x hx
   exact ⟨x, List.mem_of_getElem? hx, by simpa using h⟩
  ·
   cases h
 ·
  rintro ⟨x, hx, rfl⟩
  obtain ⟨j, hj, rfl⟩ := List.mem_iff_getElem.1 hx
  have h1 : ¬ j < k := fun e => s_irrefl _ (hp.lo j hj e)
  have h2 : ¬ k < j := fun e => hp.hi k (by omega) (Nat.le_refl _) (List.pairwise_iff_getElem.1 hs k j (by omega) hj e)
  have : j = k := by omega
  subst this
  simp [isAt, hj]
def putAt (t : List GFile) (x : GFile) (k : Nat) : List GFile := if isAt t x.path_ k = true then t.set k x else t.take k ++ (x :: t.drop k)
theorem putAt_eq {t : List GFile} {x : GFile} {k : Nat} (hk : k ≤ t.length) : putAt t x k = t.take k ++ (x :: t.drop (k + cond (isAt t x.path_ k) 1 0)) := by
 unfold putAt
 cases e : isAt t x.path_ k with
 | false => simp
 | true =>
  have hk' : k < t.length := by
   unfold isAt at e
   split at e
   ·
    rename_i y hy; exact (List.getElem?_eq_some_iff.1 hy).1
   ·
    cases e
  rw [if_pos rfl, List.set_eq_take_append_cons_drop, if_pos hk', cond_true]
theorem putAt_mem {t : List GFile} {x y : GFile} {k : Nat} (hs : Sorted t) (hp : Pos t x.path_ k) : y ∈ putAt t x k ↔ y = x ∨ (y ∈ t ∧ y.path_ ≠ x.path_) := by
 rw [putAt_eq hp.le]
 have hsplit : t = t.take k ++ t.drop k := (List.take_append_drop k t).symm
 have hlo : ∀ z ∈ t.take k, z.path_ < x.path_ := by
  intro z hz
  obtain ⟨j, hj, rfl⟩ := List.mem_iff_getElem.1 hz
  rw [List.length_take] at hj
  rw [List.getElem_take]
  exact hp.lo j (by omega) (by omega)
 have hne : ∀ {z : GFile}, z.path_ < x.path_ → z.path_ ≠ x.path_ := fun h e => s_irrefl _ (e ▸ h)
 cases e : isAt t x.path_ k with
 | false =>
  rw [cond_false, Nat.add_zero]
  have hno : ∀ z ∈ t, z.path_ ≠ x.path_ := fun z hz h => by
   have := (isAt_mem hs hp).2 ⟨z, hz, h⟩
   rw [e] at this; cases this
  simp only [List.mem_append, List.mem_cons]
  constructor
  ·
   rintro (h | h | h)
   ·
    exact .inr ⟨List.mem_of_mem_take h, hno _ (List.mem_of_mem_take h)⟩
   ·
    exact .inl h
   ·
    exact .inr ⟨List.mem_of_mem_drop h, hno _ (List.mem_of_mem_drop h)⟩
  ·
   rintro (h | ⟨h, _⟩)
   ·
    exact .inr (.inl h)
   ·
    rw [hsplit] at h
    rcases List.mem_append.1 h with h | h
    ·
     exact .inl h
    ·
     exact .inr (.inr h)
 | true =>
  rw [cond_true]
  have hk : k < t.length := by
   unfold isAt at e
   split at e
   ·
    rename_i y hy; exact (List.getElem?_eq_some_iff.1 hy).1
   ·
    cases e
  have hat : t[k].path_ = x.path_ := by
   unfold isAt at e
   rw [List.getElem?_eq_getElem hk] at e
   simpa using e
  have hhi : ∀ z ∈ t.drop (k + 1), z.path_ ≠ x.path_ := by
   intro z hz h
   obtain ⟨j, hj, rfl⟩ := List.mem_iff_getElem.1 hz
   rw [List.length_drop] at hj
   rw [List.getElem_drop] at h
   have := List.pairwise_iff_getElem.1 hs k (k + 1 + j) hk (by omega) (by omega)
   rw [hat, h] at this
   exact s_irrefl _ this
  simp only [List.mem_append, List.mem_cons]
  constructor
  ·
   rintro (h | h | h)
   ·
    exact .inr ⟨List.mem_of_mem_take h, hne (hlo _ h)⟩
   ·
    exact .inl h
   ·
    exact .inr ⟨List.mem_of_mem_drop h, hhi _ h⟩
  ·
   rintro (h | ⟨h, h'⟩)
   ·
    exact .inr (.inl h)
   ·
    rw [hsplit, List.drop_eq_getElem_cons hk] at h
    rcases List.mem_append.1 h with h | h
    ·
     exact .inl h
    ·
     rcases List.mem_cons.1 h with h | h
     ·
      exact absurd (h ▸ hat) h'
     ·
      exact .inr (.inr h)
theorem putAt_sorted {t : List GFile} {x : GFile} {k : Nat} (hs : Sorted t) (hp : Pos t x.path_ k) : Sorted (putAt t x k) := by
 have hmem := @putAt_mem t x
 rw [putAt_eq hp.le]
 have hlo : ∀ z ∈ t.take k, z.path_ < x.path_ := by
  intro z hz
  obtain ⟨j, hj, rfl⟩ := List.mem_iff_getElem.1 hz
  rw [List.length_take] at hj
  rw [List.getElem_take]
  exact hp.lo j (by omega) (by omega)
 have hhi : ∀ z ∈ t.drop (k + cond (isAt t x.path_ k) 1 0), x.path_ < z.path_ := by
  intro z hz
  obtain ⟨j, hj, rfl⟩ := List.mem_iff_getElem.1 hz
  rw [List.length_drop] at hj
  rw [List.getElem_drop]
  have h1 := hp.hi (k + cond (isAt t x.path_ k) 1 0 + j) (by omega) (by omega)
  rcases s_tri x.path_ (t[k + cond (isAt t x.path_ k) 1 0 + j]'(by omega)).path_ with h | h | h
  ·
   exact h
  ·
   exfalso
   have hm := (isAt_mem hs hp).2 ⟨_, List.getElem_mem (show k + cond (isAt t x.path_ k) 1 0 + j < t.length by omega), h.symm⟩
   have hat : (t[k]'(by omega)).path_ = x.path_ := by
    unfold isAt at hm
    rw [List.getElem?_eq_getElem (show k < t.length by omega)] at hm
    simpa using hm
   have := List.pairwise_iff_getElem.1 hs k (k + cond (isAt t x.path_ k) 1 0 + j) (by omega) (by omega) (by rw [hm, cond_true]; omega)
   rw [hat, ← h] at this
   exact s_irrefl _ this
  ·
   exact absurd h h1
 rw [Sorted, List.pairwise_append]
 refine ⟨hs.sublist (List.take_sublist k t), List.pairwise_cons.2 ⟨hhi, hs.sublist (List.drop_sublist _ t)⟩, ?_⟩
 intro a ha b hb
 rcases List.mem_cons.1 hb with h | h
 ·
  subst h; exact hlo a ha
 ·
  exact s_trans (hlo a ha) (hhi b h)
theorem putAt_pos {t : List GFile} {x : GFile} {k : Nat} (hs : Sorted t) (hp : Pos t x.path_ k) : Pos (putAt t x k) x.path_ k ∧ isAt (putAt t x k) x.path_ k = true ∧ (putAt t x k).take k ++ (putAt t x k).drop (k + 1) = t.take k ++ t.drop (k + cond (isAt t x.path_ k) 1 0) := by
 have hso := putAt_sorted hs hp
 have hlk : (t.take k).length = k := by simp [hp.le]
 have hget : (putAt t x k)[k]? = some x := by
  rw [putAt_eq hp.le, List.getElem?_append_right (by omega), hlk]
  simp
 have hk : k < (putAt t x k).length := (List.getElem?_eq_some_iff.1 hget).1
 have hx : (putAt t x k)[k] = x := (List.getElem?_eq_some_iff.1 hget).2
 refine ⟨⟨by omega, ?_, ?_⟩, ?_, ?_⟩
 ·
  intro j hj hjk
  have := List.pairwise_iff_getElem.1 hso j k hj hk hjk
  rwa [hx] at this
 ·
  intro j hj hjk hlt
  by_cases e : k = j
  ·
   subst e; rw [hx] at hlt; exact s_irrefl _ hlt
  ·
   have := List.pairwise_iff_getElem.1 hso k j hk hj (by omega)
   rw [hx] at this
   exact s_irrefl _ (s_trans this hlt)
 ·
  unfold isAt; rw [hget]; simp
 ·
  rw [putAt_eq hp.le, List.take_append_of_le_length (by omega), List.take_of_length_le (by omega)]
  congr 1
  rw [show k + 1 = (t.take k).length + 1 by omega, List.drop_append, List.drop_of_length_le (by omega)]
  simp
end Go.Zv.G
namespace Go.Zv.G
open Go Go.Zv Go.Proofs
set_option maxRecDepth 100000
attribute [local simp high] bsome
structure Good (t : List GFile) : Prop where
 le : t.length ≤ 12
 path : ∀ x ∈ t, okPath x.path_ = true
 sorted : Sorted t
 text : ∀ x ∈ t, txtE x.text_ = 0
theorem good_iff {t : List GFile} : chk t = 0 ↔ Good t := by
 rw [chk_iff]
 exact ⟨fun ⟨a, b, c, d⟩ => ⟨a, b, c, d⟩, fun ⟨a, b, c, d⟩ => ⟨a, b, c, d⟩⟩
theorem txt_le {s : S} (h : txtE s = 0) : s.length ≤ lim := by
 unfold txtE at h
 split at h
 ·
  unfold lim; omega
 ·
  cases h
theorem lmt_ok {α : Type} {l : List α} (h : l.length ≤ lim) : lmt l = some l := by unfold lmt; rw [if_pos h]
theorem isAt_get {t : List GFile} {p : S} {k : Nat} (h : isAt t p k = true) : ∃ hk : k < t.length, t[k].path_ = p := by
 unfold isAt at h
 split at h
 ·
  rename_i x hx
  obtain ⟨hk, he⟩ := List.getElem?_eq_some_iff.1 hx
  exact ⟨hk, by rw [he]; simpa using h⟩
 ·
  cases h
theorem f_tree_put_eq {n : Nat} {t : List GFile} {p text : S} {k : Nat} (hs : Sorted t) (hle : t.length < 1000000) (hn : t.length < n) (et : text.length ≤ lim) (hp : Pos t p k) : f_tree_put n t p text = some (putAt t ⟨p, text⟩ k) := by
 obtain ⟨k', hp', h42⟩ := f_tree_find_eq (n := n) (p := p) hs hle hn
 have e1 : k' = k := hp'.unique hp
 subst e1
 unfold f_tree_put
 rw [h42]
 simp only [bsome]
 rw [lmt_ok et]
 simp only [bsome]
 unfold putAt
 cases e : isAt t p k' with
 | true =>
  obtain ⟨hk, hat⟩ := isAt_get e
  rw [if_pos rfl, if_pos rfl, ix_nat hk]
  simp
 | false =>
  rw [if_neg (by simp), if_neg (by simp)]
  unfold insI
  rw [if_pos ⟨by omega, by have := hp.le; omega, by simp, by unfold lim; simp; omega⟩]
  simp
end Go.Zv.G
namespace Go.Zv.G
open Go Go.Zv Go.Proofs
set_option maxRecDepth 100000
attribute [local simp high] bsome
theorem ixO_nat {α : Type} {l : List (Option α)} {i : Nat} {x : α} (h : l[i]? = some (some x)) : ixO l (i : Int) = some x := by
 unfold ixO ix
 rw [if_pos (by omega)]
 simp [h]
theorem ix_get {α : Type} {l : List α} {i : Nat} {x : α} (h : l[i]? = some x) : ix l (i : Int) = some x := by
 unfold ix
 rw [if_pos (by omega)]
 simpa using h
def Filled (a b : List S) (t : List (Option (List Int))) (fin : Nat → Nat → Prop) : Prop :=
 t.length = a.length + 1 ∧ ∀ x, x ≤ a.length → ∃ row : List Int, t[x]? = some (some row) ∧ row.length = b.length + 1 ∧ ∀ y, y ≤ b.length → fin x y → row[y]? = some ((common (a.drop x) (b.drop y) : Nat) : Int)
theorem Filled.mono {a b : List S} {t : List (Option (List Int))} {f g : Nat → Nat → Prop} (h : Filled a b t f) (hfg : ∀ x y, x ≤ a.length → y ≤ b.length → g x y → f x y) : Filled a b t g := by
 refine ⟨h.1, fun x hx => ?_⟩
 obtain ⟨row, h1, h2, h3⟩ := h.2 x hx
 exact ⟨row, h1, h2, fun y hy hg => h3 y hy (hfg x y hx hy hg)⟩
theorem Filled.set {a b : List S} {t : List (Option (List Int))} {f : Nat → Nat → Prop} {x y : Nat} {row : List Int} (h : Filled a b t f) (hx : x < a.length + 1) (hy : y ≤ b.length) (hr : t[x]? = some (some row)) :
  Filled a b (t.set x (some (row.set y ((common (a.drop x) (b.drop y) : Nat) : Int)))) (fun x' y' => f x' y' ∨ (x' = x ∧ y' = y)) := by
 refine ⟨by simp [h.1], fun x' hx' => ?_⟩
 obtain ⟨row', h1, h2, h3⟩ := h.2 x' hx'
 by_cases hxx : x = x'
 ·
  subst hxx
  rw [hr] at h1
  have e : row = row' := by simpa using h1
  subst e
  refine ⟨row.set y ((common (a.drop x) (b.drop y) : Nat) : Int), ?_, by simp [h2], fun y' hy' hf => ?_⟩
  ·
   rw [List.getElem?_set]; simp [h.1, hx]
  ·
   rw [List.getElem?_set]
   by_cases hyy : y = y'
   ·
    subst hyy; simp; omega
   ·
    rw [if_neg hyy]
    rcases hf with hf | hf
    ·
     exact h3 y' hy' hf
    ·
     exact absurd hf.2.symm hyy
 ·
  refine ⟨row', by rw [List.getElem?_set, if_neg hxx]; exact h1, h2, fun y' hy' hf => ?_⟩
  rcases hf with hf | hf
  ·
   exact h3 y' hy' hf
  ·
   exact absurd hf.1.symm hxx
theorem tab45 {a b : List S} (ha : a.length < 1000000) (hb : b.length < 1000000) {m : Nat} (hm : m < a.length) (rec : List (Option (List Int)) → Int → Option (List (Option (List Int)))) : ∀ (c fuel : Nat) (t : List (Option (List Int))), c ≤ b.length → c < fuel → Filled a b t (fun x y => m < x ∨ y = b.length ∨ (x = m ∧ c ≤ y)) →
  ∃ t', Filled a b t' (fun x y => m ≤ x ∨ y = b.length) ∧ f_lcs_table_L45 a b (m : Int) rec fuel t ((c : Int) - 1) = rec t' ((m : Int) - 1) := by
 intro c
 induction c with
 | zero =>
  intro fuel t _ hf ht
  obtain ⟨fuel, rfl⟩ : ∃ k, fuel = k + 1 := ⟨fuel - 1, by omega⟩
  refine ⟨t, ht.mono fun x y _ _ h => ?_, ?_⟩
  ·
   rcases h with h | h
   ·
    rcases Nat.lt_or_eq_of_le h with h | h
    ·
     exact Or.inl h
    ·
     exact Or.inr (Or.inr ⟨h.symm, Nat.zero_le _⟩)
   ·
    exact Or.inr (Or.inl h)
  ·
   unfold f_lcs_table_L45
   rw [if_neg (by simp)]
   rw [rng_ok (by omega) (by omega)]
   simp
 | succ c ih =>
  intro fuel t hc hf ht
  obtain ⟨fuel, rfl⟩ : ∃ k, fuel = k + 1 := ⟨fuel - 1, by omega⟩
  have e0 : ((c + 1 : Nat) : Int) - 1 = (c : Int) := by omega
  have hcb : c < b.length := by omega
  obtain ⟨row, r1, r2, r3⟩ := ht.2 m (by omega)
  obtain ⟨row', s1, s2, s3⟩ := ht.2 (m + 1) (by omega)
  have v1 := s3 (c + 1) (by omega) (Or.inl (by omega))
  have v2 := s3 c (by omega) (Or.inl (by omega))
  have v3 := r3 (c + 1) (by omega) (Or.inr (Or.inr ⟨rfl, Nat.le_refl _⟩))
  have hp := common_pair (a := a) (b := b) hm hcb
  have bound : ∀ (p q : List S), common p q ≤ p.length := by
   intro p q
   fun_induction common p q <;> simp_all <;> omega
  have b1 := bound (a.drop (m + 1)) (b.drop (c + 1))
  have b0 : (a.drop (m + 1)).length ≤ a.length := by simp
  have hset := ht.set (x := m) (y := c) (row := row) (by omega) (by omega) r1
  have e1 : ((m : Int) + 1) = ((m + 1 : Nat) : Int) := by omega
  have e2 : ((c : Int) + 1) = ((c + 1 : Nat) : Int) := by omega
  unfold f_lcs_table_L45
  rw [e0, if_pos (by simp), ix_nat hm, bsome, ix_nat hcb, bsome]
  obtain ⟨t', h1, h2⟩ := ih fuel _ (by omega) (by omega) (hset.mono fun x y _ _ h => by
   rcases h with h | h | ⟨h, h'⟩
   ·
    exact Or.inl (Or.inl h)
   ·
    exact Or.inl (Or.inr (Or.inl h))
   ·
    rcases Nat.lt_or_eq_of_le h' with h' | h'
    ·
     exact Or.inl (Or.inr (Or.inr ⟨h, h'⟩))
    ·
     exact Or.inr ⟨h, h'.symm⟩)
  refine ⟨t', h1, ?_⟩
  by_cases hab : a[m] = b[c]
  ·
   rw [if_pos (by simp [hab])]
   rw [if_pos hab] at hp
   rw [need_ok (by rw [ht.1]; omega), bsome, ixO_nat r1, bsome, rng_succ (by omega), bsome, need_ok (by rw [ht.1]; omega), bsome, ixO_nat s1, bsome, rng_succ (by omega), bsome, ix_get v1, bsome, rng_ok (by omega) (by omega), bsome]
   rw [show ix row (c : Int) = some row[c] from ix_nat (by omega), bsome, rng_ok (by omega) (by omega), bsome]
   rw [← h2, hp]
   simp [Int.add_comm]
  ·
   rw [if_neg (by simp [hab])]
   rw [if_neg hab] at hp
   rw [need_ok (by rw [ht.1]; omega), bsome, ixO_nat r1, bsome, rng_succ (by omega), bsome, need_ok (by rw [ht.1]; omega), bsome, ixO_nat s1, bsome, ix_get v2, bsome, rng_succ (by omega), bsome, ix_get v3, bsome]
   rw [show ix row (c : Int) = some row[c] from ix_nat (by omega), bsome, rng_ok (by omega) (by omega), bsome]
   rw [← h2, hp]
   have em : (if ((common (a.drop m) (b.drop (c + 1)) : Nat) : Int) > ((common (a.drop (m + 1)) (b.drop c) : Nat) : Int) then ((common (a.drop m) (b.drop (c + 1)) : Nat) : Int) else ((common (a.drop (m + 1)) (b.drop c) : Nat) : Int)) = ((max (common (a.drop (m + 1)) (b.drop c)) (common (a.drop m) (b.drop (c + 1))) : Nat) : Int) := by
    split <;> omega
   rw [em]
   simp
theorem tab32 {a b : List S} (ha : a.length < 1000000) (hb : b.length < 1000000) : ∀ (m fuel : Nat) (t : List (Option (List Int))), m ≤ a.length → m + b.length + 1 < fuel → Filled a b t (fun x y => m ≤ x ∨ y = b.length) →
  ∃ t', Filled a b t' (fun _ _ => True) ∧ f_lcs_table_L32 a b fuel t ((m : Int) - 1) = some t' := by
 intro m
 induction m with
 | zero =>
  intro fuel t _ hf ht
  obtain ⟨fuel, rfl⟩ : ∃ k, fuel = k + 1 := ⟨fuel - 1, by omega⟩
  refine ⟨t, ht.mono fun x y _ _ _ => Or.inl (Nat.zero_le _), ?_⟩
  unfold f_lcs_table_L32
  rw [if_neg (by simp)]
 | succ m ih =>
  intro fuel t hm hf ht
  obtain ⟨fuel, rfl⟩ : ∃ k, fuel = k + 1 := ⟨fuel - 1, by omega⟩
  have e0 : ((m + 1 : Nat) : Int) - 1 = (m : Int) := by omega
  obtain ⟨t1, h1, h2⟩ := tab45 ha hb (m := m) (by omega) (fun a103 a104 => f_lcs_table_L32 a b fuel a103 a104) b.length fuel t (Nat.le_refl _) (by omega) (ht.mono fun x y hx hy h => by
   rcases h with h | h | h
   ·
    exact Or.inl (by omega)
   ·
    exact Or.inr h
   ·
    exact Or.inr (by omega))
  obtain ⟨t', h3, h4⟩ := ih fuel t1 (by omega) (by omega) h1
  refine ⟨t', h3, ?_⟩
  unfold f_lcs_table_L32
  rw [e0, if_pos (by simp), rng_ok (by omega) (by omega), bsome, h2, h4]
theorem common_nil_left (b : List S) : common ([] : List S) b = 0 := by simp [common]
theorem tab9 {a b : List S} (ha : a.length < 1000000) (hb : b.length < 1000000) (hl : (1000001 : Int) ≤ (lim : Int)) (n : Nat) (hn : a.length + b.length + 2 < n) : ∀ (c fuel : Nat) (t : List (Option (List Int))), c ≤ a.length + 1 → a.length + 1 - c < fuel → t.length = a.length + 1 → (∀ x, x < c → t[x]? = some (some (List.replicate (b.length + 1) 0))) →
  ∃ t', Filled a b t' (fun _ _ => True) ∧ f_lcs_table_L9 n a b ((a.length : Int) + 1) fuel t (c : Int) = some t' := by
 have main : ∀ (k c fuel : Nat) (t : List (Option (List Int))), a.length + 1 - c = k → c ≤ a.length + 1 → a.length + 1 - c < fuel → t.length = a.length + 1 → (∀ x, x < c → t[x]? = some (some (List.replicate (b.length + 1) 0))) →
  ∃ t', Filled a b t' (fun _ _ => True) ∧ f_lcs_table_L9 n a b ((a.length : Int) + 1) fuel t (c : Int) = some t' := by
  intro k
  induction k with
  | zero =>
   intro c fuel t hk hc hf hlen ht
   obtain ⟨fuel, rfl⟩ : ∃ k, fuel = k + 1 := ⟨fuel - 1, by omega⟩
   have fil : Filled a b t (fun x y => a.length ≤ x ∨ y = b.length) := by
    refine ⟨hlen, fun x hx => ⟨_, ht x (by omega), by simp, fun y hy h => ?_⟩⟩
    rw [List.getElem?_replicate, if_pos (by omega)]
    rcases h with h | h
    ·
     rw [List.drop_of_length_le (l := a) h, common_nil_left]; rfl
    ·
     rw [List.drop_of_length_le (l := b) (by omega), common_nil]; rfl
   obtain ⟨t', h1, h2⟩ := tab32 ha hb a.length n t (Nat.le_refl _) (by omega) fil
   refine ⟨t', h1, ?_⟩
   unfold f_lcs_table_L9
   rw [if_neg (by simp; omega), rng_ok (by omega) (by omega), bsome, h2]
  | succ k ih =>
   intro c fuel t hk hc hf hlen ht
   obtain ⟨fuel, rfl⟩ : ∃ k, fuel = k + 1 := ⟨fuel - 1, by omega⟩
   have e1 : ((b.length : Int) + 1).toNat = b.length + 1 := by omega
   obtain ⟨t', h1, h2⟩ := ih (c + 1) fuel (t.set c (some (List.replicate (b.length + 1) 0))) (by omega) (by omega) (by omega) (by simp [hlen]) (fun x hx => by
    rw [List.getElem?_set]
    by_cases hxc : c = x
    ·
     subst hxc; simp; omega
    ·
     rw [if_neg hxc]; exact ht x (by omega))
   refine ⟨t', h1, ?_⟩
   obtain ⟨w, hw⟩ : ∃ w, t[c]? = some w := ⟨t[c]'(by omega), List.getElem?_eq_getElem (by omega)⟩
   unfold f_lcs_table_L9
   rw [if_pos (by simp; omega), rng_ok (by omega) (by omega), bsome, need_ok (by omega), bsome, need_ok (by omega), bsome, ix_get hw, bsome, rng_succ (by omega), bsome]
   rw [← h2, e1]
   simp
 intro c fuel t
 exact main _ c fuel t rfl
theorem table_law {a b : List S} (ha : a.length < 1000000) (hb : b.length < 1000000) (hl : (1000001 : Int) ≤ (lim : Int)) (n : Nat) (hn : a.length + b.length + 2 < n) :
  ∃ t', Filled a b t' (fun _ _ => True) ∧ f_lcs_table n a b = some t' := by
 have e1 : ((a.length : Int) + 1).toNat = a.length + 1 := by omega
 obtain ⟨t', h1, h2⟩ := tab9 ha hb hl n hn 0 n (List.replicate (a.length + 1) none) (by omega) (by omega) (by simp) (fun x hx => by omega)
 refine ⟨t', h1, ?_⟩
 unfold f_lcs_table
 rw [rng_ok (by omega) (by omega), bsome, need_ok (by omega), bsome, e1]
 exact h2
end Go.Zv.G
namespace Go.Zv.G
open Go Go.Zv Go.Proofs
set_option maxRecDepth 100000
attribute [local simp high] bsome
structure GoodP (a b : List S) (w : Nat) (x y : Nat) : Prop where
 hx : x < a.length
 hy : y < b.length
 eq : a[x] = b[y]
 rest : common (a.drop (x + 1)) (b.drop (y + 1)) + 1 = w
theorem Filled.at {a b : List S} {t : List (Option (List Int))} (h : Filled a b t (fun _ _ => True)) {x y : Nat} (hx : x ≤ a.length) (hy : y ≤ b.length) : ∃ row : List Int, t[x]? = some (some row) ∧ row[y]? = some ((common (a.drop x) (b.drop y) : Nat) : Int) := by
 obtain ⟨row, h1, _, h3⟩ := h.2 x hx
 exact ⟨row, h1, h3 y hy trivial⟩
theorem next15 {a b : List S} (ha : a.length < 1000000) (hb : b.length < 1000000) {t : List (Option (List Int))} (ht : Filled a b t (fun _ _ => True)) {w : Nat} (hw : w < 1000000) {x : Nat} (hx : x < a.length) (rec : Int → Option (Int × Int)) : ∀ (k c fuel : Nat), b.length - c = k → c ≤ b.length → k < fuel →
  (∃ y, c ≤ y ∧ GoodP a b w x y ∧ f_lcs_next_L15 a b t (w : Int) (x : Int) rec fuel (c : Int) = some ((x : Int), (y : Int))) ∨ ((∀ y, c ≤ y → ¬ GoodP a b w x y) ∧ f_lcs_next_L15 a b t (w : Int) (x : Int) rec fuel (c : Int) = rec ((x + 1 : Nat) : Int)) := by
 intro k
 induction k with
 | zero =>
  intro c fuel hk hc hf
  obtain ⟨fuel, rfl⟩ : ∃ k, fuel = k + 1 := ⟨fuel - 1, by omega⟩
  refine Or.inr ⟨fun y hy hg => ?_, ?_⟩
  ·
   have := hg.hy
   omega
  ·
   unfold f_lcs_next_L15
   rw [if_neg (by simp; omega), rng_succ (by omega), bsome]
 | succ k ih =>
  intro c fuel hk hc hf
  obtain ⟨fuel, rfl⟩ : ∃ k, fuel = k + 1 := ⟨fuel - 1, by omega⟩
  have hcb : c < b.length := by omega
  obtain ⟨row, r1, r2⟩ := ht.at (x := x + 1) (y := c + 1) (by omega) (by omega)
  have step : ¬ GoodP a b w x c → f_lcs_next_L15 a b t (w : Int) (x : Int) rec (fuel + 1) (c : Int) = f_lcs_next_L15 a b t (w : Int) (x : Int) rec fuel ((c + 1 : Nat) : Int) := by
   intro hng
   rw [f_lcs_next_L15.eq_2]
   rw [if_pos (by simp; omega), ix_nat hx, bsome, ix_nat hcb, bsome]
   by_cases hab : a[x] = b[c]
   ·
    rw [if_pos (by simp [hab]), rng_succ (by omega), bsome, ixO_nat r1, bsome, rng_succ (by omega), bsome, ix_get r2, bsome, rng_ok (by omega) (by omega), bsome]
    rw [if_neg (by
     intro hh
     have hh' : ((common (a.drop (x + 1)) (b.drop (c + 1)) : Nat) : Int) = (w : Int) - 1 := by simpa using hh
     exact hng ⟨hx, hcb, hab, by omega⟩), bsome]
   ·
    rw [if_neg (by simp [hab]), rng_succ (by omega), bsome]
  by_cases hg : GoodP a b w x c
  ·
   refine Or.inl ⟨c, Nat.le_refl _, hg, ?_⟩
   have hr := hg.rest
   rw [f_lcs_next_L15.eq_2]
   rw [if_pos (by simp; omega), ix_nat hx, bsome, ix_nat hcb, bsome, if_pos (by simp [hg.eq]), rng_succ (by omega), bsome, ixO_nat r1, bsome, rng_succ (by omega), bsome, ix_get r2, bsome, rng_ok (by omega) (by omega), bsome]
   rw [if_pos (by simp; omega)]
  ·
   rw [step hg]
   rcases ih (c + 1) fuel (by omega) (by omega) (by omega) with ⟨y, h1, h2, h3⟩ | ⟨h1, h2⟩
   ·
    exact Or.inl ⟨y, by omega, h2, h3⟩
   ·
    refine Or.inr ⟨fun y hy hgy => ?_, h2⟩
    rcases Nat.lt_or_eq_of_le hy with hy | hy
    ·
     exact h1 y hy hgy
    ·
     subst hy; exact hg hgy
theorem next8 {a b : List S} (ha : a.length < 1000000) (hb : b.length < 1000000) {t : List (Option (List Int))} (ht : Filled a b t (fun _ _ => True)) {w : Nat} (hw : w < 1000000) {k : Nat} (hk : k ≤ b.length) {x0 y0 : Nat} (hy0 : k ≤ y0) (hg0 : GoodP a b w x0 y0) : ∀ (m x fuel : Nat), x0 - x = m → x ≤ x0 → m + b.length + 1 < fuel →
  ∃ x' y', x ≤ x' ∧ k ≤ y' ∧ GoodP a b w x' y' ∧ f_lcs_next_L8 a b t (k : Int) (w : Int) fuel (x : Int) = some ((x' : Int), (y' : Int)) := by
 intro m
 induction m with
 | zero =>
  intro x fuel hm hx hf
  have e : x = x0 := by omega
  subst e
  obtain ⟨fuel, rfl⟩ : ∃ k, fuel = k + 1 := ⟨fuel - 1, by omega⟩
  rw [f_lcs_next_L8.eq_2]
  rcases next15 ha hb ht hw hg0.hx (fun a48 => f_lcs_next_L8 a b t (k : Int) (w : Int) fuel a48) _ k fuel rfl hk (by omega) with ⟨y, h1, h2, h3⟩ | ⟨h1, _⟩
  ·
   exact ⟨x, y, Nat.le_refl _, h1, h2, h3⟩
  ·
   exact absurd hg0 (h1 y0 hy0)
 | succ m ih =>
  intro x fuel hm hx hf
  obtain ⟨fuel, rfl⟩ : ∃ k, fuel = k + 1 := ⟨fuel - 1, by omega⟩
  have hxa : x < a.length := by have := hg0.hx; omega
  rw [f_lcs_next_L8.eq_2]
  rcases next15 ha hb ht hw hxa (fun a48 => f_lcs_next_L8 a b t (k : Int) (w : Int) fuel a48) _ k fuel rfl hk (by omega) with ⟨y, h1, h2, h3⟩ | ⟨_, h2⟩
  ·
   exact ⟨x, y, Nat.le_refl _, h1, h2, h3⟩
  ·
   rw [h2]
   obtain ⟨x', y', h3, h4, h5, h6⟩ := ih (x + 1) fuel (by omega) (by omega) (by omega)
   exact ⟨x', y', by omega, h4, h5, h6⟩
theorem common_le_left : ∀ (p q : List S), common p q ≤ p.length := by
 intro p q
 fun_induction common p q <;> simp_all <;> omega
theorem next_law {a b : List S} (ha : a.length < 1000000) (hb : b.length < 1000000) {t : List (Option (List Int))} (ht : Filled a b t (fun _ _ => True)) {n : Nat} (hn : a.length + b.length + 2 < n) {i k : Nat} (hi : i ≤ a.length) (hk : k ≤ b.length) (hc : 0 < common (a.drop i) (b.drop k)) :
  ∃ x y, i ≤ x ∧ k ≤ y ∧ GoodP a b (common (a.drop i) (b.drop k)) x y ∧ f_lcs_next n a b t (i : Int) (k : Int) = some ((x : Int), (y : Int)) := by
 obtain ⟨x0, y0, hx, hy, h1, h2, h3, h4⟩ := common_find _ i k (Nat.le_refl _) hc
 have hle := common_le_left (a.drop i) (b.drop k)
 have hlen : (a.drop i).length ≤ a.length := by simp
 obtain ⟨row, r1, r2⟩ := ht.at hi hk
 obtain ⟨x, y, g1, g2, g3, g4⟩ := next8 ha hb ht (w := common (a.drop i) (b.drop k)) (by omega) hk h2 ⟨hx, hy, h3, h4⟩ _ i n rfl h1 (by omega)
 refine ⟨x, y, g1, g2, g3, ?_⟩
 unfold f_lcs_next
 rw [ixO_nat r1, bsome, ix_get r2, bsome, g4]
def asMatch (p : Nat × Nat) : GMatch := ⟨(p.1 : Int), (p.2 : Int)⟩
theorem best17 {a b : List S} (ha : a.length < 1000000) (hb : b.length < 1000000) (hl : 2000000 ≤ lim) {t : List (Option (List Int))} (ht : Filled a b t (fun _ _ => True)) {n : Nat} (hn : a.length + b.length + 2 < n) : ∀ (m i k fuel : Nat) (ms : List GMatch), a.length - i = m → i ≤ a.length → k ≤ b.length → m < fuel → ms.length + m ≤ 1000000 →
  ∃ ps : List (Nat × Nat), Pairs a b i k (ps ++ [(a.length, b.length)]) ∧ ps.length ≤ m ∧ f_lcs_Best_L17 n a b t fuel ms (i : Int) (k : Int) = some (ms ++ ps.map asMatch, 0) := by
 intro m
 induction m using Nat.strongRecOn with
 | ind m ih =>
  intro i k fuel ms hm hi hk hf hms
  obtain ⟨fuel, rfl⟩ : ∃ k, fuel = k + 1 := ⟨fuel - 1, by omega⟩
  obtain ⟨row, r1, r2⟩ := ht.at hi hk
  rw [f_lcs_Best_L17.eq_2]
  rw [need_ok (by rw [ht.1]; omega), bsome, ixO_nat r1, bsome, ix_get r2, bsome]
  by_cases hc : 0 < common (a.drop i) (b.drop k)
  ·
   obtain ⟨x, y, g1, g2, g3, g4⟩ := next_law ha hb ht hn hi hk hc
   have hx := g3.hx
   have hy := g3.hy
   rw [if_pos (by simp; omega), g4, bsome, need_ok (by omega), bsome, rng_succ (by omega), bsome, rng_succ (by omega), bsome]
   obtain ⟨ps, p1, p2, p3⟩ := ih (a.length - (x + 1)) (by omega) (x + 1) (y + 1) fuel (ms ++ [(⟨(x : Int), (y : Int)⟩ : GMatch)]) rfl (by omega) (by omega) (by omega) (by simp; omega)
   refine ⟨(x, y) :: ps, .pair hx hy g1 g2 g3.eq p1, by simp; omega, ?_⟩
   refine Eq.trans p3 ?_
   simp [asMatch]
  ·
   rw [if_neg (by simp; omega)]
   exact ⟨[], .last i k hi hk, by simp, by simp⟩
theorem best_law {a b : List S} (ha : a.length < 1000000) (hb : b.length < 1000000) (hl : 2000000 ≤ lim) {n : Nat} (hn : a.length + b.length + 2 < n) (hck : f_lcs_check n a b = some 0) :
  ∃ ps : List (Nat × Nat), Pairs a b 0 0 (ps ++ [(a.length, b.length)]) ∧ ps.length ≤ a.length ∧ f_lcs_Best n a b = some (ps.map asMatch, 0) := by
 obtain ⟨t, h1, h2⟩ := table_law ha hb (by omega) n hn
 obtain ⟨ps, p1, p2, p3⟩ := best17 ha hb hl h1 hn a.length 0 0 n [] rfl (by omega) (by omega) (by omega) (by simp; omega)
 refine ⟨ps, p1, p2, ?_⟩
 unfold f_lcs_Best
 rw [hck, bsome, if_neg (by simp), h2, bsome]
 simpa using p3
end Go.Zv.G
