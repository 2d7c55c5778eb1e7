/- Plain laws: what the plain functions say. No condition. -/
import Derived.Test.YtloekbdlmikkcaaGreatDoorLawD1
namespace Go.Zv.G
open Go Go.Zv Go.Proofs
set_option maxRecDepth 100000
attribute [local simp high] bsome
def asHunk (h : Hk S) : GHunk := ⟨(h.at_ : Int), h.old, h.new⟩
theorem Pairs.parts {a b : List S} {i k : Nat} {p : Nat × Nat} {ps : List (Nat × Nat)} (h : Pairs a b i k (p :: ps)) : i ≤ p.1 ∧ p.1 ≤ a.length ∧ k ≤ p.2 ∧ p.2 ≤ b.length ∧ (ps = [] ∨ Pairs a b (p.1 + 1) (p.2 + 1) ps) := by
 cases h with
 | last _ _ h1 h2 => exact ⟨h1, Nat.le_refl _, h2, Nat.le_refl _, Or.inl rfl⟩
 | pair hx hy h1 h2 _ h3 => exact ⟨h1, Nat.le_of_lt hx, h2, Nat.le_of_lt hy, Or.inr h3⟩
theorem diff15 {a b : List S} (ha : a.length < 1000000) (hb : b.length < 1000000) (hl : 2000000 ≤ lim) {qs : List (Nat × Nat)} {r3 : List GMatch × Int} (hr : r3.1 ++ [(⟨(a.length : Int), (b.length : Int)⟩ : GMatch)] = qs.map asMatch) (hq : qs.length < 1000000) : ∀ (rest pre : List (Nat × Nat)) (i k fuel : Nat) (hs : List GHunk), qs = pre ++ rest → (rest = [] ∨ Pairs a b i k rest) → rest.length < fuel → hs.length + rest.length ≤ 1000000 →
  f_hunk_Diff_L15 a b r3 fuel hs (i : Int) (k : Int) (pre.length : Int) = some (hs ++ (hunksOf a b i k rest).map asHunk, 0) := by
 have hlen : r3.1.length + 1 = qs.length := by
  have := congrArg List.length hr
  simpa using this
 intro rest
 induction rest with
 | nil =>
  intro pre i k fuel hs hqs _ hf _
  obtain ⟨fuel, rfl⟩ : ∃ k, fuel = k + 1 := ⟨fuel - 1, by omega⟩
  have hp : pre.length = qs.length := by rw [hqs]; simp
  rw [f_hunk_Diff_L15.eq_2]
  rw [if_neg (by simp; omega)]
  simp [hunksOf]
 | cons p rest ih =>
  intro pre i k fuel hs hqs hP hf hn
  obtain ⟨fuel, rfl⟩ : ∃ k, fuel = k + 1 := ⟨fuel - 1, by omega⟩
  have hp : pre.length + (rest.length + 1) = qs.length := by rw [hqs]; simp
  simp only [List.length_cons] at hf hn
  obtain ⟨h1, h2, h3, h4, h5⟩ := Pairs.parts (hP.resolve_left (by simp))
  have hget : ix (r3.1 ++ [(⟨(a.length : Int), (b.length : Int)⟩ : GMatch)]) (pre.length : Int) = some (asMatch p) := by
   rw [hr, hqs]
   exact ix_get (by simp)
  have hJ : ∀ hs' : List GHunk, hs'.length + rest.length ≤ 1000000 → f_hunk_Diff_J31 (pre.length : Int) (asMatch p) (fun a66 a67 a68 a69 => f_hunk_Diff_L15 a b r3 fuel a66 a67 a68 a69) hs' = some (hs' ++ (hunksOf a b (p.1 + 1) (p.2 + 1) rest).map asHunk, 0) := by
   intro hs' hn'
   have := ih (pre ++ [p]) (p.1 + 1) (p.2 + 1) fuel hs' (by simp [hqs]) h5 (by omega) hn'
   unfold f_hunk_Diff_J31
   rw [show (asMatch p).i_ = (p.1 : Int) from rfl, show (asMatch p).k_ = (p.2 : Int) from rfl, rng_succ (by omega), bsome, rng_succ (by omega), bsome, rng_succ (by omega), bsome]
   rw [List.length_append, List.length_singleton] at this
   exact this
  have c1 : cutI a (i : Int) (p.1 : Int) = some ((a.take p.1).drop i) := cutI_nat h1 h2
  have c2 : cutI b (k : Int) (p.2 : Int) = some ((b.take p.2).drop k) := cutI_nat h3 h4
  have l1 : lmt ((a.take p.1).drop i) = some ((a.take p.1).drop i) := by unfold lmt; rw [if_pos (by simp; omega)]
  have l2 : lmt ((b.take p.2).drop k) = some ((b.take p.2).drop k) := by unfold lmt; rw [if_pos (by simp; omega)]
  rw [f_hunk_Diff_L15.eq_2]
  rw [if_pos (by simp; omega), hget, bsome]
  by_cases hc1 : i < p.1
  ·
   rw [if_pos (by simp [asMatch]; omega), show (asMatch p).i_ = (p.1 : Int) from rfl, c1, bsome, l1, bsome, show (asMatch p).k_ = (p.2 : Int) from rfl, c2, bsome, l2, bsome, need_ok (by omega), bsome, hJ _ (by simp; omega)]
   simp [hunksOf, hc1, asHunk]
  ·
   rw [if_neg (by simp [asMatch]; omega)]
   by_cases hc2 : k < p.2
   ·
    rw [if_pos (by simp [asMatch]; omega), show (asMatch p).i_ = (p.1 : Int) from rfl, c1, bsome, l1, bsome, show (asMatch p).k_ = (p.2 : Int) from rfl, c2, bsome, l2, bsome, need_ok (by omega), bsome, hJ _ (by simp; omega)]
    simp [hunksOf, hc2, asHunk]
   ·
    rw [if_neg (by simp [asMatch]; omega), hJ _ (by omega)]
    simp [hunksOf, hc1, hc2]
theorem diff_law {a b : List S} (ha : a.length < 100000) (hb : b.length < 100000) (hl : 2000000 ≤ lim) {n : Nat} (hn : a.length + b.length + 2 < n) (hck : f_lcs_check n a b = some 0) :
  ∃ ps : List (Nat × Nat), Pairs a b 0 0 ps ∧ f_hunk_Diff n a b = some ((hunksOf a b 0 0 ps).map asHunk, 0) := by
 obtain ⟨ps, p1, p2, p3⟩ := best_law (by omega) (by omega) hl hn hck
 refine ⟨_, p1, ?_⟩
 unfold f_hunk_Diff
 rw [p3, bsome, if_neg (by simp), need_ok (by simp; omega), bsome]
 have := diff15 (a := a) (b := b) (by omega) (by omega) hl (qs := ps ++ [(a.length, b.length)]) (r3 := (ps.map asMatch, 0)) (by simp [asMatch]) (by simp; omega) (ps ++ [(a.length, b.length)]) [] 0 0 n [] (by simp) (Or.inr p1) (by simp; omega) (by simp; omega)
 simpa using this
end Go.Zv.G
namespace Go.Zv.G
open Go Go.Zv Go.Proofs
set_option maxRecDepth 100000
attribute [local simp high] bsome
def oddLn (s : S) : Bool := decide ((10 : UInt8) ∈ s)
theorem f_lines_odd_1_eq {n : Nat} (s : S) : f_lines_odd_1 n s = some (oddLn s) := by
 unfold f_lines_odd_1 f_strings_IndexByte f_stringslite_IndexByte oddLn
 rw [bsome, bsome]
 rw [show ((10 : Int).toNat.toUInt8) = (10 : UInt8) from rfl]
 rcases idx8_spec 10 s 0 with ⟨h1, h2⟩ | ⟨a, b, h1, h2, h3⟩
 ·
  rw [h2]; simp [h1]
 ·
  rw [h3]; subst h1; simp
theorem oddL5_eq (n : Nat) (l : List S) (hl : l.length < 1000000) : ∀ (m i : Nat), i ≤ l.length → l.length < m + i → ∃ r : Int, f_slices_IndexFunc_string_by_lines_odd_1_L5 n l m (i : Int) = some r ∧ decide (r ≥ 0) = (l.drop i).any oddLn := by
 intro m
 induction m with
 | zero => intro i h1 h2; omega
 | succ m ih =>
  intro i h1 h2
  rw [f_slices_IndexFunc_string_by_lines_odd_1_L5.eq_2]
  by_cases hi : i < l.length
  ·
   rw [if_pos (by simpa using hi), ix_nat hi, bsome, f_lines_odd_1_eq, bsome, List.drop_eq_getElem_cons hi, List.any_cons]
   cases e : oddLn l[i] with
   | true => exact ⟨i, by simp, by simp⟩
   | false =>
    obtain ⟨r, h3, h4⟩ := ih (i + 1) (by omega) (by omega)
    refine ⟨r, ?_, by simpa using h4⟩
    rw [if_neg (by simp), rng_succ (by omega), bsome]
    exact h3
  ·
   rw [if_neg (by simpa using hi)]
   have : i = l.length := by omega
   subst this
   exact ⟨-1, rfl, by simp⟩
theorem f_lines_odd_eq {n : Nat} {l : List S} (hl : l.length < 1000000) (hn : l.length < n) : f_lines_odd n l = some (l.any oddLn) := by
 unfold f_lines_odd f_slices_ContainsFunc_string_by_lines_odd_1 f_slices_IndexFunc_string_by_lines_odd_1
 obtain ⟨r, h3, h4⟩ := oddL5_eq n l hl n 0 (by omega) (by omega)
 rw [show ((0 : Nat) : Int) = 0 from rfl] at h3
 rw [h3, bsome, bsome, h4, List.drop_zero]
def sizeL (l : List S) : Nat := (l.map List.length).sum
def linE (l : List S) : Int := if 60 < l.length then 4 else if 2001 < sizeL l + l.length then 4 else if l.length = 0 then 8 else if l.any oddLn then 8 else 0
theorem lines_L11 {n : Nat} {l : List S} (hl : l.length ≤ 60) (hz : sizeL l < 1000000000) (hn : l.length < n) : ∀ (m k fuel : Nat) (z : Int), l.length - k = m → k ≤ l.length → m < fuel → z = ((sizeL (l.take k) : Nat) : Int) + (l.length : Int) - 1 → f_lines_check_L11 n l fuel z (k : Int) = some (linE l) := by
 intro m
 induction m with
 | zero =>
  intro k fuel z hm hk hf hzz
  obtain ⟨fuel, rfl⟩ : ∃ k, fuel = k + 1 := ⟨fuel - 1, by omega⟩
  rw [List.take_of_length_le (by omega)] at hzz
  rw [f_lines_check_L11.eq_2, if_neg (by simp; omega), f_lines_odd_eq (by omega) hn, bsome]
  by_cases h1 : 2001 < sizeL l + l.length
  ·
   have hE : linE l = 4 := by unfold linE; rw [if_neg (by omega), if_pos h1]
   rw [if_pos (by simp; omega), hE]
  ·
   rw [if_neg (by simp; omega)]
   by_cases h2 : l.length = 0
   ·
    have hE : linE l = 8 := by unfold linE; rw [if_neg (by omega), if_neg h1, if_pos h2]
    rw [if_pos (by simp [h2]), hE]
   ·
    have hE : linE l = if l.any oddLn then 8 else 0 := by unfold linE; rw [if_neg (by omega), if_neg h1, if_neg h2]
    rw [if_neg (by simp only [beq_iff_eq]; omega), hE]
    cases l.any oddLn <;> simp
 | succ m ih =>
  intro k fuel z hm hk hf hzz
  obtain ⟨fuel, rfl⟩ : ∃ k, fuel = k + 1 := ⟨fuel - 1, by omega⟩
  have hkl : k < l.length := by omega
  have e1 : sizeL (l.take (k + 1)) = sizeL (l.take k) + l[k].length := by
   unfold sizeL
   rw [List.take_succ_eq_append_getElem hkl, List.map_append, List.sum_append]; rfl
  have e2 : sizeL (l.take (k + 1)) ≤ sizeL l := by
   have : sizeL l = sizeL (l.take (k + 1)) + sizeL (l.drop (k + 1)) := by
    unfold sizeL
    rw [← List.sum_append, ← List.map_append, List.take_append_drop]
   omega
  rw [f_lines_check_L11.eq_2, if_pos (by simp; omega), ix_nat hkl, bsome, rng_ok (by omega) (by omega), bsome, rng_succ (by omega), bsome]
  exact ih (k + 1) fuel _ (by omega) (by omega) (by omega) (by omega)
theorem f_lines_check_eq {n : Nat} {l : List S} (hz : sizeL l < 1000000000) (hn : l.length < n) (hb : l.length < 1000000) : f_lines_check n l = some (linE l) := by
 unfold f_lines_check
 by_cases h : 60 < l.length
 ·
  rw [if_pos (by simp; omega)]
  unfold linE; rw [if_pos h]
 ·
  rw [if_neg (by simp; omega), rng_ok (by omega) (by omega), bsome]
  exact lines_L11 (by omega) hz hn l.length 0 n _ rfl (by omega) (by omega) (by simp [sizeL])
end Go.Zv.G
namespace Go.Zv.G
open Go Go.Zv Go.Proofs
set_option maxRecDepth 100000
attribute [local simp high] bsome
theorem join_split (c : UInt8) : ∀ s : S, joinL (splitC c s) [c] = s
 | [] => by simp [splitC, joinL]
 | x :: xs => by
  have ih := join_split c xs
  unfold splitC
  by_cases h : x = c
  ·
   rw [if_pos h]
   subst h
   cases e : splitC x xs with
   | nil => exact absurd e (splitC_ne x xs)
   | cons y ys => rw [joinL, ← e, ih]; rfl
  ·
   rw [if_neg h]
   cases e : splitC c xs with
   | nil => exact absurd e (splitC_ne c xs)
   | cons y ys =>
    rw [e] at ih
    cases ys with
    | nil => simp only [joinL] at ih ⊢; rw [ih]
    | cons z zs => simp only [joinL] at ih ⊢; rw [List.cons_append, ih]
theorem split_odd (s : S) : (splitC 10 s).any oddLn = false := by
 induction s with
 | nil => simp [splitC, oddLn]
 | cons x xs ih =>
  unfold splitC
  by_cases h : x = 10
  ·
   rw [if_pos h, List.any_cons, ih]; simp [oddLn]
  ·
   rw [if_neg h]
   cases e : splitC 10 xs with
   | nil => exact absurd e (splitC_ne 10 xs)
   | cons y ys =>
    rw [e] at ih
    simp only [List.any_cons, Bool.or_eq_false_iff] at ih ⊢
    refine ⟨?_, ih.2⟩
    have := ih.1
    simp [oddLn] at this ⊢
    exact ⟨fun hh => h hh.symm, this⟩
theorem split_size (s : S) : sizeL (splitC 10 s) + (splitC 10 s).length = s.length + 1 := by
 induction s with
 | nil => simp [splitC, sizeL]
 | cons x xs ih =>
  unfold splitC
  by_cases h : x = 10
  ·
   rw [if_pos h]
   simp only [sizeL, List.map_cons, List.sum_cons, List.length_cons, List.length_nil] at ih ⊢
   omega
  ·
   rw [if_neg h]
   cases e : splitC 10 xs with
   | nil => exact absurd e (splitC_ne 10 xs)
   | cons y ys =>
    rw [e] at ih
    simp only [sizeL, List.map_cons, List.sum_cons, List.length_cons] at ih ⊢
    omega
theorem linE_split (s : S) : linE (splitC 10 s) = txtE s := by
 have h1 := split_size s
 have h2 := splitC_length 10 s
 unfold linE txtE
 by_cases a1 : 60 < (splitC 10 s).length
 ·
  rw [if_pos a1, if_neg (by omega)]
 ·
  rw [if_neg a1]
  by_cases a2 : 2001 < sizeL (splitC 10 s) + (splitC 10 s).length
  ·
   rw [if_pos a2, if_neg (by omega)]
  ·
   rw [if_neg a2, if_neg (by omega), split_odd, if_neg (by simp), if_pos (by omega)]
end Go.Zv.G
namespace Go.Zv.G
open Go Go.Zv Go.Proofs
set_option maxRecDepth 100000
attribute [local simp high] bsome
theorem joinI_ok {l : List S} {sep : S} (h1 : l.length ≤ lim) (h2 : (joinL l sep).length ≤ lim) : joinI l sep = some (joinL l sep) := by
 unfold joinI; rw [if_pos ⟨h1, h2⟩]
theorem split_of_txt {s : S} (h : txtE s = 0) : s.length ≤ 2000 ∧ cnt8 10 s < 60 := by
 unfold txtE at h
 by_cases hc : s.length ≤ 2000 ∧ cnt8 10 s < 60
 ·
  exact hc
 ·
  rw [if_neg hc] at h; exact absurd h (by decide)
theorem lines_of_txt {s : S} (h : txtE s = 0) : (splitC 10 s).length ≤ 60 ∧ sizeL (splitC 10 s) ≤ 2001 := by
 obtain ⟨h1, h2⟩ := split_of_txt h
 have h3 := split_size s
 have h4 := splitC_length 10 s
 omega
theorem f_lines_Join_split {n : Nat} {s : S} (h : txtE s = 0) (hn : 100 < n) (hl : 2000000 ≤ lim) : f_lines_Join n (splitC 10 s) = some (s, 0) := by
 obtain ⟨h1, h2⟩ := lines_of_txt h
 obtain ⟨h3, _⟩ := split_of_txt h
 unfold f_lines_Join
 rw [f_lines_check_eq (by omega) (by omega) (by omega), bsome, linE_split, h, if_neg (by simp), joinI_ok (by omega) (by rw [join_split]; omega), bsome, join_split]
theorem f_lines_Split_eq {n : Nat} {s : S} (h : txtE s = 0) (hn : 3000 < n) : f_lines_Split n s = some (splitC 10 s, 0) := by
 obtain ⟨h3, _⟩ := split_of_txt h
 unfold f_lines_Split
 rw [f_lines_Check_eq, bsome, h, if_neg (by simp), f_strings_Split_eq (by omega) (by omega), bsome]
theorem lcs_check_split {n : Nat} {s t : S} (hs : txtE s = 0) (ht : txtE t = 0) (hn : 100 < n) (hl : 2000000 ≤ lim) : f_lcs_check n (splitC 10 s) (splitC 10 t) = some 0 := by
 unfold f_lcs_check
 rw [f_lines_Join_split hs hn hl, bsome, if_neg (by simp), f_lines_Join_split ht hn hl, bsome]
theorem patch_law {n : Nat} {p s t : S} {q q' : S} (hs : txtE s = 0) (ht : txtE t = 0) (hn : 3000 < n) (hl : 2000000 ≤ lim) :
  ∃ ps : List (Nat × Nat), Pairs (splitC 10 s) (splitC 10 t) 0 0 ps ∧ f_tree_patch n p q s q' t = some (p, true, true, (hunksOf (splitC 10 s) (splitC 10 t) 0 0 ps).map asHunk) := by
 have h1 := (lines_of_txt hs).1
 have h2 := (lines_of_txt ht).1
 obtain ⟨ps, p1, p2⟩ := diff_law (a := splitC 10 s) (b := splitC 10 t) (by omega) (by omega) hl (n := n) (by omega) (lcs_check_split hs ht (by omega) hl)
 refine ⟨ps, p1, ?_⟩
 unfold f_tree_patch
 rw [f_lines_Split_eq hs hn, bsome, f_lines_Split_eq ht hn, bsome, p2, bsome]
end Go.Zv.G
namespace Go.Zv.G
open Go Go.Zv Go.Proofs
set_option maxRecDepth 100000
attribute [local simp high] bsome
def putEnd (n : Nat) (r : List S) : Option (List S × Int) := (f_lines_Join n r).bind fun r38 => if (r38.2 != 0) = true then some (([] : List S), r38.2) else some (r, 0)
theorem put7 {n : Nat} {a : List S} (ha : a.length < 1000000) (hl : 2000000 ≤ lim) {hs : List (Hk S)} (hh : hs.length < 1000000) : ∀ (rest pre : List (Hk S)) (e fuel : Nat) (out : List S), hs = pre ++ rest → Gaps e rest → (∀ x ∈ rest, x.at_ + x.old.length ≤ a.length) → e ≤ a.length → rest.length < fuel → (out ++ putOf a e rest).length ≤ 1000000 →
  f_apply_put_L7 n a (hs.map asHunk) (hs.map fun h => (h.at_ : Int)) fuel out (e : Int) (pre.length : Int) = putEnd n (out ++ putOf a e rest) := by
 intro rest
 induction rest with
 | nil =>
  intro pre e fuel out hq hg hfit he hf hlen
  obtain ⟨fuel, rfl⟩ : ∃ k, fuel = k + 1 := ⟨fuel - 1, by omega⟩
  have hp : pre.length = hs.length := by rw [hq]; simp
  simp only [putOf, List.length_append] at hlen
  rw [f_apply_put_L7.eq_2, if_neg (by simp; omega), cutI_end he, bsome, need_ok (by omega), bsome]
  rfl
 | cons h rest ih =>
  intro pre e fuel out hq hg hfit he hf hlen
  obtain ⟨fuel, rfl⟩ : ∃ k, fuel = k + 1 := ⟨fuel - 1, by omega⟩
  have hp : pre.length + (rest.length + 1) = hs.length := by rw [hq]; simp
  simp only [List.length_cons] at hf
  have hfh := hfit h (by simp)
  have hget : (hs.map asHunk)[pre.length]? = some (asHunk h) := by rw [hq]; simp
  have hget2 : (hs.map fun h => (h.at_ : Int))[pre.length]? = some (h.at_ : Int) := by rw [hq]; simp
  have hgg : e ≤ h.at_ ∧ Gaps (h.at_ + h.old.length + 1) rest := by
   cases hg with
   | cons h1 _ h3 => exact ⟨h1, h3⟩
  have ho : (asHunk h).old_.length = h.old.length := rfl
  have hlen' := hlen
  simp only [putOf, List.length_append] at hlen'
  have := ih (pre ++ [h]) (h.at_ + h.old.length) fuel (out ++ (a.take h.at_).drop e ++ h.new) (by simp [hq]) (hgg.2.mono (by omega)) (fun x hx => hfit x (by simp [hx])) hfh (by omega) (by simpa [putOf] using hlen)
  rw [f_apply_put_L7.eq_2, if_pos (by simp; omega), ix_get hget, bsome, ix_get hget2, bsome, cutI_nat hgg.1 (by omega), bsome, need_ok (by omega), bsome, need_ok (show _ ≤ _ by rw [show (asHunk h).new_ = h.new from rfl]; omega), bsome]
  rw [show ((h.at_ : Int) + ((asHunk h).old_.length : Int)) = ((h.at_ + h.old.length : Nat) : Int) by rw [ho]; omega, rng_ok (by omega) (by omega), bsome, rng_succ (by omega), bsome]
  rw [List.length_append, List.length_singleton] at this
  refine Eq.trans this ?_
  simp [putOf]
theorem apply_put_law {n : Nat} {a b : List S} (ha : a.length < 100000) (hb : b.length < 100000) (hl : 2000000 ≤ lim) (hn : a.length + b.length + 2 < n) {ps : List (Nat × Nat)} (hP : Pairs a b 0 0 ps) :
  f_apply_put n a ((hunksOf a b 0 0 ps).map asHunk) ((hunksOf a b 0 0 ps).map fun h => (h.at_ : Int)) = putEnd n b := by
 have hput := put_hunks hP 0 (Nat.le_refl _)
 simp only [List.take_zero, List.drop_nil, List.nil_append, List.drop_zero] at hput
 have hfew := hunks_few hP
 unfold f_apply_put
 have := put7 (n := n) (a := a) (by omega) hl (hs := hunksOf a b 0 0 ps) (by omega) (hunksOf a b 0 0 ps) [] 0 n [] (by simp) (hunks_gaps hP) (fun x hx => (hunks_fit hP x hx).1) (by omega) (by omega) (by rw [hput]; simp; omega)
 rw [hput] at this
 simpa using this
end Go.Zv.G
namespace Go.Zv.G
open Go Go.Zv Go.Proofs
set_option maxRecDepth 100000
attribute [local simp high] bsome
theorem equal_L8 {p q : List S} (hpq : p.length = q.length) (hb : p.length < 1000000) : ∀ (m k fuel : Nat), p.length - k = m → k ≤ p.length → m < fuel → f_slices_Equal_string_L8 p q fuel (k : Int) = some (decide (p.drop k = q.drop k)) := by
 intro m
 induction m with
 | zero =>
  intro k fuel hm hk hf
  obtain ⟨fuel, rfl⟩ : ∃ k, fuel = k + 1 := ⟨fuel - 1, by omega⟩
  rw [f_slices_Equal_string_L8.eq_2, if_neg (by simp; omega), List.drop_of_length_le (by omega), List.drop_of_length_le (by omega)]
  simp
 | succ m ih =>
  intro k fuel hm hk hf
  obtain ⟨fuel, rfl⟩ : ∃ k, fuel = k + 1 := ⟨fuel - 1, by omega⟩
  have h1 : k < p.length := by omega
  have h2 : k < q.length := by omega
  rw [f_slices_Equal_string_L8.eq_2, if_pos (by simp; omega), ix_nat h1, bsome, ix_nat h2, bsome, List.drop_eq_getElem_cons h1, List.drop_eq_getElem_cons h2]
  by_cases h : p[k] = q[k]
  ·
   rw [if_neg (by simp [h]), rng_succ (by omega), bsome]
   refine Eq.trans (ih (k + 1) fuel (by omega) (by omega) (by omega)) ?_
   exact congrArg some (decide_eq_decide.2 (by rw [List.cons.injEq]; exact ⟨fun x => ⟨h, x⟩, fun x => x.2⟩))
  ·
   rw [if_pos (by simp [h])]
   exact congrArg some (decide_eq_false (by rw [List.cons.injEq]; exact fun x => h x.1)).symm
theorem f_slices_Equal_string_eq {n : Nat} {p q : List S} (hb : p.length < 1000000) (hn : p.length < n) : f_slices_Equal_string n p q = some (decide (p = q)) := by
 unfold f_slices_Equal_string
 by_cases h : p.length = q.length
 ·
  rw [if_neg (by simp [h])]
  have := equal_L8 h hb p.length 0 n rfl (by omega) hn
  simpa using this
 ·
  rw [if_pos (by simp; omega)]
  have : p ≠ q := fun e => h (by rw [e])
  simp [this]
theorem at_law {n : Nat} {a o : List S} {i : Nat} (ha : a.length < 1000000) (hn : a.length < n) (h1 : i + o.length ≤ a.length) (h2 : (a.take (i + o.length)).drop i = o) : f_apply_at n a o (i : Int) = some true := by
 have e : ((i : Int) + (o.length : Int)) = ((i + o.length : Nat) : Int) := by omega
 unfold f_apply_at
 rw [if_pos (by simp), e, rng_ok (by omega) (by omega), bsome, if_pos (by simp; omega), bsome, cutI_nat (by omega) h1, bsome, h2, f_slices_Equal_string_eq (by omega) (by omega), bsome]
 simp
end Go.Zv.G
namespace Go.Zv.G
open Go Go.Zv Go.Proofs
set_option maxRecDepth 100000
attribute [local simp high] bsome
def badLn (s : S) : Bool := decide (2000 < s.length) || oddLn s
theorem f_hunk_plain_1_eq {n : Nat} (s : S) : f_hunk_plain_1 n s = some (badLn s) := by
 have hodd := f_lines_odd_1_eq (n := n) s
 unfold f_lines_odd_1 at hodd
 unfold f_hunk_plain_1 badLn
 by_cases h : 2000 < s.length
 ·
  rw [if_pos (by simp; omega)]; simp [h]
 ·
  rw [if_neg (by simp; omega), hodd]; simp [h]
theorem plainL5_eq (n : Nat) (l : List S) (hl : l.length < 1000000) : ∀ (m i : Nat), i ≤ l.length → l.length < m + i → ∃ r : Int, f_slices_IndexFunc_string_by_hunk_plain_1_L5 n l m (i : Int) = some r ∧ decide (r ≥ 0) = (l.drop i).any badLn := by
 intro m
 induction m with
 | zero => intro i h1 h2; omega
 | succ m ih =>
  intro i h1 h2
  rw [f_slices_IndexFunc_string_by_hunk_plain_1_L5.eq_2]
  by_cases hi : i < l.length
  ·
   rw [if_pos (by simpa using hi), ix_nat hi, bsome, f_hunk_plain_1_eq, bsome, List.drop_eq_getElem_cons hi, List.any_cons]
   cases e : badLn l[i] with
   | true => exact ⟨i, by simp, by simp⟩
   | false =>
    obtain ⟨r, h3, h4⟩ := ih (i + 1) (by omega) (by omega)
    refine ⟨r, ?_, by simpa using h4⟩
    rw [if_neg (by simp), rng_succ (by omega), bsome]
    exact h3
  ·
   rw [if_neg (by simpa using hi)]
   have : i = l.length := by omega
   subst this
   exact ⟨-1, rfl, by simp⟩
theorem f_hunk_plain_ok {n : Nat} {l : List S} (hl : l.length ≤ 60) (hn : l.length < n) (h : ∀ s ∈ l, badLn s = false) : f_hunk_plain n l = some true := by
 unfold f_hunk_plain f_slices_ContainsFunc_string_by_hunk_plain_1 f_slices_IndexFunc_string_by_hunk_plain_1
 obtain ⟨r, h3, h4⟩ := plainL5_eq n l (by omega) n 0 (by omega) (by omega)
 rw [show ((0 : Nat) : Int) = 0 from rfl] at h3
 have h5 : l.any badLn = false := by rw [List.any_eq_false]; intro s hs; simp [h s hs]
 rw [if_pos (by simp; omega), h3, bsome, bsome, h4, List.drop_zero, h5]
 rfl
theorem f_hunk_valid_ok {n : Nat} {i : Nat} {o w : List S} (hi : i ≤ 60) (ho : o.length ≤ 60) (hw : w.length ≤ 60) (hn : 60 < n) (h1 : ∀ s ∈ o, badLn s = false) (h2 : ∀ s ∈ w, badLn s = false) (hp : 0 < o.length + w.length) : f_hunk_valid n (i : Int) o w = some true := by
 unfold f_hunk_valid
 rw [if_pos (by simp), if_pos (by simp; omega), f_hunk_plain_ok ho (by omega) h1, bsome, if_pos rfl, f_hunk_plain_ok hw (by omega) h2, bsome, if_pos rfl, rng_ok (by omega) (by omega), bsome]
 exact congrArg some (decide_eq_true (by omega))
theorem check9 {n : Nat} (hn : 60 < n) {hs : List (Hk S)} (hh : hs.length ≤ 40) : ∀ (rest pre : List (Hk S)) (e fuel : Nat), hs = pre ++ rest → Gaps e rest → (∀ x ∈ rest, x.at_ ≤ 60 ∧ x.old.length ≤ 60 ∧ x.new.length ≤ 60 ∧ (∀ s ∈ x.old, badLn s = false) ∧ (∀ s ∈ x.new, badLn s = false)) → rest.length < fuel → f_hunk_Check_L9 n (hs.map asHunk) fuel (e : Int) (pre.length : Int) = some 0 := by
 intro rest
 induction rest with
 | nil =>
  intro pre e fuel hq hg hfit hf
  obtain ⟨fuel, rfl⟩ : ∃ k, fuel = k + 1 := ⟨fuel - 1, by omega⟩
  have hp : pre.length = hs.length := by rw [hq]; simp
  rw [f_hunk_Check_L9.eq_2, if_neg (by simp; omega)]
 | cons h rest ih =>
  intro pre e fuel hq hg hfit hf
  obtain ⟨fuel, rfl⟩ : ∃ k, fuel = k + 1 := ⟨fuel - 1, by omega⟩
  have hp : pre.length + (rest.length + 1) = hs.length := by rw [hq]; simp
  simp only [List.length_cons] at hf
  obtain ⟨f1, f2, f3, f4, f5⟩ := hfit h (by simp)
  have hget : (hs.map asHunk)[pre.length]? = some (asHunk h) := by rw [hq]; simp
  have hgg : e ≤ h.at_ ∧ 0 < h.old.length + h.new.length ∧ Gaps (h.at_ + h.old.length + 1) rest := by
   cases hg with
   | cons h1 h2 h3 => exact ⟨h1, h2, h3⟩
  have := ih (pre ++ [h]) (h.at_ + h.old.length + 1) fuel (by simp [hq]) hgg.2.2 (fun x hx => hfit x (by simp [hx])) (by omega)
  rw [f_hunk_Check_L9.eq_2, if_pos (by simp; omega), ix_get hget, bsome, show (asHunk h).at_ = (h.at_ : Int) from rfl, show (asHunk h).old_ = h.old from rfl, show (asHunk h).new_ = h.new from rfl, f_hunk_valid_ok f1 f2 f3 hn f4 f5 hgg.2.1, bsome, if_neg (by simp), if_neg (by simp; omega)]
  rw [show ((h.at_ : Int) + (h.old.length : Int)) = ((h.at_ + h.old.length : Nat) : Int) by omega, rng_ok (by omega) (by omega), bsome, rng_succ (by omega), bsome, rng_succ (by omega), bsome]
  rw [List.length_append, List.length_singleton] at this
  exact this
end Go.Zv.G
namespace Go.Zv.G
open Go Go.Zv Go.Proofs
set_option maxRecDepth 100000
attribute [local simp high] bsome
theorem exact13 {n : Nat} {a : List S} (ha : a.length < 1000000) (hn : a.length < n) (hl : 2000000 ≤ lim) {hs : List (Hk S)} (hh : hs.length < 1000000) : ∀ (rest pre : List (Hk S)) (fuel : Nat), hs = pre ++ rest → (∀ x ∈ rest, x.at_ + x.old.length ≤ a.length ∧ (a.take (x.at_ + x.old.length)).drop x.at_ = x.old) → rest.length < fuel →
  f_apply_Exact_L13 n a (hs.map asHunk) fuel (pre.map fun h => (h.at_ : Int)) (pre.length : Int) = f_apply_put n a (hs.map asHunk) (hs.map fun h => (h.at_ : Int)) := by
 intro rest
 induction rest with
 | nil =>
  intro pre fuel hq hfit hf
  obtain ⟨fuel, rfl⟩ : ∃ k, fuel = k + 1 := ⟨fuel - 1, by omega⟩
  have hp : pre = hs := by rw [hq]; simp
  subst hp
  rw [f_apply_Exact_L13.eq_2, if_neg (by simp)]
  cases f_apply_put n a (pre.map asHunk) (pre.map fun h => (h.at_ : Int)) <;> rfl
 | cons h rest ih =>
  intro pre fuel hq hfit hf
  obtain ⟨fuel, rfl⟩ : ∃ k, fuel = k + 1 := ⟨fuel - 1, by omega⟩
  have hp : pre.length + (rest.length + 1) = hs.length := by rw [hq]; simp
  simp only [List.length_cons] at hf
  obtain ⟨f1, f2⟩ := hfit h (by simp)
  have hget : (hs.map asHunk)[pre.length]? = some (asHunk h) := by rw [hq]; simp
  have := ih (pre ++ [h]) fuel (by simp [hq]) (fun x hx => hfit x (by simp [hx])) (by omega)
  rw [f_apply_Exact_L13.eq_2, if_pos (by simp; omega), ix_get hget, bsome, show (asHunk h).at_ = (h.at_ : Int) from rfl, show (asHunk h).old_ = h.old from rfl, at_law ha hn f1 f2, bsome, if_neg (by simp), need_ok (by simp; omega), bsome, rng_succ (by omega), bsome]
  rw [List.length_append, List.length_singleton, List.map_append] at this
  exact this
end Go.Zv.G
namespace Go.Zv.G
open Go Go.Zv Go.Proofs
set_option maxRecDepth 100000
attribute [local simp high] bsome
theorem mem_size {l : List S} {x : S} (h : x ∈ l) : x.length + l.length ≤ sizeL l + l.length := by
 induction l with
 | nil => cases h
 | cons y ys ih =>
  simp only [sizeL, List.map_cons, List.sum_cons] at ih ⊢
  rcases List.mem_cons.1 h with rfl | h
  ·
   omega
  ·
   have := ih h; omega
theorem split_good {s x : S} (h : txtE s = 0) (hx : x ∈ splitC 10 s) : badLn x = false := by
 have h1 := split_odd s
 rw [List.any_eq_false] at h1
 have h2 := mem_size hx
 have h3 := split_size s
 have h4 := (split_of_txt h).1
 have h5 : 0 < (splitC 10 s).length := List.length_pos_of_mem hx
 have h6 := h1 x hx
 unfold badLn
 simp only [Bool.or_eq_false_iff, decide_eq_false_iff_not]
 exact ⟨by omega, by simpa using h6⟩
theorem exact_law {n : Nat} {s t : S} (hs : txtE s = 0) (ht : txtE t = 0) (hn : 3000 < n) (hl : 2000000 ≤ lim) {ps : List (Nat × Nat)} (hP : Pairs (splitC 10 s) (splitC 10 t) 0 0 ps) :
  f_apply_Exact n (splitC 10 s) ((hunksOf (splitC 10 s) (splitC 10 t) 0 0 ps).map asHunk) = some (splitC 10 t, 0) := by
 have h1 := (lines_of_txt hs).1
 have h2 := (lines_of_txt ht).1
 have hfew := hunks_few hP
 have hfit := hunks_fit hP
 have hck : f_hunk_Check n ((hunksOf (splitC 10 s) (splitC 10 t) 0 0 ps).map asHunk) = some 0 := by
  unfold f_hunk_Check
  rw [if_neg (by simp; omega)]
  refine check9 (by omega) (by omega) _ [] 0 n (by simp) (hunks_gaps hP) (fun x hx => ?_) (by omega)
  obtain ⟨f1, f2, f3, f4⟩ := hfit x hx
  refine ⟨by omega, by omega, by omega, fun y hy => split_good hs ?_, fun y hy => split_good ht (f3 y hy)⟩
  rw [← f2] at hy
  exact List.mem_of_mem_take (List.mem_of_mem_drop hy)
 unfold f_apply_Exact f_apply_check
 rw [f_lines_Join_split hs (by omega) hl, bsome, if_neg (by simp), hck, bsome, bsome, if_neg (by simp)]
 have := exact13 (n := n) (a := splitC 10 s) (by omega) (by omega) hl (hs := hunksOf (splitC 10 s) (splitC 10 t) 0 0 ps) (by omega) _ [] n (by simp) (fun x hx => ⟨(hfit x hx).1, (hfit x hx).2.1⟩) (by omega)
 refine Eq.trans this ?_
 rw [apply_put_law (by omega) (by omega) hl (by omega) hP]
 unfold putEnd
 rw [f_lines_Join_split ht (by omega) hl, bsome, if_neg (by simp)]
end Go.Zv.G
namespace Go.Zv.G
open Go Go.Zv Go.Proofs
set_option maxRecDepth 100000
attribute [local simp high] bsome
theorem hlim : 2000000 ≤ lim := by decide
def HOK (H : S → S → List GHunk) : Prop := ∀ s t, txtE s = 0 → txtE t = 0 → ∃ ps : List (Nat × Nat), Pairs (splitC 10 s) (splitC 10 t) 0 0 ps ∧ H s t = (hunksOf (splitC 10 s) (splitC 10 t) 0 0 ps).map asHunk
def diffH (n : Nat) (s t : S) : List GHunk := match f_hunk_Diff n (splitC 10 s) (splitC 10 t) with
 | some r => r.1
 | none => []
theorem hunk_Diff_eq {n : Nat} {s t : S} (hs : txtE s = 0) (ht : txtE t = 0) (hn : 3000 < n) : f_hunk_Diff n (splitC 10 s) (splitC 10 t) = some (diffH n s t, 0) := by
 have h1 := (lines_of_txt hs).1
 have h2 := (lines_of_txt ht).1
 obtain ⟨ps, p1, p2⟩ := diff_law (a := splitC 10 s) (b := splitC 10 t) (by omega) (by omega) hlim (n := n) (by omega) (lcs_check_split hs ht (by omega) hlim)
 rw [diffH, p2]
theorem diffH_ok {n : Nat} (hn : 3000 < n) : HOK (diffH n) := by
 intro s t hs ht
 have h1 := (lines_of_txt hs).1
 have h2 := (lines_of_txt ht).1
 obtain ⟨ps, p1, p2⟩ := diff_law (a := splitC 10 s) (b := splitC 10 t) (by omega) (by omega) hlim (n := n) (by omega) (lcs_check_split hs ht (by omega) hlim)
 exact ⟨ps, p1, by rw [diffH, p2]⟩
theorem patch_chg {n : Nat} {p s t : S} {q q' : S} (hs : txtE s = 0) (ht : txtE t = 0) (hn : 3000 < n) : f_tree_patch n p q s q' t = some (p, true, true, diffH n s t) := by
 unfold f_tree_patch
 rw [f_lines_Split_eq hs hn, bsome, f_lines_Split_eq ht hn, bsome, hunk_Diff_eq hs ht hn, bsome]
theorem patch_gone {n : Nat} {p s : S} {q : S} (hs : txtE s = 0) (hn : 3000 < n) : f_tree_patch_p10 n p q s = some (p, true, false, [⟨0, splitC 10 s, []⟩]) := by
 unfold f_tree_patch_p10
 rw [f_lines_Split_eq hs hn, bsome]
theorem patch_new {n : Nat} {p s : S} {q : S} (hs : txtE s = 0) (hn : 3000 < n) : f_tree_patch_p01 n p q s = some (p, false, true, [⟨0, [], splitC 10 s⟩]) := by
 unfold f_tree_patch_p01
 rw [f_lines_Split_eq hs hn, bsome]
def goneP (x : GFile) : GPatch := ⟨x.path_, true, false, [⟨0, splitC 10 x.text_, []⟩]⟩
def newP (y : GFile) : GPatch := ⟨y.path_, false, true, [⟨0, [], splitC 10 y.text_⟩]⟩
def chgP (H : S → S → List GHunk) (x y : GFile) : GPatch := ⟨y.path_, true, true, H x.text_ y.text_⟩
inductive DL (H : S → S → List GHunk) : List GFile → List GFile → List GPatch → Prop
 | nil : DL H [] [] []
 | gone {x : GFile} {a b : List GFile} {l : List GPatch} : (∀ y ∈ b, x.path_ < y.path_) → DL H a b l → DL H (x :: a) b (goneP x :: l)
 | new {y : GFile} {a b : List GFile} {l : List GPatch} : (∀ x ∈ a, y.path_ < x.path_) → DL H a b l → DL H a (y :: b) (newP y :: l)
 | same {x : GFile} {a b : List GFile} {l : List GPatch} : DL H a b l → DL H (x :: a) (x :: b) l
 | chg {x y : GFile} {a b : List GFile} {l : List GPatch} : x.path_ = y.path_ → x.text_ ≠ y.text_ → DL H a b l → DL H (x :: a) (y :: b) (chgP H x y :: l)
theorem pos_mid {pre rest : List GFile} {p : S} (h1 : ∀ x ∈ pre, x.path_ < p) (h2 : ∀ x ∈ rest, ¬ x.path_ < p) : Pos (pre ++ rest) p pre.length where
 le := by simp
 lo := fun j h hj => by rw [List.getElem_append_left hj]; exact h1 _ (List.getElem_mem _)
 hi := fun j h hj => by rw [List.getElem_append_right hj]; exact h2 _ (List.getElem_mem _)
theorem isAt_mid {pre rest : List GFile} {x : GFile} : isAt (pre ++ x :: rest) x.path_ pre.length = true := by
 unfold isAt; simp
theorem notAt_mid {pre rest : List GFile} {p : S} (h2 : ∀ x ∈ rest, x.path_ ≠ p) : isAt (pre ++ rest) p pre.length = false := by
 unfold isAt
 cases rest with
 | nil => simp
 | cons y ys => simpa using h2 y (by simp)
theorem find_mid {n : Nat} {pre rest : List GFile} {p : S} (hs : Sorted (pre ++ rest)) (hle : (pre ++ rest).length < 1000) (hn : 3000 < n) (h1 : ∀ x ∈ pre, x.path_ < p) (h2 : ∀ x ∈ rest, ¬ x.path_ < p) : f_tree_find n (pre ++ rest) p = some ((pre.length : Int), isAt (pre ++ rest) p pre.length) := by
 obtain ⟨k, hp, h42⟩ := f_tree_find_eq (n := n) (p := p) hs (by omega) (by omega)
 have e1 : k = pre.length := hp.unique (pos_mid h1 h2)
 rw [h42, e1]
theorem put_mid {n : Nat} {pre rest : List GFile} {p text : S} (hs : Sorted (pre ++ rest)) (hle : (pre ++ rest).length < 1000) (hn : 3000 < n) (h1 : ∀ x ∈ pre, x.path_ < p) (h2 : ∀ x ∈ rest, ¬ x.path_ < p) (ht : txtE text = 0) : f_tree_put n (pre ++ rest) p text = some (putAt (pre ++ rest) ⟨p, text⟩ pre.length) :=
 f_tree_put_eq hs (by omega) (by omega) (txt_le ht) (pos_mid h1 h2)
theorem lt_not {a b : S} (h : a < b) : ¬ b < a := fun h' => s_irrefl a (s_trans h h')
theorem lt_ne {a b : S} (h : a < b) : a ≠ b := fun h' => by rw [h'] at h; exact s_irrefl b h
section
variable {n : Nat} (hn : 3000 < n)
include hn
theorem change_new {pre rest : List GFile} {y : GFile} (hs : Sorted (pre ++ rest)) (hle : (pre ++ rest).length < 1000) (h1 : ∀ x ∈ pre, x.path_ < y.path_) (h2 : ∀ x ∈ rest, y.path_ < x.path_) (ht : txtE y.text_ = 0) :
  f_tree_change n (pre ++ rest) (newP y).path_ (newP y).was_ (newP y).stays_ (newP y).hunks_ = some (pre ++ y :: rest, 0) := by
 show f_tree_change n (pre ++ rest) y.path_ false true [⟨0, [], splitC 10 y.text_⟩] = _
 have h3 : ∀ x ∈ rest, ¬ x.path_ < y.path_ := fun x hx => lt_not (h2 x hx)
 have h4 := notAt_mid (pre := pre) (rest := rest) (p := y.path_) fun x hx => (lt_ne (h2 x hx)).symm
 unfold f_tree_change
 rw [find_mid hs hle hn h1 h3, bsome, h4, if_neg (by simp), if_neg (by simp), if_pos (by simp), ix_zero (by simp), bsome]
 show ((f_lines_Join n (splitC 10 y.text_)).bind _) = _
 rw [f_lines_Join_split ht (by omega) hlim, bsome, if_neg (by simp)]
 show ((f_tree_put n (pre ++ rest) y.path_ y.text_).bind _) = _
 rw [put_mid hs hle hn h1 h3 ht, bsome]
 unfold putAt
 rw [h4]
 simp
theorem change_gone {pre rest : List GFile} {x : GFile} (hs : Sorted (pre ++ x :: rest)) (hle : (pre ++ x :: rest).length < 1000) (h1 : ∀ y ∈ pre, y.path_ < x.path_) (h2 : ∀ y ∈ rest, x.path_ < y.path_) (ht : txtE x.text_ = 0) :
  f_tree_change n (pre ++ x :: rest) (goneP x).path_ (goneP x).was_ (goneP x).stays_ (goneP x).hunks_ = some (pre ++ rest, 0) := by
 show f_tree_change n (pre ++ x :: rest) x.path_ true false [⟨0, splitC 10 x.text_, []⟩] = _
 have h3 : ∀ y ∈ x :: rest, ¬ y.path_ < x.path_ := fun y hy => by
  rcases List.mem_cons.1 hy with rfl | hy
  ·
   exact s_irrefl _
  ·
   exact lt_not (h2 y hy)
 unfold f_tree_change
 rw [find_mid hs hle hn h1 h3, bsome, isAt_mid, if_neg (by simp), if_neg (by simp), if_neg (by simp), ix_nat (by simp), bsome]
 have e : (pre ++ x :: rest)[pre.length]'(by simp) = x := by simp
 have hlen := (lines_of_txt ht).1
 rw [e, f_lines_Split_eq ht hn, bsome, if_pos (by simp), ix_zero (by simp), bsome]
 show ((f_slices_Equal_string n (splitC 10 x.text_) (splitC 10 x.text_)).bind _) = _
 have hle' : pre.length + (rest.length + 1) < 1000 := by simpa using hle
 rw [f_slices_Equal_string_eq (by omega) (by omega), bsome, if_neg (by simp), rng_succ (by omega), bsome]
 unfold delI
 rw [if_pos ⟨by omega, by simp; omega, by simp; omega, by unfold lim; simp; omega⟩, bsome]
 simp [List.drop_append]
theorem change_chg {H : S → S → List GHunk} (hH : HOK H) {pre rest : List GFile} {x y : GFile} (hs : Sorted (pre ++ x :: rest)) (hle : (pre ++ x :: rest).length < 1000) (h1 : ∀ y ∈ pre, y.path_ < x.path_) (h2 : ∀ y ∈ rest, x.path_ < y.path_) (hx : txtE x.text_ = 0) (hy : txtE y.text_ = 0) (hp : x.path_ = y.path_) :
  f_tree_change n (pre ++ x :: rest) (chgP H x y).path_ (chgP H x y).was_ (chgP H x y).stays_ (chgP H x y).hunks_ = some (pre ++ y :: rest, 0) := by
 show f_tree_change n (pre ++ x :: rest) y.path_ true true (H x.text_ y.text_) = _
 rw [← hp]
 have h3 : ∀ y ∈ x :: rest, ¬ y.path_ < x.path_ := fun y hy => by
  rcases List.mem_cons.1 hy with rfl | hy
  ·
   exact s_irrefl _
  ·
   exact lt_not (h2 y hy)
 have e : (pre ++ x :: rest)[pre.length]'(by simp) = x := by simp
 obtain ⟨ps, p1, p2⟩ := hH _ _ hx hy
 unfold f_tree_change
 rw [find_mid hs hle hn h1 h3, bsome, isAt_mid, if_neg (by simp), if_neg (by simp), if_neg (by simp), ix_nat (by simp), bsome, e, f_lines_Split_eq hx hn, bsome, if_neg (by simp), p2]
 show ((f_apply_Exact n (splitC 10 x.text_) _).bind _) = _
 rw [exact_law hx hy hn hlim p1, bsome, if_neg (by simp)]
 show ((f_lines_Join n (splitC 10 y.text_)).bind _) = _
 rw [f_lines_Join_split hy (by omega) hlim, bsome]
 show ((f_tree_put n (pre ++ x :: rest) x.path_ y.text_).bind _) = _
 rw [put_mid hs hle hn h1 h3 hy, bsome]
 unfold putAt
 rw [show isAt (pre ++ x :: rest) (⟨x.path_, y.text_⟩ : GFile).path_ pre.length = true from isAt_mid, if_pos rfl]
 have : (⟨x.path_, y.text_⟩ : GFile) = y := by rw [hp]
 rw [this]
 simp
end
end Go.Zv.G
namespace Go.Zv.G
open Go Go.Zv Go.Proofs
set_option maxRecDepth 100000
attribute [local simp high] bsome
theorem bytes_Equal_eq {n : Nat} (s t : S) : f_bytes_Equal n s t = some (s == t) := by
 unfold f_bytes_Equal; rfl
theorem cut1 {α : Type} {x : α} {l : List α} : cutI (x :: l) 1 ((x :: l).length : Int) = some l := by
 have := cutI_end (l := x :: l) (a := 1) (by simp)
 simpa using this
theorem ixc {α : Type} {x : α} {l : List α} : ix (x :: l) 0 = some x := ix_zero (by simp)
theorem le_iff {a b : S} : (Op.bytesLess a b || a == b) = !decide (b < a) := by
 rw [less_eq]
 rcases s_tri a b with h | h | h
 ·
  simp [h, lt_not h]
 ·
  subst h; simp [s_irrefl]
 ·
  simp [h, lt_not h, (lt_ne h).symm]
theorem diff19 {n : Nat} (hn : 3000 < n) : ∀ (m : Nat) (a b : List GFile) (fuel : Nat) (acc : List GPatch), a.length + b.length = m → m < fuel → m + acc.length < 1000 → Sorted a → Sorted b → (∀ x ∈ a, txtE x.text_ = 0) → (∀ x ∈ b, txtE x.text_ = 0) →
  ∃ l, DL (diffH n) a b l ∧ f_tree_Diff_L19 n fuel a b acc = some (acc ++ l, 0) := by
 intro m
 induction m using Nat.strongRecOn with
 | _ m ih =>
 intro a b fuel acc hm hf hacc ha hb hta htb
 obtain ⟨fuel, rfl⟩ : ∃ k, fuel = k + 1 := ⟨fuel - 1, by omega⟩
 have hnd : ∀ p : GPatch, need (acc.length + 1 ≤ lim) = some () := fun _ => need_ok (by have := hlim; omega)
 rw [f_tree_Diff_L19.eq_2, rng_ok (by omega) (by omega), bsome]
 unfold f_tree_Diff_J36 f_tree_Diff_J36b f_tree_Diff_J39 f_tree_Diff_J39b f_tree_Diff_J82 f_tree_Diff_J82b
 cases a with
 | nil =>
  cases b with
  | nil => exact ⟨[], .nil, by rw [if_neg (by simp)]; simp⟩
  | cons y b =>
   have hb' := List.pairwise_cons.1 hb
   have hy := htb y (by simp)
   simp only [List.length_cons, List.length_nil] at hm
   obtain ⟨l, h1, h2⟩ := ih b.length (by omega) [] b fuel (acc ++ [newP y]) (by simp) (by omega) (by simp; omega) List.Pairwise.nil hb'.2 (fun x hx => by cases hx) (fun x hx => htb x (by simp [hx]))
   refine ⟨newP y :: l, .new (fun x hx => by cases hx) h1, ?_⟩
   rw [if_pos (by first | (simp; done) | (simp; omega)), if_neg (by first | (simp; done) | (simp; omega)), if_neg (by simp), if_pos (by simp), ixc, bsome, cut1, bsome, patch_new hy hn, bsome, hnd (newP y), bsome]
   refine Eq.trans h2 ?_
   simp
 | cons x a =>
  have ha' := List.pairwise_cons.1 ha
  have hx := hta x (by simp)
  cases b with
  | nil =>
   simp only [List.length_cons, List.length_nil] at hm
   obtain ⟨l, h1, h2⟩ := ih a.length (by omega) a [] fuel (acc ++ [goneP x]) (by simp) (by omega) (by simp; omega) ha'.2 List.Pairwise.nil (fun x hx => hta x (by simp [hx])) (fun x hx => by cases hx)
   refine ⟨goneP x :: l, .gone (fun x hx => by cases hx) h1, ?_⟩
   rw [if_pos (by first | (simp; done) | (simp; omega)), if_pos (by simp), ixc, bsome, if_neg (by first | (simp; done) | (simp; omega)), if_neg (by simp), cut1, bsome, patch_gone hx hn, bsome, hnd (goneP x), bsome]
   refine Eq.trans h2 ?_
   simp
  | cons y b =>
   have hb' := List.pairwise_cons.1 hb
   have hy := htb y (by simp)
   simp only [List.length_cons] at hm
   rw [if_pos (by first | (simp; done) | (simp; omega)), if_neg (by first | (simp; done) | (simp; omega)), if_pos (by first | (simp; done) | (simp; omega)), ixc, bsome, ixc, bsome, le_iff]
   rcases s_tri x.path_ y.path_ with h | h | h
   ·
    obtain ⟨l, h1, h2⟩ := ih (a.length + (b.length + 1)) (by omega) a (y :: b) fuel (acc ++ [goneP x]) (by simp) (by omega) (by simp; omega) ha'.2 hb (fun x hx => hta x (by simp [hx])) htb
    refine ⟨goneP x :: l, .gone (fun z hz => ?_) h1, ?_⟩
    ·
     rcases List.mem_cons.1 hz with rfl | hz
     ·
      exact h
     ·
      exact s_trans h (hb'.1 z hz)
    rw [if_pos (by simp [lt_not h]), if_neg (by first | (simp; done) | (simp; omega)), if_pos (by first | (simp; done) | (simp; omega)), bsome, bsome, le_iff, if_neg (by simp [h]), cut1, bsome, patch_gone hx hn, bsome, hnd (goneP x), bsome]
    refine Eq.trans h2 ?_
    simp
   ·
    rw [if_pos (by simp [h, s_irrefl]), if_neg (by first | (simp; done) | (simp; omega)), if_pos (by first | (simp; done) | (simp; omega)), bsome, bsome, le_iff, if_pos (by simp [h, s_irrefl]), cut1, bsome, cut1, bsome, bytes_Equal_eq, bsome]
    by_cases ht : x.text_ = y.text_
    ·
     have e : x = y := by cases x; cases y; simp_all
     subst e
     obtain ⟨l, h1, h2⟩ := ih (a.length + b.length) (by omega) a b fuel acc rfl (by omega) (by omega) ha'.2 hb'.2 (fun x hx => hta x (by simp [hx])) (fun x hx => htb x (by simp [hx]))
     refine ⟨l, .same h1, ?_⟩
     rw [if_neg (by simp)]
     exact h2
    ·
     obtain ⟨l, h1, h2⟩ := ih (a.length + b.length) (by omega) a b fuel (acc ++ [chgP (diffH n) x y]) rfl (by omega) (by simp; omega) ha'.2 hb'.2 (fun x hx => hta x (by simp [hx])) (fun x hx => htb x (by simp [hx]))
     refine ⟨chgP (diffH n) x y :: l, .chg h ht h1, ?_⟩
     rw [if_pos (by simp [ht]), patch_chg hx hy hn, bsome, hnd (chgP (diffH n) x y), bsome]
     refine Eq.trans h2 ?_
     simp
   ·
    obtain ⟨l, h1, h2⟩ := ih (a.length + 1 + b.length) (by omega) (x :: a) b fuel (acc ++ [newP y]) (by simp) (by omega) (by simp; omega) ha hb'.2 hta (fun x hx => htb x (by simp [hx]))
    refine ⟨newP y :: l, .new (fun z hz => ?_) h1, ?_⟩
    ·
     rcases List.mem_cons.1 hz with rfl | hz
     ·
      exact h
     ·
      exact s_trans h (ha'.1 z hz)
    rw [if_neg (by simp [h]), if_neg (by first | (simp; done) | (simp; omega)), if_pos (by first | (simp; done) | (simp; omega)), bsome, bsome, le_iff, if_pos (by simp [lt_not h]), cut1, bsome, patch_new hy hn, bsome, hnd (newP y), bsome]
    refine Eq.trans h2 ?_
    simp
theorem f_tree_Diff_good {n : Nat} (hn : 4000 < n) {a b : List GFile} (ha : Good a) (hb : Good b) : ∃ l, DL (diffH n) a b l ∧ f_tree_Diff n a b = some (l, 0) := by
 have h1 := ha.le
 have h2 := hb.le
 obtain ⟨l, h3, h4⟩ := diff19 (n := n) (by omega) (a.length + b.length) a b n [] rfl (by omega) (by simp; omega) ha.sorted hb.sorted ha.text hb.text
 refine ⟨l, h3, ?_⟩
 unfold f_tree_Diff
 rw [f_tree_Check_eq (by omega), good_iff.2 ha, bsome, if_neg (by simp), f_tree_Check_eq (by omega), good_iff.2 hb, bsome, if_neg (by simp), h4]
 rfl
inductive App (n : Nat) : List GFile → List GPatch → List GFile → Prop
 | nil (t : List GFile) : App n t [] t
 | cons {t t1 t2 : List GFile} {p : GPatch} {l : List GPatch} : f_tree_change n t p.path_ p.was_ p.stays_ p.hunks_ = some (t1, 0) → App n t1 l t2 → App n t (p :: l) t2
theorem App.append {n : Nat} {t t1 t2 : List GFile} {l l' : List GPatch} (h : App n t l t1) (h' : App n t1 l' t2) : App n t (l ++ l') t2 := by
 induction h with
 | nil => exact h'
 | cons h1 _ ih => exact .cons h1 (ih h')
theorem apply23 {n : Nat} {L : List GPatch} (hL : L.length < 1000) : ∀ (l : List GPatch) (pre : List GPatch) (t t' : List GFile) (fuel : Nat), L = pre ++ l → App n t l t' → l.length < fuel → t'.length ≤ 12 → f_tree_Apply_L23 n L fuel t (pre.length : Int) = some (t', 0) := by
 intro l
 induction l with
 | nil =>
  intro pre t t' fuel hq ha hf ht
  obtain ⟨fuel, rfl⟩ : ∃ k, fuel = k + 1 := ⟨fuel - 1, by omega⟩
  cases ha
  rw [f_tree_Apply_L23.eq_2, if_neg (by rw [hq]; simp), if_neg (by simp; omega)]
 | cons p l ih =>
  intro pre t t' fuel hq ha hf ht
  obtain ⟨fuel, rfl⟩ : ∃ k, fuel = k + 1 := ⟨fuel - 1, by omega⟩
  have hp : pre.length + (l.length + 1) = L.length := by rw [hq]; simp
  simp only [List.length_cons] at hf
  have hget : L[pre.length]? = some p := by rw [hq]; simp
  cases ha with
  | cons h1 h2 =>
   have := ih (pre ++ [p]) _ t' fuel (by simp [hq]) h2 (by omega) ht
   rw [f_tree_Apply_L23.eq_2, if_pos (by simp; omega), ix_get hget, bsome, h1, bsome, if_neg (by simp), rng_succ (by omega), bsome]
   rw [List.length_append, List.length_singleton] at this
   exact this
theorem f_tree_Apply_app {n : Nat} (hn : 4000 < n) {a b : List GFile} {l : List GPatch} (ha : Good a) (hb : b.length ≤ 12) (hl : l.length < 1000) (hck : f_norm_Check n l = some 0) (h : App n a l b) : f_tree_Apply n a l = some (b, 0) := by
 have h1 := ha.le
 unfold f_tree_Apply
 rw [f_tree_Check_eq (by omega), good_iff.2 ha, bsome, if_neg (by simp), hck, bsome, if_neg (by simp), f_tree_twin_eq a (by omega) (fun x hx => txt_le (ha.text x hx)) (by omega), bsome]
 exact apply23 hl l [] a b n rfl h (by omega) hb
theorem sorted_mid {pre rest : List GFile} {x : GFile} (h : Sorted (pre ++ x :: rest)) : (∀ y ∈ pre, y.path_ < x.path_) ∧ (∀ y ∈ rest, x.path_ < y.path_) ∧ Sorted (pre ++ rest) := by
 rw [Sorted, List.pairwise_append, List.pairwise_cons] at h
 obtain ⟨h1, ⟨h2, h3⟩, h4⟩ := h
 refine ⟨fun y hy => h4 y hy x (by simp), h2, ?_⟩
 rw [Sorted, List.pairwise_append]
 exact ⟨h1, h3, fun y hy z hz => h4 y hy z (by simp [hz])⟩
section
variable {n : Nat} (hn : 3000 < n) {H : S → S → List GHunk} (hH : HOK H)
include hn hH
theorem dl_app {a b : List GFile} {l : List GPatch} (h : DL H a b l) : ∀ pre : List GFile, Sorted (pre ++ a) → Sorted (pre ++ b) → pre.length + a.length + b.length < 1000 → (∀ x ∈ a, txtE x.text_ = 0) → (∀ x ∈ b, txtE x.text_ = 0) → App n (pre ++ a) l (pre ++ b) := by
 induction h with
 | nil => intro pre _ _ _ _ _; exact .nil _
 | @gone x a b l h1 _ ih =>
  intro pre ha hb hle hta htb
  obtain ⟨s1, s2, s3⟩ := sorted_mid ha
  simp only [List.length_cons] at hle
  refine .cons (change_gone hn ha (by simp; omega) s1 s2 (hta x (by simp))) (ih pre s3 hb (by omega) (fun x hx => hta x (by simp [hx])) htb)
 | @new y a b l h1 _ ih =>
  intro pre ha hb hle hta htb
  obtain ⟨s1, s2, s3⟩ := sorted_mid hb
  simp only [List.length_cons] at hle
  refine .cons (change_new hn ha (by simp; omega) s1 h1 (htb y (by simp))) ?_
  have := ih (pre ++ [y]) (by
   rw [List.append_assoc, List.singleton_append, Sorted, List.pairwise_append, List.pairwise_cons]
   rw [Sorted, List.pairwise_append] at ha
   refine ⟨ha.1, ⟨h1, ha.2.1⟩, fun u hu v hv => ?_⟩
   rcases List.mem_cons.1 hv with rfl | hv
   ·
    exact s1 u hu
   ·
    exact ha.2.2 u hu v hv) (by simpa using hb) (by simp; omega) hta (fun x hx => htb x (by simp [hx]))
  simpa using this
 | @same x a b l _ ih =>
  intro pre ha hb hle hta htb
  simp only [List.length_cons] at hle
  have := ih (pre ++ [x]) (by simpa using ha) (by simpa using hb) (by simp; omega) (fun x hx => hta x (by simp [hx])) (fun x hx => htb x (by simp [hx]))
  simpa using this
 | @chg x y a b l h1 h2 _ ih =>
  intro pre ha hb hle hta htb
  obtain ⟨s1, s2, s3⟩ := sorted_mid ha
  simp only [List.length_cons] at hle
  refine .cons (change_chg hn hH ha (by simp; omega) s1 s2 (hta x (by simp)) (htb y (by simp)) h1) ?_
  have := ih (pre ++ [y]) (by
   rw [List.append_assoc, List.singleton_append, Sorted, List.pairwise_append, List.pairwise_cons]
   rw [Sorted, List.pairwise_append, List.pairwise_cons] at ha
   refine ⟨ha.1, ⟨fun z hz => h1 ▸ s2 z hz, ha.2.1.2⟩, fun u hu v hv => ?_⟩
   rcases List.mem_cons.1 hv with rfl | hv
   ·
    exact h1 ▸ s1 u hu
   ·
    exact ha.2.2 u hu v (by simp [hv])) (by simpa using hb) (by simp; omega) (fun x hx => hta x (by simp [hx])) (fun x hx => htb x (by simp [hx]))
  simpa using this
end
end Go.Zv.G
namespace Go.Zv.G
open Go Go.Zv Go.Proofs
set_option maxRecDepth 100000
attribute [local simp high] bsome
def plainB (l : List S) : Bool := decide (l.length ≤ 60) && !(l.any badLn)
def validH (h : GHunk) : Bool := decide (0 ≤ h.at_) && (decide (h.at_ ≤ 60) && (plainB h.old_ && (plainB h.new_ && decide (0 < h.old_.length + h.new_.length))))
def okHs : Int → List GHunk → Bool
 | _, [] => true
 | e, h :: hs => validH h && (decide (e ≤ h.at_) && okHs (h.at_ + (h.old_.length : Int) + 1) hs)
def hckE (l : List GHunk) : Int := if 40 < l.length then 4 else if okHs 0 l = true then 0 else 8
def pvalid (p : GPatch) : Bool := okPath p.path_ && ((p.was_ || p.stays_) && (hckE p.hunks_ == 0 && ((p.was_ && p.stays_) || (match p.hunks_ with
 | [h] => h.at_ == 0 && ((p.was_ || h.old_.length == 0) && (p.stays_ || h.new_.length == 0))
 | _ => false))))
def dupB : List S → List S → Bool
 | _, [] => false
 | pre, p :: ps => pre.contains p || dupB (pre ++ [p]) ps
def nckE (l : List GPatch) : Int := if 24 < l.length then 4 else if dupB [] (l.map GPatch.path_) = true then 14 else if l.all pvalid = true then 0 else 8
theorem f_hunk_plain_eq {n : Nat} (hn : 100 < n) (l : List S) : f_hunk_plain n l = some (plainB l) := by
 unfold f_hunk_plain plainB
 by_cases h : l.length ≤ 60
 ·
  obtain ⟨r, h3, h4⟩ := plainL5_eq n l (by omega) n 0 (by omega) (by omega)
  rw [show ((0 : Nat) : Int) = 0 from rfl] at h3
  unfold f_slices_ContainsFunc_string_by_hunk_plain_1 f_slices_IndexFunc_string_by_hunk_plain_1
  rw [if_pos (by simp; omega), h3, bsome, bsome, h4, List.drop_zero]
  simp [h]
 ·
  rw [if_neg (by simp; omega)]; simp [h]
theorem f_hunk_valid_eq {n : Nat} (hn : 100 < n) (h : GHunk) : f_hunk_valid n h.at_ h.old_ h.new_ = some (validH h) := by
 unfold f_hunk_valid validH
 rw [f_hunk_plain_eq hn, bsome, f_hunk_plain_eq hn, bsome]
 by_cases h1 : 0 ≤ h.at_
 ·
  rw [if_pos (by simpa using h1)]
  by_cases h2 : h.at_ ≤ 60
  ·
   rw [if_pos (by simpa using h2)]
   cases e1 : plainB h.old_ with
   | false => simp
   | true =>
    cases e2 : plainB h.new_ with
    | false => simp
    | true =>
     have l1 : h.old_.length ≤ 60 := by unfold plainB at e1; simp at e1; exact e1.1
     have l2 : h.new_.length ≤ 60 := by unfold plainB at e2; simp at e2; exact e2.1
     rw [if_pos rfl, if_pos rfl, rng_ok (by omega) (by omega), bsome]
     simp [h1, h2]
     omega
  ·
   rw [if_neg (by simpa using h2)]; simp [h2]
 ·
  rw [if_neg (by simpa using h1)]; simp [h1]
theorem validH_at {h : GHunk} (e : validH h = true) : 0 ≤ h.at_ ∧ h.at_ ≤ 60 ∧ h.old_.length ≤ 60 ∧ h.new_.length ≤ 60 := by
 unfold validH plainB at e
 simp at e
 exact ⟨e.1, e.2.1, e.2.2.1.1, e.2.2.2.1.1⟩
theorem hcheck9 {n : Nat} (hn : 100 < n) {l : List GHunk} (hl : l.length ≤ 40) : ∀ (m k : Nat) (e : Int) (fuel : Nat), l.length - k = m → k ≤ l.length → m < fuel → f_hunk_Check_L9 n l fuel e (k : Int) = some (if okHs e (l.drop k) = true then 0 else 8) := by
 intro m
 induction m with
 | zero =>
  intro k e fuel hm hk hf
  obtain ⟨fuel, rfl⟩ : ∃ k, fuel = k + 1 := ⟨fuel - 1, by omega⟩
  rw [f_hunk_Check_L9.eq_2, if_neg (by simp; omega), List.drop_of_length_le (by omega)]
  rfl
 | succ m ih =>
  intro k e fuel hm hk hf
  obtain ⟨fuel, rfl⟩ : ∃ k, fuel = k + 1 := ⟨fuel - 1, by omega⟩
  have h1 : k < l.length := by omega
  rw [f_hunk_Check_L9.eq_2, if_pos (by simp; omega), ix_nat h1, bsome, f_hunk_valid_eq hn, bsome, List.drop_eq_getElem_cons h1, okHs]
  cases e1 : validH l[k] with
  | false => simp
  | true =>
   obtain ⟨v1, v2, v3, v4⟩ := validH_at e1
   rw [if_neg (by simp)]
   by_cases h2 : l[k].at_ < e
   ·
    rw [if_pos (by simpa using h2)]
    have : ¬ e ≤ l[k].at_ := by omega
    simp [this]
   ·
    rw [if_neg (by simpa using h2), rng_ok (by omega) (by omega), bsome, rng_ok (by omega) (by omega), bsome, rng_succ (by omega), bsome]
    refine Eq.trans (ih (k + 1) _ fuel (by omega) (by omega) (by omega)) ?_
    have : e ≤ l[k].at_ := by omega
    simp [this]
theorem f_hunk_Check_eq {n : Nat} (hn : 100 < n) (l : List GHunk) : f_hunk_Check n l = some (hckE l) := by
 unfold f_hunk_Check hckE
 by_cases h : 40 < l.length
 ·
  rw [if_pos (by simp; omega), if_pos h]
 ·
  rw [if_neg (by simp; omega), if_neg h]
  exact hcheck9 hn (by omega) l.length 0 0 n rfl (by omega) (by omega)
theorem len0 {α : Type} (l : List α) : ((l.length : Int) == 0) = (l.length == 0) := by
 rw [Bool.eq_iff_iff]; simp
theorem f_norm_valid_eq {n : Nat} (hn : 100 < n) (p : GPatch) : f_norm_valid n p.path_ p.was_ p.stays_ p.hunks_ = some (pvalid p) := by
 have hJ3 : f_norm_valid_J3 p.was_ p.stays_ p.hunks_ = some (match p.hunks_ with
   | [h] => h.at_ == 0 && ((p.was_ || h.old_.length == 0) && (p.stays_ || h.new_.length == 0))
   | _ => false) := by
  unfold f_norm_valid_J3
  cases hh : p.hunks_ with
  | nil => simp
  | cons h t =>
   cases t with
   | cons h2 t2 =>
    have : (((h :: h2 :: t2).length : Int) != 1) = true := by simp; omega
    rw [if_pos this]
   | nil =>
    rw [if_neg (by simp), ixc, bsome]
    by_cases ha : h.at_ = 0
    ·
     rw [if_neg (by simp [ha])]
     rw [len0, len0]
     show _ = some (h.at_ == 0 && ((p.was_ || h.old_.length == 0) && (p.stays_ || h.new_.length == 0)))
     rw [ha]
     generalize (h.old_.length == 0) = b1
     generalize (h.new_.length == 0) = b2
     cases p.was_ <;> cases p.stays_ <;> cases b1 <;> cases b2 <;> simp
    ·
     rw [if_pos (by simp [ha])]; simp [ha]
 unfold f_norm_valid pvalid
 rw [f_norm_path_eq _ hn, bsome, f_hunk_Check_eq hn, bsome]
 unfold f_norm_valid_J2
 rw [hJ3]
 cases okPath p.path_ with
 | false => simp
 | true =>
  rw [if_neg (by simp)]
  by_cases hc : hckE p.hunks_ = 0
  ·
   rw [hc]
   cases p.was_ <;> cases p.stays_ <;> simp
  ·
   have hc' : (hckE p.hunks_ == 0) = false := by simpa using hc
   cases p.was_ <;> cases p.stays_ <;> simp [hc]
theorem f_norm_Check_2_eq {n : Nat} (hn : 100 < n) (p : GPatch) : f_norm_Check_2 n p.path_ p.was_ p.stays_ p.hunks_ = some (!pvalid p) := by
 unfold f_norm_Check_2
 rw [f_norm_valid_eq hn, bsome]
theorem check2_L5 {n : Nat} (hn : 100 < n) (l : List GPatch) (hl : l.length < 1000000) : ∀ (m i : Nat), i ≤ l.length → l.length < m + i → ∃ r : Int, f_slices_IndexFunc_Patch_by_norm_Check_2_L5 n l m (i : Int) = some r ∧ decide (r ≥ 0) = !((l.drop i).all pvalid) := by
 intro m
 induction m with
 | zero => intro i h1 h2; omega
 | succ m ih =>
  intro i h1 h2
  rw [f_slices_IndexFunc_Patch_by_norm_Check_2_L5.eq_2]
  by_cases hi : i < l.length
  ·
   rw [if_pos (by simpa using hi), ix_nat hi, bsome, f_norm_Check_2_eq hn, bsome, List.drop_eq_getElem_cons hi, List.all_cons]
   cases e : pvalid l[i] with
   | false => exact ⟨i, by simp, by simp⟩
   | true =>
    obtain ⟨r, h3, h4⟩ := ih (i + 1) (by omega) (by omega)
    refine ⟨r, ?_, by simpa using h4⟩
    rw [if_neg (by simp), rng_succ (by omega), bsome]
    exact h3
  ·
   rw [if_neg (by simpa using hi)]
   have : i = l.length := by omega
   subst this
   exact ⟨-1, rfl, by simp⟩
theorem check1_L5 {n : Nat} (l : List GPatch) (hl : l.length < 1000000) (q : GPatch) : ∀ (m i : Nat), i ≤ l.length → l.length < m + i → ∃ r : Int, f_slices_IndexFunc_Patch_by_norm_Check_1_L5 n l q.path_ q.was_ q.stays_ q.hunks_ m (i : Int) = some r ∧ decide (r ≥ 0) = ((l.drop i).map GPatch.path_).contains q.path_ := by
 intro m
 induction m with
 | zero => intro i h1 h2; omega
 | succ m ih =>
  intro i h1 h2
  rw [f_slices_IndexFunc_Patch_by_norm_Check_1_L5.eq_2]
  by_cases hi : i < l.length
  ·
   rw [if_pos (by simpa using hi), ix_nat hi, bsome, f_norm_Check_1, bsome, List.drop_eq_getElem_cons hi, List.map_cons, List.contains_cons]
   cases e : (l[i].path_ == q.path_) with
   | true =>
    have e' : (q.path_ == l[i].path_) = true := by simpa using (by simpa using e : l[i].path_ = q.path_).symm
    exact ⟨i, by simp, by rw [e']; simp⟩
   | false =>
    have e' : (q.path_ == l[i].path_) = false := by
     have : l[i].path_ ≠ q.path_ := by simpa using e
     simpa using this.symm
    obtain ⟨r, h3, h4⟩ := ih (i + 1) (by omega) (by omega)
    refine ⟨r, ?_, by rw [e', Bool.false_or]; exact h4⟩
    rw [if_neg (by simp), rng_succ (by omega), bsome]
    exact h3
  ·
   rw [if_neg (by simpa using hi)]
   have : i = l.length := by omega
   subst this
   exact ⟨-1, rfl, by simp⟩
theorem f_norm_Check_eq {n : Nat} (hn : 100 < n) (l : List GPatch) : f_norm_Check n l = some (nckE l) := by
 unfold f_norm_Check nckE
 by_cases h : 24 < l.length
 ·
  rw [if_pos (by simp; omega), if_pos h]
 rw [if_neg (by simp; omega), if_neg h]
 have key : ∀ (m k fuel : Nat), l.length - k = m → k ≤ l.length → m < fuel → f_norm_Check_L8 n l fuel (k : Int) = some (if dupB ((l.take k).map GPatch.path_) ((l.drop k).map GPatch.path_) = true then 14 else if l.all pvalid = true then 0 else 8) := by
  intro m
  induction m with
  | zero =>
   intro k fuel hm hk hf
   obtain ⟨fuel, rfl⟩ : ∃ k, fuel = k + 1 := ⟨fuel - 1, by omega⟩
   obtain ⟨r, h3, h4⟩ := check2_L5 hn l (by omega) n 0 (by omega) (by omega)
   rw [show ((0 : Nat) : Int) = 0 from rfl] at h3
   rw [f_norm_Check_L8.eq_2, if_neg (by simp; omega), List.drop_of_length_le (by omega)]
   unfold f_slices_ContainsFunc_Patch_by_norm_Check_2 f_slices_IndexFunc_Patch_by_norm_Check_2
   rw [h3, bsome, bsome, h4, List.drop_zero]
   cases l.all pvalid <;> simp [dupB]
  | succ m ih =>
   intro k fuel hm hk hf
   obtain ⟨fuel, rfl⟩ : ∃ k, fuel = k + 1 := ⟨fuel - 1, by omega⟩
   have h1 : k < l.length := by omega
   obtain ⟨r, h3, h4⟩ := check1_L5 (n := n) (l.take k) (by simp; omega) l[k] n 0 (by omega) (by simp; omega)
   rw [show ((0 : Nat) : Int) = 0 from rfl] at h3
   rw [f_norm_Check_L8.eq_2, if_pos (by simp; omega), ix_nat h1, bsome, cutI_front (by omega), bsome]
   unfold f_slices_ContainsFunc_Patch_by_norm_Check_1 f_slices_IndexFunc_Patch_by_norm_Check_1
   rw [h3, bsome, bsome, h4, List.drop_zero, List.drop_eq_getElem_cons h1, List.map_cons, dupB]
   cases e : ((l.take k).map GPatch.path_).contains l[k].path_ with
   | true => simp
   | false =>
    rw [if_neg (by simp), rng_succ (by omega), bsome]
    refine Eq.trans (ih (k + 1) fuel (by omega) (by omega) (by omega)) ?_
    rw [List.take_succ_eq_append_getElem h1, List.map_append]
    rfl
 have := key l.length 0 n rfl (by omega) (by omega)
 simpa using this
end Go.Zv.G
namespace Go.Zv.G
open Go Go.Zv Go.Proofs
set_option maxRecDepth 100000
attribute [local simp high] bsome
theorem feed_L5 {n : Nat} (hn : 3000 < n) (l : List S) (hl : l.length < 1000000) (hx : ∀ s ∈ l, s.length ≤ 2000) : ∀ (m i fuel : Nat), l.length - i = m → i ≤ l.length → m < fuel → f_sidingref13_Feed_L5 n l fuel (i : Int) = some ((l.drop i).any oddLn) := by
 intro m
 induction m with
 | zero =>
  intro i fuel hm hi hf
  obtain ⟨fuel, rfl⟩ : ∃ k, fuel = k + 1 := ⟨fuel - 1, by omega⟩
  rw [f_sidingref13_Feed_L5.eq_2, if_neg (by simp; omega), List.drop_of_length_le (by omega)]
  rfl
 | succ m ih =>
  intro i fuel hm hi hf
  obtain ⟨fuel, rfl⟩ : ∃ k, fuel = k + 1 := ⟨fuel - 1, by omega⟩
  have h1 : i < l.length := by omega
  have h2 := hx l[i] (List.getElem_mem h1)
  rw [f_sidingref13_Feed_L5.eq_2, if_pos (by simp; omega), ix_nat h1, bsome, f_sidingref13_Parts_eq _ (by omega) (by omega), bsome, List.drop_eq_getElem_cons h1, List.any_cons, splitC_length]
  by_cases h : (10 : UInt8) ∈ l[i]
  ·
   have := (cnt8_pos (c := 10) (s := l[i])).2 h
   rw [if_pos (by simp; omega)]
   simp [oddLn, h]
  ·
   have : ¬ 0 < cnt8 10 l[i] := fun e => h (cnt8_pos.1 e)
   rw [if_neg (by simp; omega), rng_succ (by omega), bsome]
   refine Eq.trans (ih (i + 1) fuel (by omega) (by omega) (by omega)) ?_
   simp [oddLn, h]
theorem f_sidingref13_Feed_eq {n : Nat} (hn : 3000 < n) (l : List S) (hl : l.length < 1000000) (hl' : l.length < n) (hx : ∀ s ∈ l, s.length ≤ 2000) : f_sidingref13_Feed n l = some (l.any oddLn) := by
 unfold f_sidingref13_Feed
 exact feed_L5 hn l hl hx l.length 0 n rfl (by omega) hl'
theorem plain_L5r {n : Nat} (hn : 3000 < n) (l : List S) (hl : l.length < 1000000) (hl' : l.length < n) : ∀ (m i fuel : Nat), l.length - i = m → i ≤ l.length → m < fuel → (∀ s ∈ l.take i, s.length ≤ 2000) → f_sidingref15_Plain_L5 n l fuel (i : Int) = some (plainB l) := by
 intro m
 induction m with
 | zero =>
  intro i fuel hm hi hf hx
  obtain ⟨fuel, rfl⟩ : ∃ k, fuel = k + 1 := ⟨fuel - 1, by omega⟩
  have e : i = l.length := by omega
  subst e
  rw [List.take_length] at hx
  rw [f_sidingref15_Plain_L5.eq_2, if_neg (by simp)]
  have hbad : l.any badLn = l.any oddLn := by
   rw [Bool.eq_iff_iff, List.any_eq_true, List.any_eq_true]
   refine ⟨fun ⟨s, h1, h2⟩ => ⟨s, h1, ?_⟩, fun ⟨s, h1, h2⟩ => ⟨s, h1, by unfold badLn; simp [h2]⟩⟩
   have := hx s h1
   unfold badLn at h2
   simpa [show ¬ 2000 < s.length by omega] using h2
  unfold plainB
  rw [hbad]
  by_cases h : l.length ≤ 60
  ·
   rw [if_pos (by simp; omega), f_sidingref13_Feed_eq hn l hl hl' hx, bsome]
   simp [h]
  ·
   rw [if_neg (by simp; omega)]
   simp [h]
 | succ m ih =>
  intro i fuel hm hi hf hx
  obtain ⟨fuel, rfl⟩ : ∃ k, fuel = k + 1 := ⟨fuel - 1, by omega⟩
  have h1 : i < l.length := by omega
  rw [f_sidingref15_Plain_L5.eq_2, if_pos (by simp; omega), ix_nat h1, bsome]
  by_cases h : 2000 < l[i].length
  ·
   rw [if_pos (by simp; omega)]
   have : l.any badLn = true := by
    rw [List.any_eq_true]
    exact ⟨l[i], List.getElem_mem h1, by unfold badLn; simp [h]⟩
   unfold plainB
   rw [this]; simp
  ·
   rw [if_neg (by simp; omega), rng_succ (by omega), bsome]
   refine ih (i + 1) fuel (by omega) (by omega) (by omega) fun s hs => ?_
   rw [List.take_succ_eq_append_getElem h1, List.mem_append, List.mem_singleton] at hs
   rcases hs with hs | rfl
   ·
    exact hx s hs
   ·
    omega
theorem f_sidingref15_Plain_eq {n : Nat} (hn : 3000 < n) (l : List S) (hl : l.length < 1000000) (hl' : l.length < n) : f_sidingref15_Plain n l = some (plainB l) := by
 unfold f_sidingref15_Plain
 exact plain_L5r hn l hl hl' l.length 0 n rfl (by omega) hl' (fun s hs => by simp at hs)
def Fits (n : Nat) (h : GHunk) : Prop := h.old_.length < 1000000 ∧ h.new_.length < 1000000 ∧ h.old_.length < n ∧ h.new_.length < n
theorem f_sidingref15_Valid_eq {n : Nat} (hn : 3000 < n) (h : GHunk) (hf : Fits n h) : f_sidingref15_Valid n h.at_ h.old_ h.new_ = some (validH h) := by
 unfold f_sidingref15_Valid validH
 rw [f_sidingref15_Plain_eq hn _ hf.1 hf.2.2.1, bsome, f_sidingref15_Plain_eq hn _ hf.2.1 hf.2.2.2, bsome]
 by_cases h1 : 0 ≤ h.at_
 ·
  rw [if_pos (by simpa using h1)]
  by_cases h2 : h.at_ ≤ 60
  ·
   rw [if_pos (by simpa using h2)]
   cases plainB h.old_ with
   | false => simp
   | true =>
    cases plainB h.new_ with
    | false => simp
    | true =>
     rw [if_pos rfl, if_pos rfl]
     by_cases h3 : 0 < h.old_.length
     ·
      rw [if_pos (by simp; omega)]
      have : decide (0 < h.old_.length + h.new_.length) = true := decide_eq_true (by omega)
      rw [this]; simp [h1, h2]
     ·
      rw [if_neg (by rw [decide_eq_true_eq]; omega)]
      have : decide ((h.new_.length : Int) > 0) = decide (0 < h.old_.length + h.new_.length) := decide_eq_decide.2 (by omega)
      rw [this]; simp [h1, h2]
  ·
   rw [if_neg (by simpa using h2)]; simp [h2]
 ·
  rw [if_neg (by simpa using h1)]; simp [h1]
theorem hcheck8 {n : Nat} (hn : 3000 < n) {l : List GHunk} (hl : l.length ≤ 40) (hx : ∀ h ∈ l, Fits n h) : ∀ (m k : Nat) (e : Int) (fuel : Nat), l.length - k = m → k ≤ l.length → m < fuel → (k = 0 ∧ e = 0 ∨ ∃ h, 0 < k ∧ l[k - 1]? = some h ∧ validH h = true ∧ e = h.at_ + (h.old_.length : Int) + 1) → f_sidingref15_Check_L8 n l fuel (k : Int) = some (if okHs e (l.drop k) = true then 0 else 8) := by
 intro m
 induction m with
 | zero =>
  intro k e fuel hm hk hf _
  obtain ⟨fuel, rfl⟩ : ∃ k, fuel = k + 1 := ⟨fuel - 1, by omega⟩
  rw [f_sidingref15_Check_L8.eq_2, if_neg (by simp; omega), List.drop_of_length_le (by omega)]
  rfl
 | succ m ih =>
  intro k e fuel hm hk hf he
  obtain ⟨fuel, rfl⟩ : ∃ k, fuel = k + 1 := ⟨fuel - 1, by omega⟩
  have h1 : k < l.length := by omega
  rw [f_sidingref15_Check_L8.eq_2, if_pos (by simp; omega), ix_nat h1, bsome, f_sidingref15_Valid_eq hn _ (hx _ (List.getElem_mem h1)), bsome, List.drop_eq_getElem_cons h1, okHs]
  cases e1 : validH l[k] with
  | false => simp
  | true =>
   obtain ⟨v1, v2, v3, v4⟩ := validH_at e1
   have hrec := ih (k + 1) (l[k].at_ + (l[k].old_.length : Int) + 1) fuel (by clear he; omega) (by clear he; omega) (by clear he; omega) (.inr ⟨l[k], by clear he; omega, by simp [h1], e1, rfl⟩)
   rw [if_neg (by simp)]
   rcases he with ⟨rfl, rfl⟩ | ⟨h, h0, h2, h3, rfl⟩
   ·
    rw [if_neg (by simp), rng_succ (by omega), bsome]
    refine Eq.trans hrec ?_
    simp [v1]
   ·
    obtain ⟨w1, w2, w3, w4⟩ := validH_at h3
    have hix : ix l ((k : Int) - 1) = some h := by
     rw [show ((k : Int) - 1) = ((k - 1 : Nat) : Int) by omega]
     exact ix_get h2
    rw [if_pos (by simp; omega), rng_ok (by omega) (by omega), bsome, hix, bsome, bsome, hix, bsome, rng_ok (by omega) (by omega), bsome]
    by_cases hc : l[k].at_ ≤ h.at_ + (h.old_.length : Int)
    ·
     rw [if_pos (by simpa using hc)]
     have : ¬ (h.at_ + (h.old_.length : Int) + 1 ≤ l[k].at_) := by omega
     simp [this]
    ·
     rw [if_neg (by simpa using hc), rng_succ (by omega), bsome]
     refine Eq.trans hrec ?_
     have : h.at_ + (h.old_.length : Int) + 1 ≤ l[k].at_ := by omega
     simp [this]
theorem f_sidingref15_Check_eq {n : Nat} (hn : 3000 < n) (l : List GHunk) (hx : ∀ h ∈ l, Fits n h) : f_sidingref15_Check n l = some (hckE l) := by
 unfold f_sidingref15_Check hckE
 by_cases h : 40 < l.length
 ·
  rw [if_pos (by simp; omega), if_pos h]
 ·
  rw [if_neg (by simp; omega), if_neg h]
  exact hcheck8 hn (by omega) hx l.length 0 0 n rfl (by omega) (by omega) (.inl ⟨rfl, rfl⟩)
theorem f_sidingref17_Valid_eq {n : Nat} (hn : 3000 < n) (p : GPatch) (hx : ∀ h ∈ p.hunks_, Fits n h) : f_sidingref17_Valid n p.path_ p.was_ p.stays_ p.hunks_ = some (pvalid p) := by
 unfold f_sidingref17_Valid pvalid
 rw [f_sidingref17_Path_eq _ (by omega), bsome, f_sidingref15_Check_eq hn _ hx, bsome]
 unfold f_sidingref17_Valid_J13 f_sidingref17_Valid_J14
 cases okPath p.path_ with
 | false => simp
 | true =>
  rw [if_neg (by simp)]
  by_cases hc : hckE p.hunks_ = 0
  ·
   rw [hc, if_neg (by simp)]
   cases hh : p.hunks_ with
   | nil => cases p.was_ <;> cases p.stays_ <;> simp
   | cons h t =>
    cases t with
    | cons h2 t2 =>
     have : (((h :: h2 :: t2).length : Int) != 1) = true := by simp; omega
     rw [this]
     cases p.was_ <;> cases p.stays_ <;> simp
    | nil =>
     rw [ixc]
     simp only [bsome]
     rw [len0, len0]
     by_cases ha : h.at_ = 0
     ·
      rw [ha]
      generalize (h.old_.length == 0) = b1
      generalize (h.new_.length == 0) = b2
      cases p.was_ <;> cases p.stays_ <;> cases b1 <;> cases b2 <;> simp
     ·
      cases p.was_ <;> cases p.stays_ <;> simp [ha]
  ·
   have hc' : (hckE p.hunks_ != 0) = true := by simpa using hc
   rw [hc', if_pos rfl]
   simp [hc]
theorem f_sidingref17_Check_eq {n : Nat} (hn : 3000 < n) (l : List GPatch) (hx : ∀ p ∈ l, ∀ h ∈ p.hunks_, Fits n h) : f_sidingref17_Check n l = some (nckE l) := by
 unfold f_sidingref17_Check nckE
 by_cases h : 24 < l.length
 ·
  rw [if_pos (by simp; omega), if_pos h]
 rw [if_neg (by simp; omega), if_neg h]
 have k40 : ∀ (m k fuel : Nat), l.length - k = m → k ≤ l.length → m < fuel → f_sidingref17_Check_L40 n l fuel (k : Int) = some (if (l.drop k).all pvalid = true then 0 else 8) := by
  intro m
  induction m with
  | zero =>
   intro k fuel hm hk hf
   obtain ⟨fuel, rfl⟩ : ∃ k, fuel = k + 1 := ⟨fuel - 1, by omega⟩
   rw [f_sidingref17_Check_L40.eq_2, if_neg (by simp; omega), List.drop_of_length_le (by omega)]
   rfl
  | succ m ih =>
   intro k fuel hm hk hf
   obtain ⟨fuel, rfl⟩ : ∃ k, fuel = k + 1 := ⟨fuel - 1, by omega⟩
   have h1 : k < l.length := by omega
   rw [f_sidingref17_Check_L40.eq_2, if_pos (by simp; omega), ix_nat h1, bsome, f_sidingref17_Valid_eq hn _ (hx _ (List.getElem_mem h1)), bsome, List.drop_eq_getElem_cons h1, List.all_cons]
   cases pvalid l[k] with
   | false => simp
   | true =>
    rw [if_neg (by simp), rng_succ (by omega), bsome]
    exact ih (k + 1) fuel (by omega) (by omega) (by omega)
 have k17 : ∀ (k : Nat) (h1 : k < l.length) (rec : Int → Option Int) (m j fuel : Nat), k - j = m → j ≤ k → m < fuel → f_sidingref17_Check_L17 l (k : Int) rec fuel (j : Int) = if (((l.take k).drop j).map GPatch.path_).contains l[k].path_ = true then some 14 else rec ((k + 1 : Nat) : Int) := by
  intro k h1 rec m
  induction m with
  | zero =>
   intro j fuel hm hj hf
   obtain ⟨fuel, rfl⟩ : ∃ k, fuel = k + 1 := ⟨fuel - 1, by omega⟩
   rw [f_sidingref17_Check_L17.eq_2, if_neg (by simp; omega), rng_succ (by omega), bsome, List.drop_of_length_le (by simp; omega)]
   simp
  | succ m ih =>
   intro j fuel hm hj hf
   obtain ⟨fuel, rfl⟩ : ∃ k, fuel = k + 1 := ⟨fuel - 1, by omega⟩
   have h2 : j < (l.take k).length := by simp; omega
   have h3 : (l.take k)[j] = l[j]'(by omega) := by simp
   rw [f_sidingref17_Check_L17.eq_2, if_pos (by simp; omega), ix_nat h1, bsome, ix_nat (show j < l.length by omega), bsome, List.drop_eq_getElem_cons h2, List.map_cons, List.contains_cons, h3]
   cases e : (l[k].path_ == l[j].path_) with
   | true => simp
   | false =>
    rw [if_neg (by simp), rng_succ (by omega), bsome]
    refine Eq.trans (ih (j + 1) fuel (by omega) (by omega) (by omega)) ?_
    rw [Bool.false_or]
 have key : ∀ (m k fuel : Nat), l.length - k = m → k ≤ l.length → m + 30 < fuel → f_sidingref17_Check_L8 n l fuel (k : Int) = some (if dupB ((l.take k).map GPatch.path_) ((l.drop k).map GPatch.path_) = true then 14 else if l.all pvalid = true then 0 else 8) := by
  intro m
  induction m with
  | zero =>
   intro k fuel hm hk hf
   obtain ⟨fuel, rfl⟩ : ∃ k, fuel = k + 1 := ⟨fuel - 1, by omega⟩
   rw [f_sidingref17_Check_L8.eq_2, if_neg (by simp; omega), List.drop_of_length_le (by omega)]
   exact k40 l.length 0 n rfl (by omega) (by omega)
  | succ m ih =>
   intro k fuel hm hk hf
   obtain ⟨fuel, rfl⟩ : ∃ k, fuel = k + 1 := ⟨fuel - 1, by omega⟩
   have h1 : k < l.length := by omega
   have := k17 k h1 (fun a => f_sidingref17_Check_L8 n l fuel a) k 0 fuel (by omega) (by omega) (by omega)
   rw [f_sidingref17_Check_L8.eq_2, if_pos (by simp; omega)]
   refine Eq.trans this ?_
   rw [List.drop_zero, List.drop_eq_getElem_cons h1, List.map_cons, dupB]
   cases e : ((l.take k).map GPatch.path_).contains l[k].path_ with
   | true => simp
   | false =>
    rw [if_neg (by simp), ih (k + 1) fuel (by omega) (by omega) (by omega)]
    rw [List.take_succ_eq_append_getElem h1, List.map_append]
    rfl
 have := key l.length 0 n rfl (by omega) (by omega)
 simpa using this
end Go.Zv.G
namespace Go.Zv.G
open Go Go.Zv Go.Proofs
set_option maxRecDepth 100000
attribute [local simp high] bsome
theorem hok_ck {H : S → S → List GHunk} (hH : HOK H) {s t : S} (hs : txtE s = 0) (ht : txtE t = 0) : hckE (H s t) = 0 ∧ (∀ h ∈ H s t, h.old_.length ≤ 60 ∧ h.new_.length ≤ 60) ∧ (H s t = [] → s = t) := by
 obtain ⟨ps, hP, h2⟩ := hH s t hs ht
 have h1 := (lines_of_txt hs).1
 have h3 := (lines_of_txt ht).1
 have hfew := hunks_few hP
 have hfit := hunks_fit hP
 have hck : f_hunk_Check 4000 ((hunksOf (splitC 10 s) (splitC 10 t) 0 0 ps).map asHunk) = some 0 := by
  unfold f_hunk_Check
  rw [if_neg (by simp; omega)]
  refine check9 (by omega) (by omega) _ [] 0 4000 (by simp) (hunks_gaps hP) (fun x hx => ?_) (by omega)
  obtain ⟨f1, f2, f3, f4⟩ := hfit x hx
  refine ⟨by omega, by omega, by omega, fun y hy => split_good hs ?_, fun y hy => split_good ht (f3 y hy)⟩
  rw [← f2] at hy
  exact List.mem_of_mem_take (List.mem_of_mem_drop hy)
 rw [f_hunk_Check_eq (by omega)] at hck
 rw [h2]
 refine ⟨Option.some.inj hck, fun h hh => ?_, fun h => ?_⟩
 ·
  obtain ⟨x, hx, rfl⟩ := List.mem_map.1 hh
  obtain ⟨f1, f2, f3, f4⟩ := hfit x hx
  exact ⟨show x.old.length ≤ 60 by omega, show x.new.length ≤ 60 by omega⟩
 ·
  have := hunks_none hP (List.map_eq_nil_iff.1 h)
  rw [← join_split 10 s, ← join_split 10 t, this]
theorem split_plain {s : S} (h : txtE s = 0) : plainB (splitC 10 s) = true := by
 unfold plainB
 have h1 := (lines_of_txt h).1
 have : (splitC 10 s).any badLn = false := by
  rw [List.any_eq_false]; intro x hx; simp [split_good h hx]
 simp [h1, this]
theorem split_pos (s : S) : 0 < (splitC 10 s).length := by rw [splitC_length]; omega
section
variable {H : S → S → List GHunk} (hH : HOK H)
structure POK (a b : List GFile) (p : GPatch) : Prop where
 valid : pvalid p = true
 was : p.was_ = true ↔ ∃ x ∈ a, x.path_ = p.path_
 stays : p.stays_ = true ↔ ∃ x ∈ b, x.path_ = p.path_
 hunks : p.hunks_ ≠ []
 fits : ∀ h ∈ p.hunks_, h.old_.length ≤ 60 ∧ h.new_.length ≤ 60
theorem dl_path {a b : List GFile} {l : List GPatch} (h : DL H a b l) : ∀ p ∈ l, (∃ x ∈ a, x.path_ = p.path_) ∨ ∃ x ∈ b, x.path_ = p.path_ := by
 induction h with
 | nil => intro p hp; cases hp
 | @gone x a b l _ _ ih =>
  intro p hp
  rcases List.mem_cons.1 hp with rfl | hp
  ·
   exact .inl ⟨x, by simp, rfl⟩
  ·
   rcases ih p hp with ⟨y, h1, h2⟩ | h1
   ·
    exact .inl ⟨y, by simp [h1], h2⟩
   ·
    exact .inr h1
 | @new y a b l _ _ ih =>
  intro p hp
  rcases List.mem_cons.1 hp with rfl | hp
  ·
   exact .inr ⟨y, by simp, rfl⟩
  ·
   rcases ih p hp with h1 | ⟨y, h1, h2⟩
   ·
    exact .inl h1
   ·
    exact .inr ⟨y, by simp [h1], h2⟩
 | @same x a b l _ ih =>
  intro p hp
  rcases ih p hp with ⟨y, h1, h2⟩ | ⟨y, h1, h2⟩
  ·
   exact .inl ⟨y, by simp [h1], h2⟩
  ·
   exact .inr ⟨y, by simp [h1], h2⟩
 | @chg x y a b l _ _ _ ih =>
  intro p hp
  rcases List.mem_cons.1 hp with rfl | hp
  ·
   exact .inr ⟨y, by simp, rfl⟩
  ·
   rcases ih p hp with ⟨y, h1, h2⟩ | ⟨y, h1, h2⟩
   ·
    exact .inl ⟨y, by simp [h1], h2⟩
   ·
    exact .inr ⟨y, by simp [h1], h2⟩
theorem dl_length {a b : List GFile} {l : List GPatch} (h : DL H a b l) : l.length ≤ a.length + b.length := by
 induction h <;> simp <;> omega
theorem dl_same {a b : List GFile} {l : List GPatch} (h : DL H a b l) : l = [] → a = b := by
 induction h with
 | nil => intro _; rfl
 | gone => intro h; cases h
 | new => intro h; cases h
 | same _ ih => intro h; rw [ih h]
 | chg => intro h; cases h
theorem dl_self {a b : List GFile} {l : List GPatch} (h : DL H a b l) : a = b → l = [] := by
 induction h with
 | nil => intro _; rfl
 | @gone x a b l h1 _ _ =>
  intro h; subst h
  exact absurd (h1 x (by simp)) (s_irrefl _)
 | @new y a b l h1 _ _ =>
  intro h; subst h
  exact absurd (h1 y (by simp)) (s_irrefl _)
 | same _ ih => intro h; exact ih (List.cons.inj h).2
 | chg _ h2 => intro h; exact absurd (by rw [(List.cons.inj h).1]) h2
theorem dl_sorted {a b : List GFile} {l : List GPatch} (h : DL H a b l) : Sorted a → Sorted b → l.Pairwise fun p q => p.path_ < q.path_ := by
 induction h with
 | nil => intro _ _; exact List.Pairwise.nil
 | @gone x a b l h1 h2 ih =>
  intro ha hb
  have ha' := List.pairwise_cons.1 ha
  refine List.pairwise_cons.2 ⟨fun p hp => ?_, ih ha'.2 hb⟩
  rcases dl_path h2 p hp with ⟨y, h3, h4⟩ | ⟨y, h3, h4⟩
  ·
   rw [← h4]; exact ha'.1 y h3
  ·
   rw [← h4]; exact h1 y h3
 | @new y a b l h1 h2 ih =>
  intro ha hb
  have hb' := List.pairwise_cons.1 hb
  refine List.pairwise_cons.2 ⟨fun p hp => ?_, ih ha hb'.2⟩
  rcases dl_path h2 p hp with ⟨y, h3, h4⟩ | ⟨y, h3, h4⟩
  ·
   rw [← h4]; exact h1 y h3
  ·
   rw [← h4]; exact hb'.1 y h3
 | same _ ih =>
  intro ha hb
  exact ih (List.pairwise_cons.1 ha).2 (List.pairwise_cons.1 hb).2
 | @chg x y a b l h1 _ h2 ih =>
  intro ha hb
  have ha' := List.pairwise_cons.1 ha
  have hb' := List.pairwise_cons.1 hb
  refine List.pairwise_cons.2 ⟨fun p hp => ?_, ih ha'.2 hb'.2⟩
  rcases dl_path h2 p hp with ⟨z, h3, h4⟩ | ⟨z, h3, h4⟩
  ·
   rw [← h4]; show y.path_ < z.path_; rw [← h1]; exact ha'.1 z h3
  ·
   rw [← h4]; exact hb'.1 z h3
theorem POK.mono {a b a' b' : List GFile} {p : GPatch} (h : POK a b p) (ha : ∀ x ∈ a, x ∈ a') (hb : ∀ x ∈ b, x ∈ b') (ha' : ∀ x ∈ a', x ∉ a → x.path_ ≠ p.path_) (hb' : ∀ x ∈ b', x ∉ b → x.path_ ≠ p.path_) : POK a' b' p where
 valid := h.valid
 was := ⟨fun e => by obtain ⟨x, h1, h2⟩ := h.was.1 e; exact ⟨x, ha x h1, h2⟩, fun ⟨x, h1, h2⟩ => h.was.2 ⟨x, Classical.byContradiction fun h3 => ha' x h1 h3 h2, h2⟩⟩
 stays := ⟨fun e => by obtain ⟨x, h1, h2⟩ := h.stays.1 e; exact ⟨x, hb x h1, h2⟩, fun ⟨x, h1, h2⟩ => h.stays.2 ⟨x, Classical.byContradiction fun h3 => hb' x h1 h3 h2, h2⟩⟩
 hunks := h.hunks
 fits := h.fits
include hH in
theorem dl_ok {a b : List GFile} {l : List GPatch} (h : DL H a b l) : Sorted a → Sorted b → (∀ x ∈ a, okPath x.path_ = true ∧ txtE x.text_ = 0) → (∀ x ∈ b, okPath x.path_ = true ∧ txtE x.text_ = 0) → ∀ p ∈ l, POK a b p := by
 induction h with
 | nil => intro _ _ _ _ p hp; cases hp
 | @gone x a b l h1 h2 ih =>
  intro ha hb hxa hxb p hp
  have ha' := List.pairwise_cons.1 ha
  obtain ⟨x1, x2⟩ := hxa x (by simp)
  have h60 := (lines_of_txt x2).1
  rcases List.mem_cons.1 hp with rfl | hp
  ·
   refine ⟨?_, ⟨fun _ => ⟨x, by simp, rfl⟩, fun _ => rfl⟩, ⟨fun h => (Bool.false_ne_true h).elim, fun ⟨y, h3, h4⟩ => ?_⟩, by simp [goneP], ?_⟩
   ·
    unfold pvalid goneP hckE okHs validH okHs
    have := split_pos x.text_
    simp [x1, split_plain x2, this]
    simp [plainB]
   ·
    have := h1 y h3
    rw [h4] at this
    exact absurd this (s_irrefl _)
   ·
    intro h hh
    simp only [goneP, List.mem_singleton] at hh
    subst hh; exact ⟨h60, by simp⟩
  ·
   have hlt : x.path_ < p.path_ := by
    rcases dl_path h2 p hp with ⟨y, h3, h4⟩ | ⟨y, h3, h4⟩
    ·
     rw [← h4]; exact ha'.1 y h3
    ·
     rw [← h4]; exact h1 y h3
   refine (ih ha'.2 hb (fun y hy => hxa y (by simp [hy])) hxb p hp).mono (fun y hy => by simp [hy]) (fun y hy => hy) (fun y hy hn => ?_) (fun y hy hn => absurd hy hn)
   rcases List.mem_cons.1 hy with rfl | hy
   ·
    exact lt_ne hlt
   ·
    exact absurd hy hn
 | @new x a b l h1 h2 ih =>
  intro ha hb hxa hxb p hp
  have hb' := List.pairwise_cons.1 hb
  obtain ⟨x1, x2⟩ := hxb x (by simp)
  have h60 := (lines_of_txt x2).1
  rcases List.mem_cons.1 hp with rfl | hp
  ·
   refine ⟨?_, ⟨fun h => (Bool.false_ne_true h).elim, fun ⟨y, h3, h4⟩ => ?_⟩, ⟨fun _ => ⟨x, by simp, rfl⟩, fun _ => rfl⟩, by simp [newP], ?_⟩
   ·
    unfold pvalid newP hckE okHs validH okHs
    have := split_pos x.text_
    simp [x1, split_plain x2, this]
    simp [plainB]
   ·
    have := h1 y h3
    rw [h4] at this
    exact absurd this (s_irrefl _)
   ·
    intro h hh
    simp only [newP, List.mem_singleton] at hh
    subst hh; exact ⟨by simp, h60⟩
  ·
   have hlt : x.path_ < p.path_ := by
    rcases dl_path h2 p hp with ⟨y, h3, h4⟩ | ⟨y, h3, h4⟩
    ·
     rw [← h4]; exact h1 y h3
    ·
     rw [← h4]; exact hb'.1 y h3
   refine (ih ha hb'.2 hxa (fun y hy => hxb y (by simp [hy])) p hp).mono (fun y hy => hy) (fun y hy => by simp [hy]) (fun y hy hn => absurd hy hn) (fun y hy hn => ?_)
   rcases List.mem_cons.1 hy with rfl | hy
   ·
    exact lt_ne hlt
   ·
    exact absurd hy hn
 | @same x a b l h2 ih =>
  intro ha hb hxa hxb p hp
  have ha' := List.pairwise_cons.1 ha
  have hb' := List.pairwise_cons.1 hb
  have hlt : x.path_ < p.path_ := by
   rcases dl_path h2 p hp with ⟨y, h3, h4⟩ | ⟨y, h3, h4⟩
   ·
    rw [← h4]; exact ha'.1 y h3
   ·
    rw [← h4]; exact hb'.1 y h3
  refine (ih ha'.2 hb'.2 (fun y hy => hxa y (by simp [hy])) (fun y hy => hxb y (by simp [hy])) p hp).mono (fun y hy => by simp [hy]) (fun y hy => by simp [hy]) (fun y hy hn => ?_) (fun y hy hn => ?_)
  ·
   rcases List.mem_cons.1 hy with rfl | hy
   ·
    exact lt_ne hlt
   ·
    exact absurd hy hn
  ·
   rcases List.mem_cons.1 hy with rfl | hy
   ·
    exact lt_ne hlt
   ·
    exact absurd hy hn
 | @chg x y a b l h1 hne h2 ih =>
  intro ha hb hxa hxb p hp
  have ha' := List.pairwise_cons.1 ha
  have hb' := List.pairwise_cons.1 hb
  obtain ⟨x1, x2⟩ := hxa x (by simp)
  obtain ⟨y1, y2⟩ := hxb y (by simp)
  rcases List.mem_cons.1 hp with rfl | hp
  ·
   obtain ⟨c1, c2, c3⟩ := hok_ck hH x2 y2
   refine ⟨?_, ⟨fun _ => ⟨x, by simp, h1⟩, fun _ => rfl⟩, ⟨fun _ => ⟨y, by simp, rfl⟩, fun _ => rfl⟩, fun h => hne (c3 h), c2⟩
   unfold pvalid chgP
   simp [y1, c1]
  ·
   have hlt : y.path_ < p.path_ := by
    rcases dl_path h2 p hp with ⟨z, h3, h4⟩ | ⟨z, h3, h4⟩
    ·
     rw [← h4, ← h1]; exact ha'.1 z h3
    ·
     rw [← h4]; exact hb'.1 z h3
   refine (ih ha'.2 hb'.2 (fun y hy => hxa y (by simp [hy])) (fun y hy => hxb y (by simp [hy])) p hp).mono (fun y hy => by simp [hy]) (fun y hy => by simp [hy]) (fun z hz hn => ?_) (fun z hz hn => ?_)
   ·
    rcases List.mem_cons.1 hz with rfl | hz
    ·
     rw [h1]; exact lt_ne hlt
    ·
     exact absurd hz hn
   ·
    rcases List.mem_cons.1 hz with rfl | hz
    ·
     exact lt_ne hlt
    ·
     exact absurd hz hn
theorem dupB_false : ∀ (ps pre : List S), dupB pre ps = false ↔ ps.Nodup ∧ ∀ p ∈ ps, p ∉ pre
 | [], pre => by simp [dupB]
 | p :: ps, pre => by
  rw [dupB, Bool.or_eq_false_iff, dupB_false ps, List.nodup_cons]
  simp only [List.contains_eq_mem, decide_eq_false_iff_not, List.mem_append, List.mem_cons, List.not_mem_nil, or_false]
  constructor
  ·
   rintro ⟨h1, h2, h3⟩
   refine ⟨⟨fun h => (h3 p h) (.inr rfl), h2⟩, fun q hq => ?_⟩
   rcases hq with rfl | hq
   ·
    exact h1
   ·
    exact fun h => h3 q hq (.inl h)
  ·
   rintro ⟨⟨h1, h2⟩, h3⟩
   refine ⟨h3 p (.inl rfl), h2, fun q hq h => ?_⟩
   rcases h with h | rfl
   ·
    exact h3 q (.inr hq) h
   ·
    exact h1 hq
theorem nckE_zero {l : List GPatch} (h1 : l.length ≤ 24) (h2 : (l.map GPatch.path_).Nodup) (h3 : ∀ p ∈ l, pvalid p = true) : nckE l = 0 := by
 unfold nckE
 rw [if_neg (by omega), if_neg, if_pos]
 ·
  rw [List.all_eq_true]; exact h3
 ·
  rw [(dupB_false _ []).2 ⟨h2, fun p _ h => by cases h⟩]; simp
theorem sorted_nodup {l : List GPatch} (h : l.Pairwise fun p q => p.path_ < q.path_) : (l.map GPatch.path_).Nodup := by
 rw [List.nodup_iff_pairwise_ne, List.pairwise_map]
 exact h.imp fun h => lt_ne h
include hH in
theorem dl_check {a b : List GFile} {l : List GPatch} (h : DL H a b l) (ha : Good a) (hb : Good b) : nckE l = 0 := by
 have h1 := dl_length h
 have h2 := ha.le
 have h3 := hb.le
 refine nckE_zero (by omega) (sorted_nodup (dl_sorted h ha.sorted hb.sorted)) fun p hp => ?_
 exact (dl_ok hH h ha.sorted hb.sorted (fun x hx => ⟨ha.path x hx, ha.text x hx⟩) (fun x hx => ⟨hb.path x hx, hb.text x hx⟩) p hp).valid
end
end Go.Zv.G
