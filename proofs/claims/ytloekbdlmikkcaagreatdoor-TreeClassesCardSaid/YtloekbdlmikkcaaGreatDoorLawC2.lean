/- Plain laws: what the plain functions say. No condition. -/
import Derived.Test.YtloekbdlmikkcaaGreatDoorLawC1
namespace Go.Zv.G
open Go Go.Zv Go.Proofs
set_option maxRecDepth 100000
attribute [local simp high] bsome
def badLn (s : S) : Bool := decide (2000 < s.length) || oddLn s
theorem f_hunk_plain_1_eq {n : Nat} (s : S) : f_hunk_plain_1 n s = some (badLn s) := by
 have hodd := f_lines_odd_1_eq (n := n) s
 unfold f_lines_odd_1 at hodd
 unfold f_hunk_plain_1 badLn
 by_cases h : 2000 < s.length
 ·
  rw [if_pos (by simp; omega)]; simp [h]
 ·
  rw [if_neg (by simp; omega), hodd]; simp [h]
theorem plainL5_eq (n : Nat) (l : List S) (hl : l.length < 1000000) : ∀ (m i : Nat), i ≤ l.length → l.length < m + i → ∃ r : Int, f_slices_IndexFunc_string_by_hunk_plain_1_L5 n l m (i : Int) = some r ∧ decide (r ≥ 0) = (l.drop i).any badLn := by
 intro m
 induction m with
 | zero => intro i h1 h2; omega
 | succ m ih =>
  intro i h1 h2
  rw [f_slices_IndexFunc_string_by_hunk_plain_1_L5.eq_2]
  by_cases hi : i < l.length
  ·
   rw [if_pos (by simpa using hi), ix_nat hi, bsome, f_hunk_plain_1_eq, bsome, List.drop_eq_getElem_cons hi, List.any_cons]
   cases e : badLn l[i] with
   | true => exact ⟨i, by simp, by simp⟩
   | false =>
    obtain ⟨r, h3, h4⟩ := ih (i + 1) (by omega) (by omega)
    refine ⟨r, ?_, by simpa using h4⟩
    rw [if_neg (by simp), rng_succ (by omega), bsome]
    exact h3
  ·
   rw [if_neg (by simpa using hi)]
   have : i = l.length := by omega
   subst this
   exact ⟨-1, rfl, by simp⟩
theorem f_hunk_plain_ok {n : Nat} {l : List S} (hl : l.length ≤ 60) (hn : l.length < n) (h : ∀ s ∈ l, badLn s = false) : f_hunk_plain n l = some true := by
 unfold f_hunk_plain f_slices_ContainsFunc_string_by_hunk_plain_1 f_slices_IndexFunc_string_by_hunk_plain_1
 obtain ⟨r, h3, h4⟩ := plainL5_eq n l (by omega) n 0 (by omega) (by omega)
 rw [show ((0 : Nat) : Int) = 0 from rfl] at h3
 have h5 : l.any badLn = false := by rw [List.any_eq_false]; intro s hs; simp [h s hs]
 rw [if_pos (by simp; omega), h3, bsome, bsome, h4, List.drop_zero, h5]
 rfl
theorem f_hunk_valid_ok {n : Nat} {i : Nat} {o w : List S} (hi : i ≤ 60) (ho : o.length ≤ 60) (hw : w.length ≤ 60) (hn : 60 < n) (h1 : ∀ s ∈ o, badLn s = false) (h2 : ∀ s ∈ w, badLn s = false) (hp : 0 < o.length + w.length) : f_hunk_valid n (i : Int) o w = some true := by
 unfold f_hunk_valid
 rw [if_pos (by simp), if_pos (by simp; omega), f_hunk_plain_ok ho (by omega) h1, bsome, if_pos rfl, f_hunk_plain_ok hw (by omega) h2, bsome, if_pos rfl, rng_ok (by omega) (by omega), bsome]
 exact congrArg some (decide_eq_true (by omega))
theorem check9 {n : Nat} (hn : 60 < n) {hs : List (Hk S)} (hh : hs.length ≤ 40) : ∀ (rest pre : List (Hk S)) (e fuel : Nat), hs = pre ++ rest → Gaps e rest → (∀ x ∈ rest, x.at_ ≤ 60 ∧ x.old.length ≤ 60 ∧ x.new.length ≤ 60 ∧ (∀ s ∈ x.old, badLn s = false) ∧ (∀ s ∈ x.new, badLn s = false)) → rest.length < fuel → f_hunk_Check_L9 n (hs.map asHunk) fuel (e : Int) (pre.length : Int) = some 0 := by
 intro rest
 induction rest with
 | nil =>
  intro pre e fuel hq hg hfit hf
  obtain ⟨fuel, rfl⟩ : ∃ k, fuel = k + 1 := ⟨fuel - 1, by omega⟩
  have hp : pre.length = hs.length := by rw [hq]; simp
  rw [f_hunk_Check_L9.eq_2, if_neg (by simp; omega)]
 | cons h rest ih =>
  intro pre e fuel hq hg hfit hf
  obtain ⟨fuel, rfl⟩ : ∃ k, fuel = k + 1 := ⟨fuel - 1, by omega⟩
  have hp : pre.length + (rest.length + 1) = hs.length := by rw [hq]; simp
  simp only [List.length_cons] at hf
  obtain ⟨f1, f2, f3, f4, f5⟩ := hfit h (by simp)
  have hget : (hs.map asHunk)[pre.length]? = some (asHunk h) := by rw [hq]; simp
  have hgg : e ≤ h.at_ ∧ 0 < h.old.length + h.new.length ∧ Gaps (h.at_ + h.old.length + 1) rest := by
   cases hg with
   | cons h1 h2 h3 => exact ⟨h1, h2, h3⟩
  have := ih (pre ++ [h]) (h.at_ + h.old.length + 1) fuel (by simp [hq]) hgg.2.2 (fun x hx => hfit x (by simp [hx])) (by omega)
  rw [f_hunk_Check_L9.eq_2, if_pos (by simp; omega), ix_get hget, bsome, show (asHunk h).at_ = (h.at_ : Int) from rfl, show (asHunk h).old_ = h.old from rfl, show (asHunk h).new_ = h.new from rfl, f_hunk_valid_ok f1 f2 f3 hn f4 f5 hgg.2.1, bsome, if_neg (by simp), if_neg (by simp; omega)]
  rw [show ((h.at_ : Int) + (h.old.length : Int)) = ((h.at_ + h.old.length : Nat) : Int) by omega, rng_ok (by omega) (by omega), bsome, rng_succ (by omega), bsome, rng_succ (by omega), bsome]
  rw [List.length_append, List.length_singleton] at this
  exact this
end Go.Zv.G
namespace Go.Zv.G
open Go Go.Zv Go.Proofs
set_option maxRecDepth 100000
attribute [local simp high] bsome
theorem exact13 {n : Nat} {a : List S} (ha : a.length < 1000000) (hn : a.length < n) (hl : 2000000 ≤ lim) {hs : List (Hk S)} (hh : hs.length < 1000000) : ∀ (rest pre : List (Hk S)) (fuel : Nat), hs = pre ++ rest → (∀ x ∈ rest, x.at_ + x.old.length ≤ a.length ∧ (a.take (x.at_ + x.old.length)).drop x.at_ = x.old) → rest.length < fuel →
  f_apply_Exact_L13 n a (hs.map asHunk) fuel (pre.map fun h => (h.at_ : Int)) (pre.length : Int) = f_apply_put n a (hs.map asHunk) (hs.map fun h => (h.at_ : Int)) := by
 intro rest
 induction rest with
 | nil =>
  intro pre fuel hq hfit hf
  obtain ⟨fuel, rfl⟩ : ∃ k, fuel = k + 1 := ⟨fuel - 1, by omega⟩
  have hp : pre = hs := by rw [hq]; simp
  subst hp
  rw [f_apply_Exact_L13.eq_2, if_neg (by simp)]
  cases f_apply_put n a (pre.map asHunk) (pre.map fun h => (h.at_ : Int)) <;> rfl
 | cons h rest ih =>
  intro pre fuel hq hfit hf
  obtain ⟨fuel, rfl⟩ : ∃ k, fuel = k + 1 := ⟨fuel - 1, by omega⟩
  have hp : pre.length + (rest.length + 1) = hs.length := by rw [hq]; simp
  simp only [List.length_cons] at hf
  obtain ⟨f1, f2⟩ := hfit h (by simp)
  have hget : (hs.map asHunk)[pre.length]? = some (asHunk h) := by rw [hq]; simp
  have := ih (pre ++ [h]) fuel (by simp [hq]) (fun x hx => hfit x (by simp [hx])) (by omega)
  rw [f_apply_Exact_L13.eq_2, if_pos (by simp; omega), ix_get hget, bsome, show (asHunk h).at_ = (h.at_ : Int) from rfl, show (asHunk h).old_ = h.old from rfl, at_law ha hn f1 f2, bsome, if_neg (by simp), need_ok (by simp; omega), bsome, rng_succ (by omega), bsome]
  rw [List.length_append, List.length_singleton, List.map_append] at this
  exact this
end Go.Zv.G
namespace Go.Zv.G
open Go Go.Zv Go.Proofs
set_option maxRecDepth 100000
attribute [local simp high] bsome
theorem mem_size {l : List S} {x : S} (h : x ∈ l) : x.length + l.length ≤ sizeL l + l.length := by
 induction l with
 | nil => cases h
 | cons y ys ih =>
  simp only [sizeL, List.map_cons, List.sum_cons] at ih ⊢
  rcases List.mem_cons.1 h with rfl | h
  ·
   omega
  ·
   have := ih h; omega
theorem split_good {s x : S} (h : txtE s = 0) (hx : x ∈ splitC 10 s) : badLn x = false := by
 have h1 := split_odd s
 rw [List.any_eq_false] at h1
 have h2 := mem_size hx
 have h3 := split_size s
 have h4 := (split_of_txt h).1
 have h5 : 0 < (splitC 10 s).length := List.length_pos_of_mem hx
 have h6 := h1 x hx
 unfold badLn
 simp only [Bool.or_eq_false_iff, decide_eq_false_iff_not]
 exact ⟨by omega, by simpa using h6⟩
theorem exact_law {n : Nat} {s t : S} (hs : txtE s = 0) (ht : txtE t = 0) (hn : 3000 < n) (hl : 2000000 ≤ lim) {ps : List (Nat × Nat)} (hP : Pairs (splitC 10 s) (splitC 10 t) 0 0 ps) :
  f_apply_Exact n (splitC 10 s) ((hunksOf (splitC 10 s) (splitC 10 t) 0 0 ps).map asHunk) = some (splitC 10 t, 0) := by
 have h1 := (lines_of_txt hs).1
 have h2 := (lines_of_txt ht).1
 have hfew := hunks_few hP
 have hfit := hunks_fit hP
 have hck : f_hunk_Check n ((hunksOf (splitC 10 s) (splitC 10 t) 0 0 ps).map asHunk) = some 0 := by
  unfold f_hunk_Check
  rw [if_neg (by simp; omega)]
  refine check9 (by omega) (by omega) _ [] 0 n (by simp) (hunks_gaps hP) (fun x hx => ?_) (by omega)
  obtain ⟨f1, f2, f3, f4⟩ := hfit x hx
  refine ⟨by omega, by omega, by omega, fun y hy => split_good hs ?_, fun y hy => split_good ht (f3 y hy)⟩
  rw [← f2] at hy
  exact List.mem_of_mem_take (List.mem_of_mem_drop hy)
 unfold f_apply_Exact f_apply_check
 rw [f_lines_Join_split hs (by omega) hl, bsome, if_neg (by simp), hck, bsome, bsome, if_neg (by simp)]
 have := exact13 (n := n) (a := splitC 10 s) (by omega) (by omega) hl (hs := hunksOf (splitC 10 s) (splitC 10 t) 0 0 ps) (by omega) _ [] n (by simp) (fun x hx => ⟨(hfit x hx).1, (hfit x hx).2.1⟩) (by omega)
 refine Eq.trans this ?_
 rw [apply_put_law (by omega) (by omega) hl (by omega) hP]
 unfold putEnd
 rw [f_lines_Join_split ht (by omega) hl, bsome, if_neg (by simp)]
end Go.Zv.G
namespace Go.Zv.G
open Go Go.Zv Go.Proofs
set_option maxRecDepth 100000
attribute [local simp high] bsome
theorem cmp_spec : ∀ (a b : S), (Lib.compareBytes a b < 0 ↔ a < b) ∧ (Lib.compareBytes a b = 0 ↔ a = b)
 | [], [] => by simp [Lib.compareBytes]
 | [], b :: v => by simp [Lib.compareBytes]
 | a :: u, [] => by simp [Lib.compareBytes]
 | a :: u, b :: v => by
  obtain ⟨h1, h2⟩ := cmp_spec u v
  unfold Lib.compareBytes
  by_cases h : a < b
  ·
   have hne : a ≠ b := fun e => by subst e; exact absurd h (UInt8.lt_irrefl a)
   rw [if_pos h, List.cons_lt_cons_iff]
   simp [h, hne]
  ·
   by_cases h' : b < a
   ·
    have hne : a ≠ b := fun e => by subst e; exact absurd h' (UInt8.lt_irrefl a)
    rw [if_neg h, if_pos h', List.cons_lt_cons_iff]
    simp [h, hne]
   ·
    have he : a = b := by
     have e1 : ¬ a.toNat < b.toNat := fun e => h (UInt8.lt_iff_toNat_lt.2 e)
     have e2 : ¬ b.toNat < a.toNat := fun e => h' (UInt8.lt_iff_toNat_lt.2 e)
     exact UInt8.toNat_inj.1 (by omega)
    subst he
    rw [if_neg h, if_neg h', List.cons_lt_cons_iff, h1, h2]
    simp [h]
theorem s_irrefl (a : S) : ¬ a < a := List.lt_irrefl a
theorem s_trans {a b c : S} (h1 : a < b) (h2 : b < c) : a < c := List.lt_trans h1 h2
theorem s_tri : ∀ (a b : S), a < b ∨ a = b ∨ b < a
 | [], [] => .inr (.inl rfl)
 | [], b :: v => .inl (by simp)
 | a :: u, [] => .inr (.inr (by simp))
 | a :: u, b :: v => by
  simp only [List.cons_lt_cons_iff, List.cons.injEq]
  by_cases h : a < b
  ·
   exact .inl (.inl h)
  ·
   by_cases h' : b < a
   ·
    exact .inr (.inr (.inl h'))
   ·
    have he : a = b := by
     have e1 : ¬ a.toNat < b.toNat := fun e => h (UInt8.lt_iff_toNat_lt.2 e)
     have e2 : ¬ b.toNat < a.toNat := fun e => h' (UInt8.lt_iff_toNat_lt.2 e)
     exact UInt8.toNat_inj.1 (by omega)
    subst he
    rcases s_tri u v with h1 | h1 | h1
    ·
     exact .inl (.inr ⟨rfl, h1⟩)
    ·
     exact .inr (.inl ⟨rfl, h1⟩)
    ·
     exact .inr (.inr (.inr ⟨rfl, h1⟩))
abbrev Sorted (t : List GFile) : Prop := t.Pairwise fun x y => x.path_ < y.path_
theorem okFrom_all {t : List GFile} : ∀ {i : Nat}, i ≤ t.length → okFrom t i = true → ∀ j (h : j < t.length), i ≤ j → okPath t[j].path_ = true ∧ (j = 0 ∨ (t[j - 1]'(by omega)).path_ < t[j].path_) := by
 intro i hi ho j h hij
 unfold okFrom at ho
 rw [List.all_eq_true] at ho
 have := ho j (List.mem_range'_1.2 ⟨hij, by omega⟩)
 rw [List.getElem?_eq_getElem h, List.getElem?_eq_getElem (show j - 1 < t.length by omega)] at this
 simpa using this
theorem okFrom_of {t : List GFile} (h : ∀ j (h : j < t.length), okPath t[j].path_ = true ∧ (j = 0 ∨ (t[j - 1]'(by omega)).path_ < t[j].path_)) : okFrom t 0 = true := by
 unfold okFrom
 rw [List.all_eq_true]
 intro j hj
 have hj' : j < t.length := by have := List.mem_range'_1.1 hj; omega
 rw [List.getElem?_eq_getElem hj', List.getElem?_eq_getElem (show j - 1 < t.length by omega)]
 simpa using h j hj'
theorem sorted_of_ok {t : List GFile} (h : okFrom t 0 = true) : Sorted t := by
 have hs := okFrom_all (Nat.zero_le _) h
 rw [Sorted, List.pairwise_iff_getElem]
 intro i j hi hj hij
 have key : ∀ d, ∀ j (hj : j < t.length), j = i + d + 1 → t[i].path_ < t[j].path_ := by
  intro d
  induction d with
  | zero =>
   intro j hj e
   have := (hs j hj (by omega)).2.resolve_left (by omega)
   simpa [show j - 1 = i by omega] using this
  | succ d ih =>
   intro j hj e
   have h1 := ih (j - 1) (by omega) (by omega)
   have h2 := (hs j hj (by omega)).2.resolve_left (by omega)
   exact s_trans h1 h2
 exact key (j - i - 1) j hj (by omega)
theorem txtE_cases (s : S) : txtE s = 0 ∨ txtE s = 4 := by unfold txtE; split <;> simp
theorem chk_iff {t : List GFile} : chk t = 0 ↔ t.length ≤ 12 ∧ (∀ x ∈ t, okPath x.path_ = true) ∧ Sorted t ∧ ∀ x ∈ t, txtE x.text_ = 0 := by
 unfold chk
 by_cases h : 12 < t.length
 ·
  rw [if_pos h]; simp; omega
 rw [if_neg h]
 by_cases ho : okFrom t 0 = true
 ·
  rw [if_pos ho]
  have hs := okFrom_all (Nat.zero_le _) ho
  have hp : ∀ x ∈ t, okPath x.path_ = true := by
   intro x hx
   obtain ⟨j, hj, rfl⟩ := List.mem_iff_getElem.1 hx
   exact (hs j hj (by omega)).1
  have ht : txtFrom t 0 = 0 ↔ ∀ x ∈ t, txtE x.text_ = 0 := by
   unfold txtFrom
   rw [List.drop_zero]
   cases e : t.find? (fun x => txtE x.text_ != 0) with
   | none =>
    rw [List.find?_eq_none] at e
    simpa using e
   | some x =>
    have h1 := List.mem_of_find?_eq_some e
    have h2 := List.find?_some e
    simp at h2
    simp only
    exact ⟨fun h => absurd h h2, fun h => absurd (h x h1) h2⟩
  rw [ht]
  exact ⟨fun h4 => ⟨by omega, hp, sorted_of_ok ho, h4⟩, fun h => h.2.2.2⟩
 ·
  rw [if_neg ho]
  refine ⟨fun h => by omega, fun ⟨_, h2, h3, _⟩ => absurd (okFrom_of fun j hj => ⟨h2 _ (List.getElem_mem hj), ?_⟩) ho⟩
  by_cases h0 : j = 0
  ·
   exact .inl h0
  ·
   exact .inr (List.pairwise_iff_getElem.1 h3 (j - 1) j (by omega) hj (by omega))
structure Pos (t : List GFile) (p : S) (k : Nat) : Prop where
 le : k ≤ t.length
 lo : ∀ j (h : j < t.length), j < k → t[j].path_ < p
 hi : ∀ j (h : j < t.length), k ≤ j → ¬ t[j].path_ < p
def isAt (t : List GFile) (p : S) (k : Nat) : Bool := match t[k]? with
 | some x => x.path_ == p
 | none => false
theorem f_slices_BinarySearchFunc_string_by_tree_find_1_eq {n : Nat} {t : List GFile} {p : S} (hs : Sorted t) (ht : t.length < 1000000) : ∀ (m i j : Nat), j - i < m → i ≤ j → j ≤ t.length → (∀ k (h : k < t.length), k < i → t[k].path_ < p) → (∀ k (h : k < t.length), j ≤ k → ¬ t[k].path_ < p) →
  ∃ k, Pos t p k ∧ f_slices_BinarySearchFunc_string_by_tree_find_1_L6 n t p m (i : Int) (j : Int) = some ((k : Int), isAt t p k)
 | 0, i, j, h1, h2, h3, h4, h5 => by omega
 | m + 1, i, j, h1, h2, h3, h4, h5 => by
  rw [f_slices_BinarySearchFunc_string_by_tree_find_1_L6]
  have h76 : ∀ x : GFile, f_tree_find_1 n x.path_ x.text_ p = some (Lib.compareBytes x.path_ p) := fun x => by simp [f_tree_find_1, f_strings_Compare, f_bytealg_CompareString]
  by_cases hij : i < j
  ·
   have hh : (((i + j : Nat) : Int).fdiv 2) = (((i + j) / 2 : Nat) : Int) := by
    rw [Int.fdiv_eq_ediv_of_nonneg _ (by omega)]; omega
   rw [if_pos (by simpa using hij), show ((i : Int) + (j : Int)) = ((i + j : Nat) : Int) by omega, rng_nat (by omega)]
   simp only [bsome, hh]
   rw [need_ok (wrapLu64 (by omega) (by omega)), need_ok (wrapL (by omega) (by omega))]
   simp only [bsome]
   rw [ix_nat (show (i + j) / 2 < t.length by omega)]
   simp only [bsome, h76]
   by_cases hc : (t[(i + j) / 2]'(by omega)).path_ < p
   ·
    rw [if_pos (by simpa using (cmp_spec _ _).1.2 hc), rng_succ (by omega)]
    simp only [bsome]
    refine f_slices_BinarySearchFunc_string_by_tree_find_1_eq hs ht m ((i + j) / 2 + 1) j (by omega) (by omega) h3 ?_ h5
    intro k hk hk2
    by_cases e : k = (i + j) / 2
    ·
     subst e; exact hc
    ·
     exact s_trans (List.pairwise_iff_getElem.1 hs k ((i + j) / 2) hk (by omega) (by omega)) hc
   ·
    rw [if_neg (by simpa using fun e => hc ((cmp_spec _ _).1.1 e))]
    refine f_slices_BinarySearchFunc_string_by_tree_find_1_eq hs ht m i ((i + j) / 2) (by omega) (by omega) (by omega) h4 ?_
    intro k hk hk2 hlt
    by_cases e : k = (i + j) / 2
    ·
     subst e; exact hc hlt
    ·
     exact hc (s_trans (List.pairwise_iff_getElem.1 hs ((i + j) / 2) k (by omega) hk (by omega)) hlt)
  ·
   rw [if_neg (by simpa using hij)]
   have : i = j := by omega
   subst this
   refine ⟨i, ⟨h3, h4, h5⟩, ?_⟩
   by_cases hi : i < t.length
   ·
    rw [if_pos (by simpa using hi), ix_nat hi]
    simp only [bsome, h76, isAt, List.getElem?_eq_getElem hi]
    congr 2
    rw [Bool.eq_iff_iff]
    simpa using (cmp_spec _ _).2
   ·
    rw [if_neg (by simpa using hi)]
    simp [isAt, List.getElem?_eq_none (Nat.le_of_not_lt hi)]
theorem f_tree_find_eq {n : Nat} {t : List GFile} {p : S} (hs : Sorted t) (ht : t.length < 1000000) (hn : t.length < n) : ∃ k, Pos t p k ∧ f_tree_find n t p = some ((k : Int), isAt t p k) := by
 obtain ⟨k, h1, h2⟩ := f_slices_BinarySearchFunc_string_by_tree_find_1_eq (n := n) (p := p) hs ht n 0 t.length (by omega) (by omega) (Nat.le_refl _) (fun k h h' => by omega) (fun k h h' => by omega)
 refine ⟨k, h1, ?_⟩
 unfold f_tree_find f_slices_BinarySearchFunc_string_by_tree_find_1
 rw [show ((0 : Nat) : Int) = 0 from rfl] at h2
 rw [h2]
 rfl
theorem Pos.unique {t : List GFile} {p : S} {k k' : Nat} (h : Pos t p k) (h' : Pos t p k') : k = k' := by
 have := h.le; have := h'.le
 rcases Nat.lt_trichotomy k k' with e | e | e
 ·
  exact absurd (h'.lo k (by omega) e) (h.hi k (by omega) (Nat.le_refl _))
 ·
  exact e
 ·
  exact absurd (h.lo k' (by omega) e) (h'.hi k' (by omega) (Nat.le_refl _))
theorem isAt_mem {t : List GFile} {p : S} {k : Nat} (hs : Sorted t) (hp : Pos t p k) : isAt t p k = true ↔ ∃ x ∈ t, x.path_ = p := by
 constructor
 ·
  intro h
  unfold isAt at h
  split at h
  ·
   rename_i x hx
   exact ⟨x, List.mem_of_getElem? hx, by simpa using h⟩
  ·
   cases h
 ·
  rintro ⟨x, hx, rfl⟩
  obtain ⟨j, hj, rfl⟩ := List.mem_iff_getElem.1 hx
  have h1 : ¬ j < k := fun e => s_irrefl _ (hp.lo j hj e)
  have h2 : ¬ k < j := fun e => hp.hi k (by omega) (Nat.le_refl _) (List.pairwise_iff_getElem.1 hs k j (by omega) hj e)
  have : j = k := by omega
  subst this
  simp [isAt, hj]
def putAt (t : List GFile) (x : GFile) (k : Nat) : List GFile := if isAt t x.path_ k = true then t.set k x else t.take k ++ (x :: t.drop k)
theorem putAt_eq {t : List GFile} {x : GFile} {k : Nat} (hk : k ≤ t.length) : putAt t x k = t.take k ++ (x :: t.drop (k + cond (isAt t x.path_ k) 1 0)) := by
 unfold putAt
 cases e : isAt t x.path_ k with
 | false => simp
 | true =>
  have hk' : k < t.length := by
   unfold isAt at e
   split at e
   ·
    rename_i y hy; exact (List.getElem?_eq_some_iff.1 hy).1
   ·
    cases e
  rw [if_pos rfl, List.set_eq_take_append_cons_drop, if_pos hk', cond_true]
theorem putAt_mem {t : List GFile} {x y : GFile} {k : Nat} (hs : Sorted t) (hp : Pos t x.path_ k) : y ∈ putAt t x k ↔ y = x ∨ (y ∈ t ∧ y.path_ ≠ x.path_) := by
 rw [putAt_eq hp.le]
 have hsplit : t = t.take k ++ t.drop k := (List.take_append_drop k t).symm
 have hlo : ∀ z ∈ t.take k, z.path_ < x.path_ := by
  intro z hz
  obtain ⟨j, hj, rfl⟩ := List.mem_iff_getElem.1 hz
  rw [List.length_take] at hj
  rw [List.getElem_take]
  exact hp.lo j (by omega) (by omega)
 have hne : ∀ {z : GFile}, z.path_ < x.path_ → z.path_ ≠ x.path_ := fun h e => s_irrefl _ (e ▸ h)
 cases e : isAt t x.path_ k with
 | false =>
  rw [cond_false, Nat.add_zero]
  have hno : ∀ z ∈ t, z.path_ ≠ x.path_ := fun z hz h => by
   have := (isAt_mem hs hp).2 ⟨z, hz, h⟩
   rw [e] at this; cases this
  simp only [List.mem_append, List.mem_cons]
  constructor
  ·
   rintro (h | h | h)
   ·
    exact .inr ⟨List.mem_of_mem_take h, hno _ (List.mem_of_mem_take h)⟩
   ·
    exact .inl h
   ·
    exact .inr ⟨List.mem_of_mem_drop h, hno _ (List.mem_of_mem_drop h)⟩
  ·
   rintro (h | ⟨h, _⟩)
   ·
    exact .inr (.inl h)
   ·
    rw [hsplit] at h
    rcases List.mem_append.1 h with h | h
    ·
     exact .inl h
    ·
     exact .inr (.inr h)
 | true =>
  rw [cond_true]
  have hk : k < t.length := by
   unfold isAt at e
   split at e
   ·
    rename_i y hy; exact (List.getElem?_eq_some_iff.1 hy).1
   ·
    cases e
  have hat : t[k].path_ = x.path_ := by
   unfold isAt at e
   rw [List.getElem?_eq_getElem hk] at e
   simpa using e
  have hhi : ∀ z ∈ t.drop (k + 1), z.path_ ≠ x.path_ := by
   intro z hz h
   obtain ⟨j, hj, rfl⟩ := List.mem_iff_getElem.1 hz
   rw [List.length_drop] at hj
   rw [List.getElem_drop] at h
   have := List.pairwise_iff_getElem.1 hs k (k + 1 + j) hk (by omega) (by omega)
   rw [hat, h] at this
   exact s_irrefl _ this
  simp only [List.mem_append, List.mem_cons]
  constructor
  ·
   rintro (h | h | h)
   ·
    exact .inr ⟨List.mem_of_mem_take h, hne (hlo _ h)⟩
   ·
    exact .inl h
   ·
    exact .inr ⟨List.mem_of_mem_drop h, hhi _ h⟩
  ·
   rintro (h | ⟨h, h'⟩)
   ·
    exact .inr (.inl h)
   ·
    rw [hsplit, List.drop_eq_getElem_cons hk] at h
    rcases List.mem_append.1 h with h | h
    ·
     exact .inl h
    ·
     rcases List.mem_cons.1 h with h | h
     ·
      exact absurd (h ▸ hat) h'
     ·
      exact .inr (.inr h)
theorem putAt_sorted {t : List GFile} {x : GFile} {k : Nat} (hs : Sorted t) (hp : Pos t x.path_ k) : Sorted (putAt t x k) := by
 have hmem := @putAt_mem t x
 rw [putAt_eq hp.le]
 have hlo : ∀ z ∈ t.take k, z.path_ < x.path_ := by
  intro z hz
  obtain ⟨j, hj, rfl⟩ := List.mem_iff_getElem.1 hz
  rw [List.length_take] at hj
  rw [List.getElem_take]
  exact hp.lo j (by omega) (by omega)
 have hhi : ∀ z ∈ t.drop (k + cond (isAt t x.path_ k) 1 0), x.path_ < z.path_ := by
  intro z hz
  obtain ⟨j, hj, rfl⟩ := List.mem_iff_getElem.1 hz
  rw [List.length_drop] at hj
  rw [List.getElem_drop]
  have h1 := hp.hi (k + cond (isAt t x.path_ k) 1 0 + j) (by omega) (by omega)
  rcases s_tri x.path_ (t[k + cond (isAt t x.path_ k) 1 0 + j]'(by omega)).path_ with h | h | h
  ·
   exact h
  ·
   exfalso
   have hm := (isAt_mem hs hp).2 ⟨_, List.getElem_mem (show k + cond (isAt t x.path_ k) 1 0 + j < t.length by omega), h.symm⟩
   have hat : (t[k]'(by omega)).path_ = x.path_ := by
    unfold isAt at hm
    rw [List.getElem?_eq_getElem (show k < t.length by omega)] at hm
    simpa using hm
   have := List.pairwise_iff_getElem.1 hs k (k + cond (isAt t x.path_ k) 1 0 + j) (by omega) (by omega) (by rw [hm, cond_true]; omega)
   rw [hat, ← h] at this
   exact s_irrefl _ this
  ·
   exact absurd h h1
 rw [Sorted, List.pairwise_append]
 refine ⟨hs.sublist (List.take_sublist k t), List.pairwise_cons.2 ⟨hhi, hs.sublist (List.drop_sublist _ t)⟩, ?_⟩
 intro a ha b hb
 rcases List.mem_cons.1 hb with h | h
 ·
  subst h; exact hlo a ha
 ·
  exact s_trans (hlo a ha) (hhi b h)
end Go.Zv.G
namespace Go.Zv.G
open Go Go.Zv Go.Proofs
set_option maxRecDepth 100000
attribute [local simp high] bsome
structure Good (t : List GFile) : Prop where
 le : t.length ≤ 12
 path : ∀ x ∈ t, okPath x.path_ = true
 sorted : Sorted t
 text : ∀ x ∈ t, txtE x.text_ = 0
theorem good_iff {t : List GFile} : chk t = 0 ↔ Good t := by
 rw [chk_iff]
 exact ⟨fun ⟨a, b, c, d⟩ => ⟨a, b, c, d⟩, fun ⟨a, b, c, d⟩ => ⟨a, b, c, d⟩⟩
theorem txt_le {s : S} (h : txtE s = 0) : s.length ≤ lim := by
 unfold txtE at h
 split at h
 ·
  unfold lim; omega
 ·
  cases h
theorem lmt_ok {α : Type} {l : List α} (h : l.length ≤ lim) : lmt l = some l := by unfold lmt; rw [if_pos h]
theorem isAt_get {t : List GFile} {p : S} {k : Nat} (h : isAt t p k = true) : ∃ hk : k < t.length, t[k].path_ = p := by
 unfold isAt at h
 split at h
 ·
  rename_i x hx
  obtain ⟨hk, he⟩ := List.getElem?_eq_some_iff.1 hx
  exact ⟨hk, by rw [he]; simpa using h⟩
 ·
  cases h
theorem f_tree_put_eq {n : Nat} {t : List GFile} {p text : S} {k : Nat} (hs : Sorted t) (hle : t.length < 1000000) (hn : t.length < n) (et : text.length ≤ lim) (hp : Pos t p k) : f_tree_put n t p text = some (putAt t ⟨p, text⟩ k) := by
 obtain ⟨k', hp', h42⟩ := f_tree_find_eq (n := n) (p := p) hs hle hn
 have e1 : k' = k := hp'.unique hp
 subst e1
 unfold f_tree_put
 rw [h42]
 simp only [bsome]
 rw [lmt_ok et]
 simp only [bsome]
 unfold putAt
 cases e : isAt t p k' with
 | true =>
  obtain ⟨hk, hat⟩ := isAt_get e
  rw [if_pos rfl, if_pos rfl, ix_nat hk]
  simp
 | false =>
  rw [if_neg (by simp), if_neg (by simp)]
  unfold insI
  rw [if_pos ⟨by omega, by have := hp.le; omega, by simp, by unfold lim; simp; omega⟩]
  simp
end Go.Zv.G
namespace Go.Zv.G
open Go Go.Zv Go.Proofs
set_option maxRecDepth 100000
attribute [local simp high] bsome
theorem hlim : 2000000 ≤ lim := by decide
def HOK (H : S → S → List GHunk) : Prop := ∀ s t, txtE s = 0 → txtE t = 0 → ∃ ps : List (Nat × Nat), Pairs (splitC 10 s) (splitC 10 t) 0 0 ps ∧ H s t = (hunksOf (splitC 10 s) (splitC 10 t) 0 0 ps).map asHunk
def diffH (n : Nat) (s t : S) : List GHunk := match f_hunk_Diff n (splitC 10 s) (splitC 10 t) with
 | some r => r.1
 | none => []
theorem hunk_Diff_eq {n : Nat} {s t : S} (hs : txtE s = 0) (ht : txtE t = 0) (hn : 3000 < n) : f_hunk_Diff n (splitC 10 s) (splitC 10 t) = some (diffH n s t, 0) := by
 have h1 := (lines_of_txt hs).1
 have h2 := (lines_of_txt ht).1
 obtain ⟨ps, p1, p2⟩ := diff_law (a := splitC 10 s) (b := splitC 10 t) (by omega) (by omega) hlim (n := n) (by omega) (lcs_check_split hs ht (by omega) hlim)
 rw [diffH, p2]
theorem diffH_ok {n : Nat} (hn : 3000 < n) : HOK (diffH n) := by
 intro s t hs ht
 have h1 := (lines_of_txt hs).1
 have h2 := (lines_of_txt ht).1
 obtain ⟨ps, p1, p2⟩ := diff_law (a := splitC 10 s) (b := splitC 10 t) (by omega) (by omega) hlim (n := n) (by omega) (lcs_check_split hs ht (by omega) hlim)
 exact ⟨ps, p1, by rw [diffH, p2]⟩
theorem patch_chg {n : Nat} {p s t : S} {q q' : S} (hs : txtE s = 0) (ht : txtE t = 0) (hn : 3000 < n) : f_tree_patch n p q s q' t = some (p, true, true, diffH n s t) := by
 unfold f_tree_patch
 rw [f_lines_Split_eq hs hn, bsome, f_lines_Split_eq ht hn, bsome, hunk_Diff_eq hs ht hn, bsome]
theorem patch_gone {n : Nat} {p s : S} {q : S} (hs : txtE s = 0) (hn : 3000 < n) : f_tree_patch_p10 n p q s = some (p, true, false, [⟨0, splitC 10 s, []⟩]) := by
 unfold f_tree_patch_p10
 rw [f_lines_Split_eq hs hn, bsome]
theorem patch_new {n : Nat} {p s : S} {q : S} (hs : txtE s = 0) (hn : 3000 < n) : f_tree_patch_p01 n p q s = some (p, false, true, [⟨0, [], splitC 10 s⟩]) := by
 unfold f_tree_patch_p01
 rw [f_lines_Split_eq hs hn, bsome]
def goneP (x : GFile) : GPatch := ⟨x.path_, true, false, [⟨0, splitC 10 x.text_, []⟩]⟩
def newP (y : GFile) : GPatch := ⟨y.path_, false, true, [⟨0, [], splitC 10 y.text_⟩]⟩
def chgP (H : S → S → List GHunk) (x y : GFile) : GPatch := ⟨y.path_, true, true, H x.text_ y.text_⟩
inductive DL (H : S → S → List GHunk) : List GFile → List GFile → List GPatch → Prop
 | nil : DL H [] [] []
 | gone {x : GFile} {a b : List GFile} {l : List GPatch} : (∀ y ∈ b, x.path_ < y.path_) → DL H a b l → DL H (x :: a) b (goneP x :: l)
 | new {y : GFile} {a b : List GFile} {l : List GPatch} : (∀ x ∈ a, y.path_ < x.path_) → DL H a b l → DL H a (y :: b) (newP y :: l)
 | same {x : GFile} {a b : List GFile} {l : List GPatch} : DL H a b l → DL H (x :: a) (x :: b) l
 | chg {x y : GFile} {a b : List GFile} {l : List GPatch} : x.path_ = y.path_ → x.text_ ≠ y.text_ → DL H a b l → DL H (x :: a) (y :: b) (chgP H x y :: l)
theorem pos_mid {pre rest : List GFile} {p : S} (h1 : ∀ x ∈ pre, x.path_ < p) (h2 : ∀ x ∈ rest, ¬ x.path_ < p) : Pos (pre ++ rest) p pre.length where
 le := by simp
 lo := fun j h hj => by rw [List.getElem_append_left hj]; exact h1 _ (List.getElem_mem _)
 hi := fun j h hj => by rw [List.getElem_append_right hj]; exact h2 _ (List.getElem_mem _)
theorem isAt_mid {pre rest : List GFile} {x : GFile} : isAt (pre ++ x :: rest) x.path_ pre.length = true := by
 unfold isAt; simp
theorem notAt_mid {pre rest : List GFile} {p : S} (h2 : ∀ x ∈ rest, x.path_ ≠ p) : isAt (pre ++ rest) p pre.length = false := by
 unfold isAt
 cases rest with
 | nil => simp
 | cons y ys => simpa using h2 y (by simp)
theorem find_mid {n : Nat} {pre rest : List GFile} {p : S} (hs : Sorted (pre ++ rest)) (hle : (pre ++ rest).length < 1000) (hn : 3000 < n) (h1 : ∀ x ∈ pre, x.path_ < p) (h2 : ∀ x ∈ rest, ¬ x.path_ < p) : f_tree_find n (pre ++ rest) p = some ((pre.length : Int), isAt (pre ++ rest) p pre.length) := by
 obtain ⟨k, hp, h42⟩ := f_tree_find_eq (n := n) (p := p) hs (by omega) (by omega)
 have e1 : k = pre.length := hp.unique (pos_mid h1 h2)
 rw [h42, e1]
theorem put_mid {n : Nat} {pre rest : List GFile} {p text : S} (hs : Sorted (pre ++ rest)) (hle : (pre ++ rest).length < 1000) (hn : 3000 < n) (h1 : ∀ x ∈ pre, x.path_ < p) (h2 : ∀ x ∈ rest, ¬ x.path_ < p) (ht : txtE text = 0) : f_tree_put n (pre ++ rest) p text = some (putAt (pre ++ rest) ⟨p, text⟩ pre.length) :=
 f_tree_put_eq hs (by omega) (by omega) (txt_le ht) (pos_mid h1 h2)
theorem lt_not {a b : S} (h : a < b) : ¬ b < a := fun h' => s_irrefl a (s_trans h h')
theorem lt_ne {a b : S} (h : a < b) : a ≠ b := fun h' => by rw [h'] at h; exact s_irrefl b h
section
variable {n : Nat} (hn : 3000 < n)
include hn
theorem change_new {pre rest : List GFile} {y : GFile} (hs : Sorted (pre ++ rest)) (hle : (pre ++ rest).length < 1000) (h1 : ∀ x ∈ pre, x.path_ < y.path_) (h2 : ∀ x ∈ rest, y.path_ < x.path_) (ht : txtE y.text_ = 0) :
  f_tree_change n (pre ++ rest) (newP y).path_ (newP y).was_ (newP y).stays_ (newP y).hunks_ = some (pre ++ y :: rest, 0) := by
 show f_tree_change n (pre ++ rest) y.path_ false true [⟨0, [], splitC 10 y.text_⟩] = _
 have h3 : ∀ x ∈ rest, ¬ x.path_ < y.path_ := fun x hx => lt_not (h2 x hx)
 have h4 := notAt_mid (pre := pre) (rest := rest) (p := y.path_) fun x hx => (lt_ne (h2 x hx)).symm
 unfold f_tree_change
 rw [find_mid hs hle hn h1 h3, bsome, h4, if_neg (by simp), if_neg (by simp), if_pos (by simp), ix_zero (by simp), bsome]
 show ((f_lines_Join n (splitC 10 y.text_)).bind _) = _
 rw [f_lines_Join_split ht (by omega) hlim, bsome, if_neg (by simp)]
 show ((f_tree_put n (pre ++ rest) y.path_ y.text_).bind _) = _
 rw [put_mid hs hle hn h1 h3 ht, bsome]
 unfold putAt
 rw [h4]
 simp
theorem change_gone {pre rest : List GFile} {x : GFile} (hs : Sorted (pre ++ x :: rest)) (hle : (pre ++ x :: rest).length < 1000) (h1 : ∀ y ∈ pre, y.path_ < x.path_) (h2 : ∀ y ∈ rest, x.path_ < y.path_) (ht : txtE x.text_ = 0) :
  f_tree_change n (pre ++ x :: rest) (goneP x).path_ (goneP x).was_ (goneP x).stays_ (goneP x).hunks_ = some (pre ++ rest, 0) := by
 show f_tree_change n (pre ++ x :: rest) x.path_ true false [⟨0, splitC 10 x.text_, []⟩] = _
 have h3 : ∀ y ∈ x :: rest, ¬ y.path_ < x.path_ := fun y hy => by
  rcases List.mem_cons.1 hy with rfl | hy
  ·
   exact s_irrefl _
  ·
   exact lt_not (h2 y hy)
 unfold f_tree_change
 rw [find_mid hs hle hn h1 h3, bsome, isAt_mid, if_neg (by simp), if_neg (by simp), if_neg (by simp), ix_nat (by simp), bsome]
 have e : (pre ++ x :: rest)[pre.length]'(by simp) = x := by simp
 have hlen := (lines_of_txt ht).1
 rw [e, f_lines_Split_eq ht hn, bsome, if_pos (by simp), ix_zero (by simp), bsome]
 show ((f_slices_Equal_string n (splitC 10 x.text_) (splitC 10 x.text_)).bind _) = _
 have hle' : pre.length + (rest.length + 1) < 1000 := by simpa using hle
 rw [f_slices_Equal_string_eq (by omega) (by omega), bsome, if_neg (by simp), rng_succ (by omega), bsome]
 unfold delI
 rw [if_pos ⟨by omega, by simp; omega, by simp; omega, by unfold lim; simp; omega⟩, bsome]
 simp [List.drop_append]
theorem change_chg {H : S → S → List GHunk} (hH : HOK H) {pre rest : List GFile} {x y : GFile} (hs : Sorted (pre ++ x :: rest)) (hle : (pre ++ x :: rest).length < 1000) (h1 : ∀ y ∈ pre, y.path_ < x.path_) (h2 : ∀ y ∈ rest, x.path_ < y.path_) (hx : txtE x.text_ = 0) (hy : txtE y.text_ = 0) (hp : x.path_ = y.path_) :
  f_tree_change n (pre ++ x :: rest) (chgP H x y).path_ (chgP H x y).was_ (chgP H x y).stays_ (chgP H x y).hunks_ = some (pre ++ y :: rest, 0) := by
 show f_tree_change n (pre ++ x :: rest) y.path_ true true (H x.text_ y.text_) = _
 rw [← hp]
 have h3 : ∀ y ∈ x :: rest, ¬ y.path_ < x.path_ := fun y hy => by
  rcases List.mem_cons.1 hy with rfl | hy
  ·
   exact s_irrefl _
  ·
   exact lt_not (h2 y hy)
 have e : (pre ++ x :: rest)[pre.length]'(by simp) = x := by simp
 obtain ⟨ps, p1, p2⟩ := hH _ _ hx hy
 unfold f_tree_change
 rw [find_mid hs hle hn h1 h3, bsome, isAt_mid, if_neg (by simp), if_neg (by simp), if_neg (by simp), ix_nat (by simp), bsome, e, f_lines_Split_eq hx hn, bsome, if_neg (by simp), p2]
 show ((f_apply_Exact n (splitC 10 x.text_) _).bind _) = _
 rw [exact_law hx hy hn hlim p1, bsome, if_neg (by simp)]
 show ((f_lines_Join n (splitC 10 y.text_)).bind _) = _
 rw [f_lines_Join_split hy (by omega) hlim, bsome]
 show ((f_tree_put n (pre ++ x :: rest) x.path_ y.text_).bind _) = _
 rw [put_mid hs hle hn h1 h3 hy, bsome]
 unfold putAt
 rw [show isAt (pre ++ x :: rest) (⟨x.path_, y.text_⟩ : GFile).path_ pre.length = true from isAt_mid, if_pos rfl]
 have : (⟨x.path_, y.text_⟩ : GFile) = y := by rw [hp]
 rw [this]
 simp
end
end Go.Zv.G
namespace Go.Zv.G
open Go Go.Zv Go.Proofs
set_option maxRecDepth 100000
attribute [local simp high] bsome
theorem bytes_Equal_eq {n : Nat} (s t : S) : f_bytes_Equal n s t = some (s == t) := by
 unfold f_bytes_Equal; rfl
theorem cut1 {α : Type} {x : α} {l : List α} : cutI (x :: l) 1 ((x :: l).length : Int) = some l := by
 have := cutI_end (l := x :: l) (a := 1) (by simp)
 simpa using this
theorem ixc {α : Type} {x : α} {l : List α} : ix (x :: l) 0 = some x := ix_zero (by simp)
theorem le_iff {a b : S} : (Op.bytesLess a b || a == b) = !decide (b < a) := by
 rw [less_eq]
 rcases s_tri a b with h | h | h
 ·
  simp [h, lt_not h]
 ·
  subst h; simp [s_irrefl]
 ·
  simp [h, lt_not h, (lt_ne h).symm]
theorem diff19 {n : Nat} (hn : 3000 < n) : ∀ (m : Nat) (a b : List GFile) (fuel : Nat) (acc : List GPatch), a.length + b.length = m → m < fuel → m + acc.length < 1000 → Sorted a → Sorted b → (∀ x ∈ a, txtE x.text_ = 0) → (∀ x ∈ b, txtE x.text_ = 0) →
  ∃ l, DL (diffH n) a b l ∧ f_tree_Diff_L19 n fuel a b acc = some (acc ++ l, 0) := by
 intro m
 induction m using Nat.strongRecOn with
 | _ m ih =>
 intro a b fuel acc hm hf hacc ha hb hta htb
 obtain ⟨fuel, rfl⟩ : ∃ k, fuel = k + 1 := ⟨fuel - 1, by omega⟩
 have hnd : ∀ p : GPatch, need (acc.length + 1 ≤ lim) = some () := fun _ => need_ok (by have := hlim; omega)
 rw [f_tree_Diff_L19.eq_2, rng_ok (by omega) (by omega), bsome]
 unfold f_tree_Diff_J36 f_tree_Diff_J36b f_tree_Diff_J39 f_tree_Diff_J39b f_tree_Diff_J82 f_tree_Diff_J82b
 cases a with
 | nil =>
  cases b with
  | nil => exact ⟨[], .nil, by rw [if_neg (by simp)]; simp⟩
  | cons y b =>
   have hb' := List.pairwise_cons.1 hb
   have hy := htb y (by simp)
   simp only [List.length_cons, List.length_nil] at hm
   obtain ⟨l, h1, h2⟩ := ih b.length (by omega) [] b fuel (acc ++ [newP y]) (by simp) (by omega) (by simp; omega) List.Pairwise.nil hb'.2 (fun x hx => by cases hx) (fun x hx => htb x (by simp [hx]))
   refine ⟨newP y :: l, .new (fun x hx => by cases hx) h1, ?_⟩
   rw [if_pos (by first | (simp; done) | (simp; omega)), if_neg (by first | (simp; done) | (simp; omega)), if_neg (by simp), if_pos (by simp), ixc, bsome, cut1, bsome, patch_new hy hn, bsome, hnd (newP y), bsome]
   refine Eq.trans h2 ?_
   simp
 | cons x a =>
  have ha' := List.pairwise_cons.1 ha
  have hx := hta x (by simp)
  cases b with
  | nil =>
   simp only [List.length_cons, List.length_nil] at hm
   obtain ⟨l, h1, h2⟩ := ih a.length (by omega) a [] fuel (acc ++ [goneP x]) (by simp) (by omega) (by simp; omega) ha'.2 List.Pairwise.nil (fun x hx => hta x (by simp [hx])) (fun x hx => by cases hx)
   refine ⟨goneP x :: l, .gone (fun x hx => by cases hx) h1, ?_⟩
   rw [if_pos (by first | (simp; done) | (simp; omega)), if_pos (by simp), ixc, bsome, if_neg (by first | (simp; done) | (simp; omega)), if_neg (by simp), cut1, bsome, patch_gone hx hn, bsome, hnd (goneP x), bsome]
   refine Eq.trans h2 ?_
   simp
  | cons y b =>
   have hb' := List.pairwise_cons.1 hb
   have hy := htb y (by simp)
   simp only [List.length_cons] at hm
   rw [if_pos (by first | (simp; done) | (simp; omega)), if_neg (by first | (simp; done) | (simp; omega)), if_pos (by first | (simp; done) | (simp; omega)), ixc, bsome, ixc, bsome, le_iff]
   rcases s_tri x.path_ y.path_ with h | h | h
   ·
    obtain ⟨l, h1, h2⟩ := ih (a.length + (b.length + 1)) (by omega) a (y :: b) fuel (acc ++ [goneP x]) (by simp) (by omega) (by simp; omega) ha'.2 hb (fun x hx => hta x (by simp [hx])) htb
    refine ⟨goneP x :: l, .gone (fun z hz => ?_) h1, ?_⟩
    ·
     rcases List.mem_cons.1 hz with rfl | hz
     ·
      exact h
     ·
      exact s_trans h (hb'.1 z hz)
    rw [if_pos (by simp [lt_not h]), if_neg (by first | (simp; done) | (simp; omega)), if_pos (by first | (simp; done) | (simp; omega)), bsome, bsome, le_iff, if_neg (by simp [h]), cut1, bsome, patch_gone hx hn, bsome, hnd (goneP x), bsome]
    refine Eq.trans h2 ?_
    simp
   ·
    rw [if_pos (by simp [h, s_irrefl]), if_neg (by first | (simp; done) | (simp; omega)), if_pos (by first | (simp; done) | (simp; omega)), bsome, bsome, le_iff, if_pos (by simp [h, s_irrefl]), cut1, bsome, cut1, bsome, bytes_Equal_eq, bsome]
    by_cases ht : x.text_ = y.text_
    ·
     have e : x = y := by cases x; cases y; simp_all
     subst e
     obtain ⟨l, h1, h2⟩ := ih (a.length + b.length) (by omega) a b fuel acc rfl (by omega) (by omega) ha'.2 hb'.2 (fun x hx => hta x (by simp [hx])) (fun x hx => htb x (by simp [hx]))
     refine ⟨l, .same h1, ?_⟩
     rw [if_neg (by simp)]
     exact h2
    ·
     obtain ⟨l, h1, h2⟩ := ih (a.length + b.length) (by omega) a b fuel (acc ++ [chgP (diffH n) x y]) rfl (by omega) (by simp; omega) ha'.2 hb'.2 (fun x hx => hta x (by simp [hx])) (fun x hx => htb x (by simp [hx]))
     refine ⟨chgP (diffH n) x y :: l, .chg h ht h1, ?_⟩
     rw [if_pos (by simp [ht]), patch_chg hx hy hn, bsome, hnd (chgP (diffH n) x y), bsome]
     refine Eq.trans h2 ?_
     simp
   ·
    obtain ⟨l, h1, h2⟩ := ih (a.length + 1 + b.length) (by omega) (x :: a) b fuel (acc ++ [newP y]) (by simp) (by omega) (by simp; omega) ha hb'.2 hta (fun x hx => htb x (by simp [hx]))
    refine ⟨newP y :: l, .new (fun z hz => ?_) h1, ?_⟩
    ·
     rcases List.mem_cons.1 hz with rfl | hz
     ·
      exact h
     ·
      exact s_trans h (ha'.1 z hz)
    rw [if_neg (by simp [h]), if_neg (by first | (simp; done) | (simp; omega)), if_pos (by first | (simp; done) | (simp; omega)), bsome, bsome, le_iff, if_pos (by simp [lt_not h]), cut1, bsome, patch_new hy hn, bsome, hnd (newP y), bsome]
    refine Eq.trans h2 ?_
    simp
theorem f_tree_Diff_good {n : Nat} (hn : 4000 < n) {a b : List GFile} (ha : Good a) (hb : Good b) : ∃ l, DL (diffH n) a b l ∧ f_tree_Diff n a b = some (l, 0) := by
 have h1 := ha.le
 have h2 := hb.le
 obtain ⟨l, h3, h4⟩ := diff19 (n := n) (by omega) (a.length + b.length) a b n [] rfl (by omega) (by simp; omega) ha.sorted hb.sorted ha.text hb.text
 refine ⟨l, h3, ?_⟩
 unfold f_tree_Diff
 rw [f_tree_Check_eq (by omega), good_iff.2 ha, bsome, if_neg (by simp), f_tree_Check_eq (by omega), good_iff.2 hb, bsome, if_neg (by simp), h4]
 rfl
inductive App (n : Nat) : List GFile → List GPatch → List GFile → Prop
 | nil (t : List GFile) : App n t [] t
 | cons {t t1 t2 : List GFile} {p : GPatch} {l : List GPatch} : f_tree_change n t p.path_ p.was_ p.stays_ p.hunks_ = some (t1, 0) → App n t1 l t2 → App n t (p :: l) t2
theorem App.append {n : Nat} {t t1 t2 : List GFile} {l l' : List GPatch} (h : App n t l t1) (h' : App n t1 l' t2) : App n t (l ++ l') t2 := by
 induction h with
 | nil => exact h'
 | cons h1 _ ih => exact .cons h1 (ih h')
theorem apply23 {n : Nat} {L : List GPatch} (hL : L.length < 1000) : ∀ (l : List GPatch) (pre : List GPatch) (t t' : List GFile) (fuel : Nat), L = pre ++ l → App n t l t' → l.length < fuel → t'.length ≤ 12 → f_tree_Apply_L23 n L fuel t (pre.length : Int) = some (t', 0) := by
 intro l
 induction l with
 | nil =>
  intro pre t t' fuel hq ha hf ht
  obtain ⟨fuel, rfl⟩ : ∃ k, fuel = k + 1 := ⟨fuel - 1, by omega⟩
  cases ha
  rw [f_tree_Apply_L23.eq_2, if_neg (by rw [hq]; simp), if_neg (by simp; omega)]
 | cons p l ih =>
  intro pre t t' fuel hq ha hf ht
  obtain ⟨fuel, rfl⟩ : ∃ k, fuel = k + 1 := ⟨fuel - 1, by omega⟩
  have hp : pre.length + (l.length + 1) = L.length := by rw [hq]; simp
  simp only [List.length_cons] at hf
  have hget : L[pre.length]? = some p := by rw [hq]; simp
  cases ha with
  | cons h1 h2 =>
   have := ih (pre ++ [p]) _ t' fuel (by simp [hq]) h2 (by omega) ht
   rw [f_tree_Apply_L23.eq_2, if_pos (by simp; omega), ix_get hget, bsome, h1, bsome, if_neg (by simp), rng_succ (by omega), bsome]
   rw [List.length_append, List.length_singleton] at this
   exact this
theorem f_tree_Apply_app {n : Nat} (hn : 4000 < n) {a b : List GFile} {l : List GPatch} (ha : Good a) (hb : b.length ≤ 12) (hl : l.length < 1000) (hck : f_norm_Check n l = some 0) (h : App n a l b) : f_tree_Apply n a l = some (b, 0) := by
 have h1 := ha.le
 unfold f_tree_Apply
 rw [f_tree_Check_eq (by omega), good_iff.2 ha, bsome, if_neg (by simp), hck, bsome, if_neg (by simp), f_tree_twin_eq a (by omega) (fun x hx => txt_le (ha.text x hx)) (by omega), bsome]
 exact apply23 hl l [] a b n rfl h (by omega) hb
theorem sorted_mid {pre rest : List GFile} {x : GFile} (h : Sorted (pre ++ x :: rest)) : (∀ y ∈ pre, y.path_ < x.path_) ∧ (∀ y ∈ rest, x.path_ < y.path_) ∧ Sorted (pre ++ rest) := by
 rw [Sorted, List.pairwise_append, List.pairwise_cons] at h
 obtain ⟨h1, ⟨h2, h3⟩, h4⟩ := h
 refine ⟨fun y hy => h4 y hy x (by simp), h2, ?_⟩
 rw [Sorted, List.pairwise_append]
 exact ⟨h1, h3, fun y hy z hz => h4 y hy z (by simp [hz])⟩
section
variable {n : Nat} (hn : 3000 < n) {H : S → S → List GHunk} (hH : HOK H)
include hn hH
end
end Go.Zv.G
namespace Go.Zv.G
open Go Go.Zv Go.Proofs
set_option maxRecDepth 100000
attribute [local simp high] bsome
def plainB (l : List S) : Bool := decide (l.length ≤ 60) && !(l.any badLn)
def validH (h : GHunk) : Bool := decide (0 ≤ h.at_) && (decide (h.at_ ≤ 60) && (plainB h.old_ && (plainB h.new_ && decide (0 < h.old_.length + h.new_.length))))
def okHs : Int → List GHunk → Bool
 | _, [] => true
 | e, h :: hs => validH h && (decide (e ≤ h.at_) && okHs (h.at_ + (h.old_.length : Int) + 1) hs)
def hckE (l : List GHunk) : Int := if 40 < l.length then 4 else if okHs 0 l = true then 0 else 8
def pvalid (p : GPatch) : Bool := okPath p.path_ && ((p.was_ || p.stays_) && (hckE p.hunks_ == 0 && ((p.was_ && p.stays_) || (match p.hunks_ with
 | [h] => h.at_ == 0 && ((p.was_ || h.old_.length == 0) && (p.stays_ || h.new_.length == 0))
 | _ => false))))
def dupB : List S → List S → Bool
 | _, [] => false
 | pre, p :: ps => pre.contains p || dupB (pre ++ [p]) ps
def nckE (l : List GPatch) : Int := if 24 < l.length then 4 else if dupB [] (l.map GPatch.path_) = true then 14 else if l.all pvalid = true then 0 else 8
theorem f_hunk_plain_eq {n : Nat} (hn : 100 < n) (l : List S) : f_hunk_plain n l = some (plainB l) := by
 unfold f_hunk_plain plainB
 by_cases h : l.length ≤ 60
 ·
  obtain ⟨r, h3, h4⟩ := plainL5_eq n l (by omega) n 0 (by omega) (by omega)
  rw [show ((0 : Nat) : Int) = 0 from rfl] at h3
  unfold f_slices_ContainsFunc_string_by_hunk_plain_1 f_slices_IndexFunc_string_by_hunk_plain_1
  rw [if_pos (by simp; omega), h3, bsome, bsome, h4, List.drop_zero]
  simp [h]
 ·
  rw [if_neg (by simp; omega)]; simp [h]
theorem f_hunk_valid_eq {n : Nat} (hn : 100 < n) (h : GHunk) : f_hunk_valid n h.at_ h.old_ h.new_ = some (validH h) := by
 unfold f_hunk_valid validH
 rw [f_hunk_plain_eq hn, bsome, f_hunk_plain_eq hn, bsome]
 by_cases h1 : 0 ≤ h.at_
 ·
  rw [if_pos (by simpa using h1)]
  by_cases h2 : h.at_ ≤ 60
  ·
   rw [if_pos (by simpa using h2)]
   cases e1 : plainB h.old_ with
   | false => simp
   | true =>
    cases e2 : plainB h.new_ with
    | false => simp
    | true =>
     have l1 : h.old_.length ≤ 60 := by unfold plainB at e1; simp at e1; exact e1.1
     have l2 : h.new_.length ≤ 60 := by unfold plainB at e2; simp at e2; exact e2.1
     rw [if_pos rfl, if_pos rfl, rng_ok (by omega) (by omega), bsome]
     simp [h1, h2]
     omega
  ·
   rw [if_neg (by simpa using h2)]; simp [h2]
 ·
  rw [if_neg (by simpa using h1)]; simp [h1]
theorem validH_at {h : GHunk} (e : validH h = true) : 0 ≤ h.at_ ∧ h.at_ ≤ 60 ∧ h.old_.length ≤ 60 ∧ h.new_.length ≤ 60 := by
 unfold validH plainB at e
 simp at e
 exact ⟨e.1, e.2.1, e.2.2.1.1, e.2.2.2.1.1⟩
theorem hcheck9 {n : Nat} (hn : 100 < n) {l : List GHunk} (hl : l.length ≤ 40) : ∀ (m k : Nat) (e : Int) (fuel : Nat), l.length - k = m → k ≤ l.length → m < fuel → f_hunk_Check_L9 n l fuel e (k : Int) = some (if okHs e (l.drop k) = true then 0 else 8) := by
 intro m
 induction m with
 | zero =>
  intro k e fuel hm hk hf
  obtain ⟨fuel, rfl⟩ : ∃ k, fuel = k + 1 := ⟨fuel - 1, by omega⟩
  rw [f_hunk_Check_L9.eq_2, if_neg (by simp; omega), List.drop_of_length_le (by omega)]
  rfl
 | succ m ih =>
  intro k e fuel hm hk hf
  obtain ⟨fuel, rfl⟩ : ∃ k, fuel = k + 1 := ⟨fuel - 1, by omega⟩
  have h1 : k < l.length := by omega
  rw [f_hunk_Check_L9.eq_2, if_pos (by simp; omega), ix_nat h1, bsome, f_hunk_valid_eq hn, bsome, List.drop_eq_getElem_cons h1, okHs]
  cases e1 : validH l[k] with
  | false => simp
  | true =>
   obtain ⟨v1, v2, v3, v4⟩ := validH_at e1
   rw [if_neg (by simp)]
   by_cases h2 : l[k].at_ < e
   ·
    rw [if_pos (by simpa using h2)]
    have : ¬ e ≤ l[k].at_ := by omega
    simp [this]
   ·
    rw [if_neg (by simpa using h2), rng_ok (by omega) (by omega), bsome, rng_ok (by omega) (by omega), bsome, rng_succ (by omega), bsome]
    refine Eq.trans (ih (k + 1) _ fuel (by omega) (by omega) (by omega)) ?_
    have : e ≤ l[k].at_ := by omega
    simp [this]
theorem f_hunk_Check_eq {n : Nat} (hn : 100 < n) (l : List GHunk) : f_hunk_Check n l = some (hckE l) := by
 unfold f_hunk_Check hckE
 by_cases h : 40 < l.length
 ·
  rw [if_pos (by simp; omega), if_pos h]
 ·
  rw [if_neg (by simp; omega), if_neg h]
  exact hcheck9 hn (by omega) l.length 0 0 n rfl (by omega) (by omega)
theorem len0 {α : Type} (l : List α) : ((l.length : Int) == 0) = (l.length == 0) := by
 rw [Bool.eq_iff_iff]; simp
theorem f_norm_valid_eq {n : Nat} (hn : 100 < n) (p : GPatch) : f_norm_valid n p.path_ p.was_ p.stays_ p.hunks_ = some (pvalid p) := by
 have hJ3 : f_norm_valid_J3 p.was_ p.stays_ p.hunks_ = some (match p.hunks_ with
   | [h] => h.at_ == 0 && ((p.was_ || h.old_.length == 0) && (p.stays_ || h.new_.length == 0))
   | _ => false) := by
  unfold f_norm_valid_J3
  cases hh : p.hunks_ with
  | nil => simp
  | cons h t =>
   cases t with
   | cons h2 t2 =>
    have : (((h :: h2 :: t2).length : Int) != 1) = true := by simp; omega
    rw [if_pos this]
   | nil =>
    rw [if_neg (by simp), ixc, bsome]
    by_cases ha : h.at_ = 0
    ·
     rw [if_neg (by simp [ha])]
     rw [len0, len0]
     show _ = some (h.at_ == 0 && ((p.was_ || h.old_.length == 0) && (p.stays_ || h.new_.length == 0)))
     rw [ha]
     generalize (h.old_.length == 0) = b1
     generalize (h.new_.length == 0) = b2
     cases p.was_ <;> cases p.stays_ <;> cases b1 <;> cases b2 <;> simp
    ·
     rw [if_pos (by simp [ha])]; simp [ha]
 unfold f_norm_valid pvalid
 rw [f_norm_path_eq _ hn, bsome, f_hunk_Check_eq hn, bsome]
 unfold f_norm_valid_J2
 rw [hJ3]
 cases okPath p.path_ with
 | false => simp
 | true =>
  rw [if_neg (by simp)]
  by_cases hc : hckE p.hunks_ = 0
  ·
   rw [hc]
   cases p.was_ <;> cases p.stays_ <;> simp
  ·
   have hc' : (hckE p.hunks_ == 0) = false := by simpa using hc
   cases p.was_ <;> cases p.stays_ <;> simp [hc]
theorem f_norm_Check_2_eq {n : Nat} (hn : 100 < n) (p : GPatch) : f_norm_Check_2 n p.path_ p.was_ p.stays_ p.hunks_ = some (!pvalid p) := by
 unfold f_norm_Check_2
 rw [f_norm_valid_eq hn, bsome]
theorem check2_L5 {n : Nat} (hn : 100 < n) (l : List GPatch) (hl : l.length < 1000000) : ∀ (m i : Nat), i ≤ l.length → l.length < m + i → ∃ r : Int, f_slices_IndexFunc_Patch_by_norm_Check_2_L5 n l m (i : Int) = some r ∧ decide (r ≥ 0) = !((l.drop i).all pvalid) := by
 intro m
 induction m with
 | zero => intro i h1 h2; omega
 | succ m ih =>
  intro i h1 h2
  rw [f_slices_IndexFunc_Patch_by_norm_Check_2_L5.eq_2]
  by_cases hi : i < l.length
  ·
   rw [if_pos (by simpa using hi), ix_nat hi, bsome, f_norm_Check_2_eq hn, bsome, List.drop_eq_getElem_cons hi, List.all_cons]
   cases e : pvalid l[i] with
   | false => exact ⟨i, by simp, by simp⟩
   | true =>
    obtain ⟨r, h3, h4⟩ := ih (i + 1) (by omega) (by omega)
    refine ⟨r, ?_, by simpa using h4⟩
    rw [if_neg (by simp), rng_succ (by omega), bsome]
    exact h3
  ·
   rw [if_neg (by simpa using hi)]
   have : i = l.length := by omega
   subst this
   exact ⟨-1, rfl, by simp⟩
theorem check1_L5 {n : Nat} (l : List GPatch) (hl : l.length < 1000000) (q : GPatch) : ∀ (m i : Nat), i ≤ l.length → l.length < m + i → ∃ r : Int, f_slices_IndexFunc_Patch_by_norm_Check_1_L5 n l q.path_ q.was_ q.stays_ q.hunks_ m (i : Int) = some r ∧ decide (r ≥ 0) = ((l.drop i).map GPatch.path_).contains q.path_ := by
 intro m
 induction m with
 | zero => intro i h1 h2; omega
 | succ m ih =>
  intro i h1 h2
  rw [f_slices_IndexFunc_Patch_by_norm_Check_1_L5.eq_2]
  by_cases hi : i < l.length
  ·
   rw [if_pos (by simpa using hi), ix_nat hi, bsome, f_norm_Check_1, bsome, List.drop_eq_getElem_cons hi, List.map_cons, List.contains_cons]
   cases e : (l[i].path_ == q.path_) with
   | true =>
    have e' : (q.path_ == l[i].path_) = true := by simpa using (by simpa using e : l[i].path_ = q.path_).symm
    exact ⟨i, by simp, by rw [e']; simp⟩
   | false =>
    have e' : (q.path_ == l[i].path_) = false := by
     have : l[i].path_ ≠ q.path_ := by simpa using e
     simpa using this.symm
    obtain ⟨r, h3, h4⟩ := ih (i + 1) (by omega) (by omega)
    refine ⟨r, ?_, by rw [e', Bool.false_or]; exact h4⟩
    rw [if_neg (by simp), rng_succ (by omega), bsome]
    exact h3
  ·
   rw [if_neg (by simpa using hi)]
   have : i = l.length := by omega
   subst this
   exact ⟨-1, rfl, by simp⟩
theorem f_norm_Check_eq {n : Nat} (hn : 100 < n) (l : List GPatch) : f_norm_Check n l = some (nckE l) := by
 unfold f_norm_Check nckE
 by_cases h : 24 < l.length
 ·
  rw [if_pos (by simp; omega), if_pos h]
 rw [if_neg (by simp; omega), if_neg h]
 have key : ∀ (m k fuel : Nat), l.length - k = m → k ≤ l.length → m < fuel → f_norm_Check_L8 n l fuel (k : Int) = some (if dupB ((l.take k).map GPatch.path_) ((l.drop k).map GPatch.path_) = true then 14 else if l.all pvalid = true then 0 else 8) := by
  intro m
  induction m with
  | zero =>
   intro k fuel hm hk hf
   obtain ⟨fuel, rfl⟩ : ∃ k, fuel = k + 1 := ⟨fuel - 1, by omega⟩
   obtain ⟨r, h3, h4⟩ := check2_L5 hn l (by omega) n 0 (by omega) (by omega)
   rw [show ((0 : Nat) : Int) = 0 from rfl] at h3
   rw [f_norm_Check_L8.eq_2, if_neg (by simp; omega), List.drop_of_length_le (by omega)]
   unfold f_slices_ContainsFunc_Patch_by_norm_Check_2 f_slices_IndexFunc_Patch_by_norm_Check_2
   rw [h3, bsome, bsome, h4, List.drop_zero]
   cases l.all pvalid <;> simp [dupB]
  | succ m ih =>
   intro k fuel hm hk hf
   obtain ⟨fuel, rfl⟩ : ∃ k, fuel = k + 1 := ⟨fuel - 1, by omega⟩
   have h1 : k < l.length := by omega
   obtain ⟨r, h3, h4⟩ := check1_L5 (n := n) (l.take k) (by simp; omega) l[k] n 0 (by omega) (by simp; omega)
   rw [show ((0 : Nat) : Int) = 0 from rfl] at h3
   rw [f_norm_Check_L8.eq_2, if_pos (by simp; omega), ix_nat h1, bsome, cutI_front (by omega), bsome]
   unfold f_slices_ContainsFunc_Patch_by_norm_Check_1 f_slices_IndexFunc_Patch_by_norm_Check_1
   rw [h3, bsome, bsome, h4, List.drop_zero, List.drop_eq_getElem_cons h1, List.map_cons, dupB]
   cases e : ((l.take k).map GPatch.path_).contains l[k].path_ with
   | true => simp
   | false =>
    rw [if_neg (by simp), rng_succ (by omega), bsome]
    refine Eq.trans (ih (k + 1) fuel (by omega) (by omega) (by omega)) ?_
    rw [List.take_succ_eq_append_getElem h1, List.map_append]
    rfl
 have := key l.length 0 n rfl (by omega) (by omega)
 simpa using this
end Go.Zv.G
namespace Go.Zv.G
open Go Go.Zv Go.Proofs
set_option maxRecDepth 100000
attribute [local simp high] bsome
def cutF : List S → List S → List S × List S
 | x :: a, y :: b => if x = y then cutF a b else (x :: a, y :: b)
 | a, b => (a, b)
def cutB (a b : List S) : List S × List S := ((cutF a.reverse b.reverse).1.reverse, (cutF a.reverse b.reverse).2.reverse)
def trimL (a b : List S) : List S × List S := cutB (cutF a b).1 (cutF a b).2
theorem cutF_nil_l (b : List S) : cutF [] b = ([], b) := by cases b <;> rfl
theorem cutF_nil_r (a : List S) : cutF a [] = (a, []) := by cases a <;> rfl
theorem cutF_cons (x y : S) (a b : List S) : cutF (x :: a) (y :: b) = if x = y then cutF a b else (x :: a, y :: b) := rfl
theorem cutF_len : ∀ (a b : List S), (cutF a b).1.length ≤ a.length ∧ (cutF a b).2.length ≤ b.length
 | [], b => by rw [cutF_nil_l]; simp
 | x :: a, [] => by rw [cutF_nil_r]; simp
 | x :: a, y :: b => by
  rw [cutF_cons]
  have := cutF_len a b
  split
  ·
   simp only [List.length_cons]; omega
  ·
   simp
theorem cutB_len (a b : List S) : (cutB a b).1.length ≤ a.length ∧ (cutB a b).2.length ≤ b.length := by
 have := cutF_len a.reverse b.reverse
 simpa [cutB] using this
theorem trimL_len (a b : List S) : (trimL a b).1.length ≤ a.length ∧ (trimL a b).2.length ≤ b.length := by
 have h1 := cutF_len a b
 have h2 := cutB_len (cutF a b).1 (cutF a b).2
 unfold trimL
 omega
theorem cutB_nil_l (b : List S) : cutB [] b = ([], b) := by simp [cutB, cutF_nil_l]
theorem cutB_nil_r (a : List S) : cutB a [] = (a, []) := by simp [cutB, cutF_nil_r]
theorem cutB_snoc (x y : S) (a b : List S) : cutB (a ++ [x]) (b ++ [y]) = if x = y then cutB a b else (a ++ [x], b ++ [y]) := by
 unfold cutB
 rw [List.reverse_append, List.reverse_append]
 show ((cutF (x :: a.reverse) (y :: b.reverse)).1.reverse, (cutF (x :: a.reverse) (y :: b.reverse)).2.reverse) = _
 rw [cutF_cons]
 split <;> simp
theorem snoc_of {a : List S} (h : a ≠ []) : ∃ a' x, a = a' ++ [x] := ⟨a.dropLast, a.getLast h, (List.dropLast_concat_getLast h).symm⟩
theorem ix_snoc {a : List S} {x : S} {i : Int} (h : i = (a.length : Int)) : ix (a ++ [x]) i = some x := by
 subst h
 exact ix_get (by simp)
theorem cut_snoc {a : List S} {x : S} {i : Int} (h : i = (a.length : Int)) : cutI (a ++ [x]) 0 i = some a := by
 subst h
 rw [cutI_front (by simp)]
 simp
theorem trim27 : ∀ (m : Nat) (a b : List S) (fuel : Nat), a.length = m → m < fuel → a.length < 1000000 → b.length < 1000000 → f_norm_trim_L27 fuel a b = some (cutB a b) := by
 intro m
 induction m with
 | zero =>
  intro a b fuel hm hf ha hb
  obtain ⟨fuel, rfl⟩ : ∃ k, fuel = k + 1 := ⟨fuel - 1, by omega⟩
  obtain rfl := List.eq_nil_of_length_eq_zero hm
  have := hlim
  rw [f_norm_trim_L27.eq_2, if_neg (by simp), lmt_ok (by simp), bsome, lmt_ok (by omega), bsome, cutB_nil_l]
 | succ m ih =>
  intro a b fuel hm hf ha hb
  obtain ⟨fuel, rfl⟩ : ∃ k, fuel = k + 1 := ⟨fuel - 1, by omega⟩
  have hl := hlim
  by_cases hb0 : b = []
  ·
   subst hb0
   rw [f_norm_trim_L27.eq_2, if_neg (by simp), lmt_ok (by omega), bsome, lmt_ok (by simp), bsome, cutB_nil_r]
  obtain ⟨b, y, rfl⟩ := snoc_of hb0
  obtain ⟨a, x, rfl⟩ := snoc_of (a := a) (by intro e; rw [e] at hm; simp at hm)
  simp only [List.length_append, List.length_singleton] at hm ha hb
  have ea : (((a ++ [x]).length : Nat) : Int) - 1 = (a.length : Int) := by simp
  have eb : (((b ++ [y]).length : Nat) : Int) - 1 = (b.length : Int) := by simp
  rw [f_norm_trim_L27.eq_2, if_pos (by simp), ea, eb, rng_ok (by omega) (by omega), bsome, ix_snoc rfl, bsome, rng_ok (by omega) (by omega), bsome, ix_snoc rfl, bsome, cutB_snoc]
  by_cases h : x = y
  ·
   rw [if_pos (by simp [h]), bsome, cut_snoc rfl, bsome, bsome, cut_snoc rfl, bsome, if_pos h]
   exact ih a b fuel (by omega) (by omega) (by omega) (by omega)
  ·
   rw [if_neg (by simp [h]), lmt_ok (by simp; omega), bsome, lmt_ok (by simp; omega), bsome, if_neg h]
theorem trim76 (a b : List S) (fuel : Nat) (hf : 0 < fuel) (h : a = [] ∨ b = []) (ha : a.length < 1000000) (hb : b.length < 1000000) : f_norm_trim_L76 fuel a b = some (cutB a b) := by
 obtain ⟨fuel, rfl⟩ : ∃ k, fuel = k + 1 := ⟨fuel - 1, by omega⟩
 have hl := hlim
 have e : cutB a b = (a, b) := by
  rcases h with rfl | rfl
  ·
   exact cutB_nil_l b
  ·
   exact cutB_nil_r a
 rw [f_norm_trim_L76.eq_2, if_neg (by rcases h with rfl | rfl <;> simp), lmt_ok (by omega), bsome, lmt_ok (by omega), bsome, e]
theorem f_norm_trim_eq {n : Nat} {a b : List S} (ha : a.length < 1000000) (hb : b.length < 1000000) (hn : a.length < n) : f_norm_trim n a b = some (trimL a b) := by
 unfold f_norm_trim trimL
 have key : ∀ (m : Nat) (a b : List S) (fuel : Nat), a.length = m → m < fuel → a.length < 1000000 → b.length < 1000000 → a.length < n → f_norm_trim_L4 n fuel a b = some (cutB (cutF a b).1 (cutF a b).2) := by
  intro m
  induction m with
  | zero =>
   intro a b fuel hm hf ha hb hn
   obtain ⟨fuel, rfl⟩ : ∃ k, fuel = k + 1 := ⟨fuel - 1, by omega⟩
   obtain rfl := List.eq_nil_of_length_eq_zero hm
   rw [f_norm_trim_L4.eq_2, if_neg (by simp), cutF_nil_l]
   exact trim76 [] b n (by omega) (.inl rfl) (by simp) hb
  | succ m ih =>
   intro a b fuel hm hf ha hb hn
   obtain ⟨fuel, rfl⟩ : ∃ k, fuel = k + 1 := ⟨fuel - 1, by omega⟩
   cases a with
   | nil => simp at hm
   | cons x a =>
    cases b with
    | nil =>
     rw [f_norm_trim_L4.eq_2, if_neg (by simp), cutF_nil_r]
     exact trim76 _ [] n (by omega) (.inr rfl) ha (by simp)
    | cons y b =>
     simp only [List.length_cons] at hm ha hb hn
     have c1 : cutI (x :: a) 1 ((x :: a).length : Int) = some a := cut1
     have c2 : cutI (y :: b) 1 ((y :: b).length : Int) = some b := cut1
     rw [f_norm_trim_L4.eq_2, if_pos (by simp), ixc, bsome, ixc, bsome, cutF_cons]
     by_cases h : x = y
     ·
      rw [if_pos (by simp [h]), c1, bsome, c2, bsome, if_pos h]
      exact ih a b fuel (by omega) (by omega) (by omega) (by omega) (by omega)
     ·
      rw [if_neg (by simp [h]), if_neg h]
      exact trim27 (a.length + 1) (x :: a) (y :: b) n (by simp) (by omega) (by simp; omega) (by simp; omega)
 exact key a.length a b n rfl hn ha hb hn
def normHs : Int → List GHunk → List GHunk
 | _, [] => []
 | at_, h :: hs => if 0 < (trimL h.old_ h.new_).1.length + (trimL h.old_ h.new_).2.length then ⟨at_, (trimL h.old_ h.new_).1, (trimL h.old_ h.new_).2⟩ :: normHs (at_ + ((trimL h.old_ h.new_).1.length : Int) + 1) hs else normHs at_ hs
def normP (p : GPatch) : GPatch := ⟨p.path_, p.was_, p.stays_, normHs 0 p.hunks_⟩
def normPs (l : List GPatch) : List GPatch := (l.map normP).filter fun p => decide (p.hunks_ ≠ [])
def normG (l : List GPatch) : List GPatch := sortP (normPs l)
def Small (p : GPatch) : Prop := p.hunks_.length ≤ 1000 ∧ ∀ h ∈ p.hunks_, h.old_.length ≤ 1000 ∧ h.new_.length ≤ 1000
theorem norm23 {n : Nat} (hn : 1000 < n) (p : GPatch) (hp : Small p) (v7 : List GPatch) (v8 : Int) (rec : List GPatch → Int → Option (List GPatch)) : ∀ (m k : Nat) (acc : List GHunk) (at_ : Int) (fuel : Nat), p.hunks_.length - k = m → k ≤ p.hunks_.length → m < fuel → acc.length + m ≤ 2000 → 0 ≤ at_ → at_ ≤ 2000 * (k : Int) →
  f_norm_norm_L23 n v7 v8 p rec fuel acc at_ (k : Int) = if acc ++ normHs at_ (p.hunks_.drop k) ≠ [] then (need (v7.length + 1 ≤ lim)).bind fun _ => (rng (v8 + 1)).bind fun i => rec (v7 ++ [⟨p.path_, p.was_, p.stays_, acc ++ normHs at_ (p.hunks_.drop k)⟩]) i else (rng (v8 + 1)).bind fun i => rec v7 i := by
 intro m
 induction m with
 | zero =>
  intro k acc at_ fuel hm hk hf ha h1 h2
  obtain ⟨fuel, rfl⟩ : ∃ k, fuel = k + 1 := ⟨fuel - 1, by omega⟩
  rw [f_norm_norm_L23.eq_2, if_neg (by simp; omega), List.drop_of_length_le (by omega), normHs, List.append_nil]
  cases acc with
  | nil => rw [if_neg (by simp), if_neg (by simp)]
  | cons x acc => rw [if_pos (by simp), if_pos (by simp)]
 | succ m ih =>
  intro k acc at_ fuel hm hk hf ha h1 h2
  obtain ⟨fuel, rfl⟩ : ∃ k, fuel = k + 1 := ⟨fuel - 1, by omega⟩
  have hk1 : k < p.hunks_.length := by omega
  obtain ⟨s1, s2⟩ := hp.2 _ (List.getElem_mem hk1)
  have s0 := hp.1
  have hl := hlim
  obtain ⟨t1, t2⟩ := trimL_len p.hunks_[k].old_ p.hunks_[k].new_
  rw [f_norm_norm_L23.eq_2, if_pos (by simp; omega), ix_nat hk1, bsome, f_norm_trim_eq (by omega) (by omega) (by omega), bsome, rng_ok (by omega) (by omega), bsome, List.drop_eq_getElem_cons hk1, normHs]
  by_cases hc : 0 < (trimL p.hunks_[k].old_ p.hunks_[k].new_).1.length + (trimL p.hunks_[k].old_ p.hunks_[k].new_).2.length
  ·
   rw [if_pos (by rw [decide_eq_true_eq]; omega), if_pos hc, need_ok (by omega), bsome, rng_ok (by omega) (by omega), bsome, rng_ok (by omega) (by omega), bsome, rng_succ (by omega), bsome]
   refine Eq.trans (ih (k + 1) _ _ fuel (by omega) (by omega) (by omega) (by simp; omega) (by omega) (by omega)) ?_
   rw [List.append_assoc, List.singleton_append, Int.add_assoc]
  ·
   rw [if_neg (by rw [decide_eq_true_eq]; omega), if_neg hc, rng_succ (by omega), bsome]
   exact ih (k + 1) acc at_ fuel (by omega) (by omega) (by omega) (by omega) h1 (by omega)
theorem nodupG_iff : ∀ l : List S, nodupG l = true ↔ l.Nodup
 | [] => by simp [nodupG]
 | x :: xs => by simp [nodupG, nodupG_iff xs]
theorem normPs_nodup {l : List GPatch} (h : (l.map GPatch.path_).Nodup) : ((normPs l).map GPatch.path_).Nodup := by
 have e : (l.map GPatch.path_) = ((l.map normP).map GPatch.path_) := by rw [List.map_map]; rfl
 rw [e] at h
 exact h.sublist ((List.filter_sublist).map _)
theorem f_norm_norm_eq {n : Nat} (hn : 2000 < n) {l : List GPatch} (hl : l.length ≤ 100) (hs : ∀ p ∈ l, Small p) (hd : (l.map GPatch.path_).Nodup) : f_norm_norm n l = some (normG l) := by
 have hlm := hlim
 unfold f_norm_norm
 have key : ∀ (m k : Nat) (acc : List GPatch) (fuel : Nat), l.length - k = m → k ≤ l.length → m + 1001 < fuel → acc.length + m ≤ 1000 → f_norm_norm_L6 n l fuel acc (k : Int) = sortG (acc ++ normPs (l.drop k)) := by
  intro m
  induction m with
  | zero =>
   intro k acc fuel hm hk hf ha
   obtain ⟨fuel, rfl⟩ : ∃ k, fuel = k + 1 := ⟨fuel - 1, by omega⟩
   rw [f_norm_norm_L6.eq_2, if_neg (by simp; omega), List.drop_of_length_le (by omega)]
   show _ = sortG (acc ++ [])
   rw [List.append_nil]
   cases sortG acc <;> rfl
  | succ m ih =>
   intro k acc fuel hm hk hf ha
   obtain ⟨fuel, rfl⟩ : ∃ k, fuel = k + 1 := ⟨fuel - 1, by omega⟩
   have h1 : k < l.length := by omega
   have hp := hs _ (List.getElem_mem h1)
   have hp0 := hp.1
   have h23 := norm23 (n := n) (by omega) l[k] hp acc (k : Int) (fun a b => f_norm_norm_L6 n l fuel a b) l[k].hunks_.length 0 [] 0 fuel (by omega) (by omega) (by omega) (by simp; omega) (by omega) (by omega)
   rw [f_norm_norm_L6.eq_2, if_pos (by simp; omega), ix_nat h1, bsome]
   refine Eq.trans h23 ?_
   rw [List.drop_zero, List.nil_append, rng_succ (by omega), bsome, need_ok (by omega), bsome, List.drop_eq_getElem_cons h1]
   have e : normPs (l[k] :: l.drop (k + 1)) = if normHs 0 l[k].hunks_ ≠ [] then normP l[k] :: normPs (l.drop (k + 1)) else normPs (l.drop (k + 1)) := by
    unfold normPs
    rw [List.map_cons, List.filter_cons]
    show (if decide (normHs 0 l[k].hunks_ ≠ []) = true then _ else _) = _
    by_cases h : normHs 0 l[k].hunks_ ≠ [] <;> simp [h]
   rw [e]
   by_cases h : normHs 0 l[k].hunks_ ≠ []
   ·
    rw [if_pos h, if_pos h]
    refine Eq.trans (ih (k + 1) _ fuel (by omega) (by omega) (by omega) (by simp; omega)) ?_
    rw [List.append_assoc, List.singleton_append]
    rfl
   ·
    rw [if_neg h, if_neg h]
    exact ih (k + 1) acc fuel (by omega) (by omega) (by omega) (by omega)
 have := key l.length 0 [] n rfl (by omega) (by omega) (by simp; omega)
 refine Eq.trans this ?_
 rw [List.nil_append, List.drop_zero]
 have hle : (normPs l).length ≤ l.length := by
  unfold normPs
  refine Nat.le_trans (List.length_filter_le _ _) (by simp)
 exact if_pos ⟨by omega, (nodupG_iff _).2 (normPs_nodup hd)⟩
theorem small_of {p : GPatch} (h : pvalid p = true) : Small p := by
 unfold pvalid at h
 simp only [Bool.and_eq_true, beq_iff_eq] at h
 obtain ⟨h1, h2⟩ := show p.hunks_.length ≤ 40 ∧ okHs 0 p.hunks_ = true by
  have := h.2.2.1
  unfold hckE at this
  split at this
  ·
   cases this
  ·
   split at this
   ·
    rename_i a b; exact ⟨by omega, b⟩
   ·
    cases this
 refine ⟨by omega, ?_⟩
 have key : ∀ (l : List GHunk) (e : Int), okHs e l = true → ∀ x ∈ l, x.old_.length ≤ 1000 ∧ x.new_.length ≤ 1000 := by
  intro l
  induction l with
  | nil => intro e _ x hx; cases hx
  | cons y l ih =>
   intro e h x hx
   rw [okHs, Bool.and_eq_true, Bool.and_eq_true] at h
   rcases List.mem_cons.1 hx with rfl | hx
   ·
    obtain ⟨_, _, q3, q4⟩ := validH_at h.1
    exact ⟨by omega, by omega⟩
   ·
    exact ih _ h.2.2 x hx
 exact key _ _ h2
theorem nckE_zero' {l : List GPatch} (h : nckE l = 0) : l.length ≤ 24 ∧ (l.map GPatch.path_).Nodup ∧ ∀ p ∈ l, pvalid p = true := by
 unfold nckE at h
 split at h
 ·
  cases h
 ·
  rename_i h1
  split at h
  ·
   cases h
  ·
   rename_i h2
   split at h
   ·
    rename_i h3
    have hd : dupB [] (l.map GPatch.path_) = false := by simpa using h2
    have key : ∀ (ps pre : List S), dupB pre ps = false → ps.Nodup ∧ ∀ p ∈ ps, p ∉ pre := by
     intro ps
     induction ps with
     | nil => intro pre _; simp
     | cons p ps ih =>
      intro pre h
      rw [dupB, Bool.or_eq_false_iff] at h
      obtain ⟨i1, i2⟩ := ih _ h.2
      have hp : p ∉ pre := by simpa using h.1
      refine ⟨List.nodup_cons.2 ⟨fun hm => i2 p hm (by simp), i1⟩, fun q hq => ?_⟩
      rcases List.mem_cons.1 hq with rfl | hq
      ·
       exact hp
      ·
       exact fun hm => i2 q hq (by simp [hm])
    exact ⟨by omega, (key _ _ hd).1, List.all_eq_true.1 h3⟩
   ·
    cases h
end Go.Zv.G
namespace Go.Zv.G
open Go Go.Zv Go.Proofs
set_option maxRecDepth 100000
attribute [local simp high] bsome
theorem refSame_L8 {p q : List S} (hpq : p.length = q.length) (hb : p.length < 1000000) : ∀ (m k fuel : Nat), p.length - k = m → k ≤ p.length → m < fuel → f_sidingref13_Same_L8 p q fuel (k : Int) = some (decide (p.drop k = q.drop k)) := by
 intro m
 induction m with
 | zero =>
  intro k fuel hm hk hf
  obtain ⟨fuel, rfl⟩ : ∃ k, fuel = k + 1 := ⟨fuel - 1, by omega⟩
  rw [f_sidingref13_Same_L8.eq_2, if_neg (by simp; omega), List.drop_of_length_le (by omega), List.drop_of_length_le (by omega)]
  simp
 | succ m ih =>
  intro k fuel hm hk hf
  obtain ⟨fuel, rfl⟩ : ∃ k, fuel = k + 1 := ⟨fuel - 1, by omega⟩
  have h1 : k < p.length := by omega
  have h2 : k < q.length := by omega
  rw [f_sidingref13_Same_L8.eq_2, if_pos (by simp; omega), ix_nat h1, bsome, ix_nat h2, bsome, List.drop_eq_getElem_cons h1, List.drop_eq_getElem_cons h2]
  by_cases h : p[k] = q[k]
  ·
   rw [if_neg (by simp [h]), rng_succ (by omega), bsome]
   refine Eq.trans (ih (k + 1) fuel (by omega) (by omega) (by omega)) ?_
   exact congrArg some (decide_eq_decide.2 (by rw [List.cons.injEq]; exact ⟨fun x => ⟨h, x⟩, fun x => x.2⟩))
  ·
   rw [if_pos (by simp [h])]
   exact congrArg some (decide_eq_false (by rw [List.cons.injEq]; exact fun x => h x.1)).symm
theorem f_sidingref13_Same_eq {n : Nat} {p q : List S} (hb : p.length < 1000000) (hn : p.length < n) : f_sidingref13_Same n p q = some (decide (p = q)) := by
 unfold f_sidingref13_Same
 by_cases h : p.length = q.length
 ·
  rw [if_neg (by simp [h])]
  have := refSame_L8 h hb p.length 0 n rfl (by omega) hn
  simpa using this
 ·
  rw [if_pos (by simp; omega)]
  have : p ≠ q := fun e => h (by rw [e])
  simp [this]
theorem hunk_eta {a b : GHunk} : a = b ↔ a.at_ = b.at_ ∧ a.old_ = b.old_ ∧ a.new_ = b.new_ := by
 cases a; cases b; simp
theorem patch_eta {a b : GPatch} : a = b ↔ a.path_ = b.path_ ∧ a.was_ = b.was_ ∧ a.stays_ = b.stays_ ∧ a.hunks_ = b.hunks_ := by
 cases a; cases b; simp
instance : DecidableEq GHunk := fun _ _ => decidable_of_iff' _ hunk_eta
instance : DecidableEq GPatch := fun _ _ => decidable_of_iff' _ patch_eta
def HFit (n : Nat) (l : List GHunk) : Prop := l.length < 1000000 ∧ l.length < n ∧ ∀ h ∈ l, h.old_.length < 1000000 ∧ h.new_.length < 1000000 ∧ h.old_.length < n ∧ h.new_.length < n
theorem f_norm_same_1_1_eq {n : Nat} (a b : GHunk) (h : a.old_.length < 1000000 ∧ a.new_.length < 1000000 ∧ a.old_.length < n ∧ a.new_.length < n) : f_norm_same_1_1 n a.at_ a.old_ a.new_ b.at_ b.old_ b.new_ = some (decide (a = b)) := by
 unfold f_norm_same_1_1
 rw [f_slices_Equal_string_eq h.1 h.2.2.1, bsome, f_slices_Equal_string_eq h.2.1 h.2.2.2, bsome]
 have e := hunk_eta (a := a) (b := b)
 by_cases h1 : a.at_ = b.at_ <;> by_cases h2 : a.old_ = b.old_ <;> by_cases h3 : a.new_ = b.new_ <;> simp [e, h1, h2, h3]
theorem eqF_Hunk {n : Nat} {p q : List GHunk} (hp : HFit n p) : f_slices_EqualFunc_Hunk_by_norm_same_1_1 n p q = some (decide (p = q)) := by
 unfold f_slices_EqualFunc_Hunk_by_norm_same_1_1
 by_cases hl : p.length = q.length
 case neg =>
  rw [if_pos (by simp; omega)]
  have : p ≠ q := fun e => hl (by rw [e])
  simp [this]
 rw [if_neg (by simp [hl])]
 obtain ⟨g1, g2, g3⟩ := hp
 have key : ∀ (m k fuel : Nat), p.length - k = m → k ≤ p.length → m < fuel → f_slices_EqualFunc_Hunk_by_norm_same_1_1_L8 n p q fuel (k : Int) = some (decide (p.drop k = q.drop k)) := by
  intro m
  induction m with
  | zero =>
   intro k fuel hm hk hf
   obtain ⟨fuel, rfl⟩ : ∃ k, fuel = k + 1 := ⟨fuel - 1, by omega⟩
   rw [f_slices_EqualFunc_Hunk_by_norm_same_1_1_L8.eq_2, if_neg (by simp; omega), List.drop_of_length_le (by omega), List.drop_of_length_le (by omega)]
   simp
  | succ m ih =>
   intro k fuel hm hk hf
   obtain ⟨fuel, rfl⟩ : ∃ k, fuel = k + 1 := ⟨fuel - 1, by omega⟩
   have h1 : k < p.length := by omega
   have h2 : k < q.length := by omega
   rw [f_slices_EqualFunc_Hunk_by_norm_same_1_1_L8.eq_2, if_pos (by simp; omega), ix_nat h1, bsome, ix_nat h2, bsome, f_norm_same_1_1_eq _ _ (g3 _ (List.getElem_mem h1)), bsome, List.drop_eq_getElem_cons h1, List.drop_eq_getElem_cons h2]
   by_cases h : p[k] = q[k]
   ·
    rw [if_neg (by simp [h]), rng_succ (by omega), bsome]
    refine Eq.trans (ih (k + 1) fuel (by omega) (by omega) (by omega)) ?_
    exact congrArg some (decide_eq_decide.2 (by rw [List.cons.injEq]; exact ⟨fun x => ⟨h, x⟩, fun x => x.2⟩))
   ·
    rw [if_pos (by simp [h])]
    exact congrArg some (decide_eq_false (by rw [List.cons.injEq]; exact fun x => h x.1)).symm
 have := key p.length 0 n rfl (by omega) g2
 simpa using this
theorem f_norm_same_1_eq {n : Nat} (a b : GPatch) (h : HFit n a.hunks_) : f_norm_same_1 n a.path_ a.was_ a.stays_ a.hunks_ b.path_ b.was_ b.stays_ b.hunks_ = some (decide (a = b)) := by
 unfold f_norm_same_1
 rw [eqF_Hunk h, bsome]
 have e := patch_eta (a := a) (b := b)
 by_cases h1 : a.path_ = b.path_ <;> by_cases h2 : a.was_ = b.was_ <;> by_cases h3 : a.stays_ = b.stays_ <;> by_cases h4 : a.hunks_ = b.hunks_ <;> simp [e, h1, h2, h3, h4]
theorem f_norm_same_eq {n : Nat} {p q : List GPatch} (hp : p.length < 1000000) (hn : p.length < n) (hx : ∀ x ∈ p, HFit n x.hunks_) : f_norm_same n p q = some (decide (p = q)) := by
 unfold f_norm_same f_slices_EqualFunc_Patch_by_norm_same_1
 by_cases hl : p.length = q.length
 case neg =>
  rw [if_pos (by simp; omega), bsome]
  have : p ≠ q := fun e => hl (by rw [e])
  simp [this]
 rw [if_neg (by simp [hl])]
 have key : ∀ (m k fuel : Nat), p.length - k = m → k ≤ p.length → m < fuel → f_slices_EqualFunc_Patch_by_norm_same_1_L8 n p q fuel (k : Int) = some (decide (p.drop k = q.drop k)) := by
  intro m
  induction m with
  | zero =>
   intro k fuel hm hk hf
   obtain ⟨fuel, rfl⟩ : ∃ k, fuel = k + 1 := ⟨fuel - 1, by omega⟩
   rw [f_slices_EqualFunc_Patch_by_norm_same_1_L8.eq_2, if_neg (by simp; omega), List.drop_of_length_le (by omega), List.drop_of_length_le (by omega)]
   simp
  | succ m ih =>
   intro k fuel hm hk hf
   obtain ⟨fuel, rfl⟩ : ∃ k, fuel = k + 1 := ⟨fuel - 1, by omega⟩
   have h1 : k < p.length := by omega
   have h2 : k < q.length := by omega
   rw [f_slices_EqualFunc_Patch_by_norm_same_1_L8.eq_2, if_pos (by simp; omega), ix_nat h1, bsome, ix_nat h2, bsome, f_norm_same_1_eq _ _ (hx _ (List.getElem_mem h1)), bsome, List.drop_eq_getElem_cons h1, List.drop_eq_getElem_cons h2]
   by_cases h : p[k] = q[k]
   ·
    rw [if_neg (by simp [h]), rng_succ (by omega), bsome]
    refine Eq.trans (ih (k + 1) fuel (by omega) (by omega) (by omega)) ?_
    exact congrArg some (decide_eq_decide.2 (by rw [List.cons.injEq]; exact ⟨fun x => ⟨h, x⟩, fun x => x.2⟩))
   ·
    rw [if_pos (by simp [h])]
    exact congrArg some (decide_eq_false (by rw [List.cons.injEq]; exact fun x => h x.1)).symm
 have := key p.length 0 n rfl (by omega) hn
 rw [show ((0 : Nat) : Int) = 0 from rfl] at this
 rw [this, bsome, List.drop_zero, List.drop_zero]
theorem ref15_Same_eq {n : Nat} {p q : List GHunk} (hp : HFit n p) : f_sidingref15_Same n p q = some (decide (p = q)) := by
 unfold f_sidingref15_Same
 by_cases hl : p.length = q.length
 case neg =>
  rw [if_pos (by simp; omega)]
  have : p ≠ q := fun e => hl (by rw [e])
  simp [this]
 rw [if_neg (by simp [hl])]
 obtain ⟨g1, g2, g3⟩ := hp
 have key : ∀ (m k fuel : Nat), p.length - k = m → k ≤ p.length → m < fuel → f_sidingref15_Same_L8 n p q fuel (k : Int) = some (decide (p.drop k = q.drop k)) := by
  intro m
  induction m with
  | zero =>
   intro k fuel hm hk hf
   obtain ⟨fuel, rfl⟩ : ∃ k, fuel = k + 1 := ⟨fuel - 1, by omega⟩
   rw [f_sidingref15_Same_L8.eq_2, if_neg (by simp; omega), List.drop_of_length_le (by omega), List.drop_of_length_le (by omega)]
   simp
  | succ m ih =>
   intro k fuel hm hk hf
   obtain ⟨fuel, rfl⟩ : ∃ k, fuel = k + 1 := ⟨fuel - 1, by omega⟩
   have h1 : k < p.length := by omega
   have h2 : k < q.length := by omega
   obtain ⟨b1, b2, b3, b4⟩ := g3 _ (List.getElem_mem h1)
   rw [f_sidingref15_Same_L8.eq_2, if_pos (by simp; omega), ix_nat h1, bsome, ix_nat h2, bsome, f_sidingref13_Same_eq b1 b3, bsome, f_sidingref13_Same_eq b2 b4, bsome, List.drop_eq_getElem_cons h1, List.drop_eq_getElem_cons h2]
   have hno : ∀ {c : Bool}, p[k] ≠ q[k] → some false = some (decide (p[k] :: p.drop (k + 1) = q[k] :: q.drop (k + 1))) := fun h => congrArg some (decide_eq_false (by rw [List.cons.injEq]; exact fun x => h x.1)).symm
   by_cases e1 : p[k].at_ = q[k].at_
   ·
    rw [if_neg (by simp [e1])]
    by_cases e2 : p[k].old_ = q[k].old_
    ·
     rw [if_neg (by simp [e2])]
     by_cases e3 : p[k].new_ = q[k].new_
     ·
      rw [if_neg (by simp [e3]), rng_succ (by omega), bsome]
      refine Eq.trans (ih (k + 1) fuel (by omega) (by omega) (by omega)) ?_
      have h := hunk_eta.2 ⟨e1, e2, e3⟩
      exact congrArg some (decide_eq_decide.2 (by rw [List.cons.injEq]; exact ⟨fun x => ⟨h, x⟩, fun x => x.2⟩))
     ·
      rw [if_pos (by simp [e3])]; exact hno (c := true) fun h => e3 (by rw [h])
    ·
     rw [if_pos (by simp [e2])]; exact hno (c := true) fun h => e2 (by rw [h])
   ·
    rw [if_pos (by simp [e1])]; exact hno (c := true) fun h => e1 (by rw [h])
 have := key p.length 0 n rfl (by omega) g2
 simpa using this
end Go.Zv.G
