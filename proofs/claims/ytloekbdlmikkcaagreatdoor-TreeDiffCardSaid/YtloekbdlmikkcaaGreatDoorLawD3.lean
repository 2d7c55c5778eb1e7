/- Plain laws: what the plain functions say. No condition. -/
import Derived.Test.YtloekbdlmikkcaaGreatDoorLawD2
namespace Go.Zv.G
open Go Go.Zv Go.Proofs
set_option maxRecDepth 100000
attribute [local simp high] bsome
def invGo : Int → List GHunk → List GHunk
 | _, [] => []
 | m, h :: hs => ⟨h.at_ + m, h.new_, h.old_⟩ :: invGo (m + ((h.new_.length : Int) - (h.old_.length : Int))) hs
def invH (l : List GHunk) : List GHunk := invGo 0 l
theorem invGo_of (hs : List (Hk S)) : ∀ m : Int, invGo m (hs.map asHunk) = (invOf m hs).map fun t => (⟨t.1, t.2.1, t.2.2⟩ : GHunk) := by
 induction hs with
 | nil => intro m; rfl
 | cons h hs ih =>
  intro m
  simp only [List.map_cons, invGo, invOf]
  rw [show (asHunk h).new_ = h.new from rfl, show (asHunk h).old_ = h.old from rfl, ih]
  rfl
theorem invH_ok {H : S → S → List GHunk} (hH : HOK H) : HOK fun s t => invH (H t s) := by
 intro s t hs ht
 obtain ⟨ps, h1, h2⟩ := hH t s ht hs
 refine ⟨_, hunksOf_swap h1, ?_⟩
 show invH (H t s) = _
 have := inv_hunks h1
 rw [show (((0 : Nat) : Int) - ((0 : Nat) : Int)) = 0 from rfl] at this
 rw [h2, invH, invGo_of, this, List.map_map]
 rfl
theorem validH_mem {e : Int} {l : List GHunk} (h : okHs e l = true) : ∀ x ∈ l, validH x = true := by
 induction l generalizing e with
 | nil => intro x hx; cases hx
 | cons y l ih =>
  intro x hx
  rw [okHs, Bool.and_eq_true, Bool.and_eq_true] at h
  rcases List.mem_cons.1 hx with rfl | hx
  ·
   exact h.1
  ·
   exact ih h.2.2 x hx
theorem hckE_zero {l : List GHunk} (h : hckE l = 0) : l.length ≤ 40 ∧ okHs 0 l = true := by
 unfold hckE at h
 split at h
 ·
  cases h
 ·
  split at h
  ·
   rename_i h1 h2; exact ⟨by omega, h2⟩
  ·
   cases h
theorem inv14 {l : List GHunk} (hl : l.length ≤ 40) (hv : ∀ x ∈ l, validH x = true) : ∀ (m k : Nat) (o : Int) (acc : List GHunk) (fuel : Nat), l.length - k = m → k ≤ l.length → m < fuel → acc.length + m ≤ 1000 → -100 * (k : Int) ≤ o → o ≤ 100 * (k : Int) → (∀ x ∈ invGo o (l.drop k), x.at_ ≤ 60) → f_apply_Invert_L14 l fuel acc o (k : Int) = some (acc ++ invGo o (l.drop k), 0) := by
 intro m
 induction m with
 | zero =>
  intro k o acc fuel hm hk hf _ _ _ _
  obtain ⟨fuel, rfl⟩ : ∃ k, fuel = k + 1 := ⟨fuel - 1, by omega⟩
  rw [f_apply_Invert_L14.eq_2, if_neg (by simp; omega), List.drop_of_length_le (by omega)]
  simp [invGo]
 | succ m ih =>
  intro k o acc fuel hm hk hf ha ho1 ho2 hat
  obtain ⟨fuel, rfl⟩ : ∃ k, fuel = k + 1 := ⟨fuel - 1, by omega⟩
  have h1 : k < l.length := by omega
  have hd := List.drop_eq_getElem_cons h1
  obtain ⟨v1, v2, v3, v4⟩ := validH_at (hv _ (List.getElem_mem h1))
  have hlim' := hlim
  rw [hd, invGo] at hat
  have h60 := hat _ (List.mem_cons_self)
  have hrec := ih (k + 1) (o + ((l[k].new_.length : Int) - (l[k].old_.length : Int))) (acc ++ [⟨l[k].at_ + o, l[k].new_, l[k].old_⟩]) fuel (by omega) (by omega) (by omega) (by simp; omega) (by omega) (by omega) (fun x hx => hat x (List.mem_cons_of_mem _ hx))
  have h60' : l[k].at_ + o ≤ 60 := h60
  rw [f_apply_Invert_L14.eq_2, if_pos (by simp; omega), ix_nat h1, bsome, rng_ok (by omega) (by omega), bsome, if_neg (by rw [decide_eq_true_eq]; omega), bsome, lmt_ok (by omega), bsome, lmt_ok (by omega), bsome, need_ok (by omega), bsome, rng_ok (by omega) (by omega), bsome, rng_ok (by omega) (by omega), bsome, rng_succ (by omega), bsome]
  refine Eq.trans hrec ?_
  rw [hd, invGo]
  simp
theorem f_apply_Invert_ok {n : Nat} (hn : 100 < n) {l : List GHunk} (h : hckE l = 0) (hat : ∀ x ∈ invH l, x.at_ ≤ 60) : f_apply_Invert n l = some (invH l, 0) := by
 obtain ⟨h1, h2⟩ := hckE_zero h
 unfold f_apply_Invert
 rw [f_hunk_Check_eq hn, h, bsome, if_neg (by simp)]
 have := inv14 h1 (validH_mem h2) l.length 0 0 [] n rfl (by omega) (by omega) (by simp; omega) (by simp) (by simp) (by simpa [invH] using hat)
 simpa [invH] using this
def invP (p : GPatch) : GPatch := ⟨p.path_, p.stays_, p.was_, invH p.hunks_⟩
theorem inv_at {H : S → S → List GHunk} (hH : HOK H) {s t : S} (hs : txtE s = 0) (ht : txtE t = 0) : ∀ x ∈ invH (H s t), x.at_ ≤ 60 := by
 intro x hx
 have := (hok_ck (invH_ok hH) ht hs).1
 exact (validH_at (validH_mem (hckE_zero this).2 x hx)).2.1
theorem dl_inv {H : S → S → List GHunk} {a b : List GFile} {l : List GPatch} (h : DL H a b l) : DL (fun s t => invH (H t s)) b a (l.map invP) := by
 induction h with
 | nil => exact .nil
 | gone h1 _ ih => exact .new h1 ih
 | new h1 _ ih => exact .gone h1 ih
 | same _ ih => exact .same ih
 | @chg x y a b l h1 h2 _ ih =>
  have := DL.chg (H := fun s t => invH (H t s)) h1.symm (Ne.symm h2) ih
  have e : invP (chgP H x y) = chgP (fun s t => invH (H t s)) y x := by
   unfold invP chgP
   rw [h1]
  rw [List.map_cons, e]
  exact this
theorem dl_at {H : S → S → List GHunk} (hH : HOK H) {a b : List GFile} {l : List GPatch} (h : DL H a b l) : (∀ x ∈ a, txtE x.text_ = 0) → (∀ x ∈ b, txtE x.text_ = 0) → ∀ p ∈ l, ∀ x ∈ invH p.hunks_, x.at_ ≤ 60 := by
 induction h with
 | nil => intro _ _ p hp; cases hp
 | gone _ _ ih =>
  intro ha hb p hp
  rcases List.mem_cons.1 hp with rfl | hp
  ·
   intro y hy
   simp only [goneP, invH, invGo, List.mem_singleton] at hy
   subst hy; simp
  ·
   exact ih (fun y hy => ha y (by simp [hy])) hb p hp
 | new _ _ ih =>
  intro ha hb p hp
  rcases List.mem_cons.1 hp with rfl | hp
  ·
   intro y hy
   simp only [newP, invH, invGo, List.mem_singleton] at hy
   subst hy; simp
  ·
   exact ih ha (fun y hy => hb y (by simp [hy])) p hp
 | same _ ih =>
  intro ha hb
  exact ih (fun y hy => ha y (by simp [hy])) (fun y hy => hb y (by simp [hy]))
 | @chg x y a b l _ _ _ ih =>
  intro ha hb p hp
  rcases List.mem_cons.1 hp with rfl | hp
  ·
   exact inv_at hH (ha x (by simp)) (hb y (by simp))
  ·
   exact ih (fun y hy => ha y (by simp [hy])) (fun y hy => hb y (by simp [hy])) p hp
theorem f_tree_Invert_ok {n : Nat} (hn : 100 < n) {l : List GPatch} (h : nckE l = 0) (hat : ∀ p ∈ l, hckE p.hunks_ = 0 ∧ ∀ x ∈ invH p.hunks_, x.at_ ≤ 60) : f_tree_Invert n l = some (l.map invP, 0) := by
 have hl : l.length ≤ 24 := by
  unfold nckE at h
  split at h
  ·
   cases h
  ·
   omega
 unfold f_tree_Invert
 rw [f_norm_Check_eq hn, h, bsome, if_neg (by simp)]
 have key : ∀ (m k : Nat) (acc : List GPatch) (fuel : Nat), l.length - k = m → k ≤ l.length → m < fuel → acc.length + m ≤ 1000 → f_tree_Invert_L13 n l fuel acc (k : Int) = some (acc ++ (l.drop k).map invP, 0) := by
  intro m
  induction m with
  | zero =>
   intro k acc fuel hm hk hf _
   obtain ⟨fuel, rfl⟩ : ∃ k, fuel = k + 1 := ⟨fuel - 1, by omega⟩
   rw [f_tree_Invert_L13.eq_2, if_neg (by simp; omega), List.drop_of_length_le (by omega)]
   simp
  | succ m ih =>
   intro k acc fuel hm hk hf ha
   obtain ⟨fuel, rfl⟩ : ∃ k, fuel = k + 1 := ⟨fuel - 1, by omega⟩
   have h1 : k < l.length := by omega
   obtain ⟨c1, c2⟩ := hat _ (List.getElem_mem h1)
   have hlim' := hlim
   rw [f_tree_Invert_L13.eq_2, if_pos (by simp; omega), ix_nat h1, bsome, f_apply_Invert_ok hn c1 c2, bsome, if_neg (by simp), need_ok (by omega), bsome, rng_succ (by omega), bsome]
   refine Eq.trans (ih (k + 1) (acc ++ [invP l[k]]) fuel (by omega) (by omega) (by omega) (by simp; omega)) ?_
   rw [List.drop_eq_getElem_cons h1, List.map_cons, List.append_assoc, List.singleton_append]
 have := key l.length 0 [] n rfl (by omega) (by omega) (by simp; omega)
 simpa using this
theorem f_sidingref21_Same_iff {n : Nat} (a b : List GFile) (ha : a.length < 1000000) (hn : a.length < n) : ∃ r, f_sidingref21_Same n a b = some r ∧ (r = true ↔ a = b) := by
 unfold f_sidingref21_Same
 by_cases hl : a.length = b.length
 case neg => exact ⟨false, by rw [if_pos (by simp; omega)], by simp; intro e; exact hl (by rw [e])⟩
 rw [if_neg (by simp; omega)]
 have key : ∀ (m k fuel : Nat), a.length - k = m → k ≤ a.length → m < fuel → ∃ r, f_sidingref21_Same_L8 a b fuel (k : Int) = some r ∧ (r = true ↔ a.drop k = b.drop k) := by
  intro m
  induction m with
  | zero =>
   intro k fuel hm hk hf
   obtain ⟨fuel, rfl⟩ : ∃ k, fuel = k + 1 := ⟨fuel - 1, by omega⟩
   exact ⟨true, by rw [f_sidingref21_Same_L8.eq_2, if_neg (by simp; omega)], by simp [List.drop_of_length_le (show a.length ≤ k by omega), List.drop_of_length_le (show b.length ≤ k by omega)]⟩
  | succ m ih =>
   intro k fuel hm hk hf
   obtain ⟨fuel, rfl⟩ : ∃ k, fuel = k + 1 := ⟨fuel - 1, by omega⟩
   have h1 : k < a.length := by omega
   have h2 : k < b.length := by omega
   rw [f_sidingref21_Same_L8.eq_2, if_pos (by simp; omega), ix_nat h1, bsome, ix_nat h2, bsome, List.drop_eq_getElem_cons h1, List.drop_eq_getElem_cons h2]
   by_cases e1 : a[k].path_ = b[k].path_
   ·
    rw [if_neg (by simp [e1])]
    by_cases e2 : a[k].text_ = b[k].text_
    ·
     rw [if_neg (by simp [e2]), rng_succ (by omega), bsome]
     obtain ⟨r, h3, h4⟩ := ih (k + 1) fuel (by omega) (by omega) (by omega)
     refine ⟨r, h3, h4.trans ?_⟩
     have : a[k] = b[k] := by
      cases ea : a[k]; cases eb : b[k]
      rw [ea, eb] at e1 e2
      simp_all
     rw [this, List.cons.injEq]; exact ⟨fun h => ⟨rfl, h⟩, fun h => h.2⟩
    ·
     exact ⟨false, by rw [if_pos (by simp [e2])], by
      simp only [Bool.false_eq_true, false_iff, List.cons.injEq, not_and]
      intro h; exact absurd (by rw [h]) e2⟩
   ·
    exact ⟨false, by rw [if_pos (by simp [e1])], by
     simp only [Bool.false_eq_true, false_iff, List.cons.injEq, not_and]
     intro h; exact absurd (by rw [h]) e1⟩
 have := key a.length 0 n rfl (by omega) hn
 simpa using this
theorem f_sidinglaw21_fit_eq {n : Nat} (hn : 3000 < n) (a b : List GFile) : ∃ r, f_sidinglaw21_fit n a b = some r ∧ (r = true → Good a ∧ Good b) := by
 unfold f_sidinglaw21_fit
 obtain ⟨u, hu, _⟩ := f_sidingref21_Long_eq (n := n) (by omega) a
 obtain ⟨v, hv, _⟩ := f_sidingref21_Long_eq (n := n) (by omega) b
 rw [hu, bsome, hv, bsome, f_sidingref21_Check_eq hn, bsome, f_sidingref21_Check_eq hn, bsome]
 cases u with
 | true => exact ⟨false, by simp, by simp⟩
 | false =>
  cases v with
  | true => exact ⟨false, by simp, by simp⟩
  | false =>
   by_cases h1 : chk a = 0
   ·
    rw [if_pos (by simp), if_pos (by simp), if_pos (by simp [h1])]
    exact ⟨_, rfl, fun h => ⟨good_iff.1 h1, good_iff.1 (by simpa using h)⟩⟩
   ·
    exact ⟨false, by rw [if_pos (by simp), if_pos (by simp), if_neg (by simp [h1])], by simp⟩
theorem has_was {n : Nat} {t : List GFile} {p : S} (ht : t.length < 1000000) (hn : t.length < n) : ∃ r : S × Bool, f_sidingref21_Has n t p = some r ∧ (r.2 = true ↔ ∃ x ∈ t, x.path_ = p) := by
 rw [f_sidingref21_Has_eq t p ht hn]
 cases e : t.find? (fun x => x.path_ == p) with
 | none =>
  rw [List.find?_eq_none] at e
  exact ⟨_, rfl, by simp; intro x hx; simpa using e x hx⟩
 | some x =>
  have h1 := List.mem_of_find?_eq_some e
  have h2 := List.find?_some e
  exact ⟨_, rfl, by simp; exact ⟨x, h1, by simpa using h2⟩⟩
theorem law_TreeDiff {n : Nat} (hn : 4000 < n) (a b : List GFile) : f_sidinglaw21_TreeDiff n a b = some true := by
 unfold f_sidinglaw21_TreeDiff
 obtain ⟨r, h1, h2⟩ := f_sidinglaw21_fit_eq (n := n) (by omega) a b
 rw [h1, bsome]
 cases r with
 | false => rw [if_pos (by simp)]
 | true =>
 obtain ⟨ha, hb⟩ := h2 rfl
 have la := ha.le
 have lb := hb.le
 rw [if_neg (by simp)]
 obtain ⟨l, hl, h3⟩ := f_tree_Diff_good hn ha hb
 have hH := diffH_ok (n := n) (by omega)
 have hta : ∀ x ∈ a, okPath x.path_ = true ∧ txtE x.text_ = 0 := fun x hx => ⟨ha.path x hx, ha.text x hx⟩
 have htb : ∀ x ∈ b, okPath x.path_ = true ∧ txtE x.text_ = 0 := fun x hx => ⟨hb.path x hx, hb.text x hx⟩
 have hok := dl_ok hH hl ha.sorted hb.sorted hta htb
 have hck := dl_check hH hl ha hb
 have hlen := dl_length hl
 have hso := dl_sorted hl ha.sorted hb.sorted
 have h4 : f_tree_Apply n a l = some (b, 0) := f_tree_Apply_app hn ha lb (by omega) (by rw [f_norm_Check_eq (by omega), hck]) (by simpa using dl_app (n := n) (by omega) hH hl [] (by simpa using ha.sorted) (by simpa using hb.sorted) (by simp; omega) ha.text hb.text)
 have h5 : f_tree_Invert n l = some (l.map invP, 0) := f_tree_Invert_ok (by omega) hck fun p hp => ⟨by
  have := (hok p hp).valid
  unfold pvalid at this
  simp at this
  exact this.2.2.1, dl_at hH hl ha.text hb.text p hp⟩
 have hl' := dl_inv hl
 have hH' := invH_ok hH
 have hck' := dl_check hH' hl' hb ha
 have h6 : f_tree_Apply n b (l.map invP) = some (a, 0) := f_tree_Apply_app hn hb la (by simp; omega) (by rw [f_norm_Check_eq (by omega), hck']) (by simpa using dl_app (n := n) (by omega) hH' hl' [] (by simpa using hb.sorted) (by simpa using ha.sorted) (by simp; omega) hb.text ha.text)
 obtain ⟨s1, g1, g2⟩ := f_sidingref21_Same_iff (n := n) a b (by omega) (by omega)
 obtain ⟨s2, g3, g4⟩ := f_sidingref21_Same_iff (n := n) b b (by omega) (by omega)
 obtain ⟨s3, g5, g6⟩ := f_sidingref21_Same_iff (n := n) a a (by omega) (by omega)
 rw [h3, bsome, h4, bsome, h5, bsome, h6, bsome, if_neg (by simp), f_norm_Check_eq (by omega), hck, bsome, if_neg (by simp), f_sidingref17_Check_eq (by omega) l (fun p hp h hh => by
  obtain ⟨f1, f2⟩ := (hok p hp).fits h hh
  exact ⟨by omega, by omega, by omega, by omega⟩), hck, bsome, if_neg (by simp), g1, bsome, if_neg]
 ·
  have key : ∀ (m k fuel : Nat), l.length - k = m → k ≤ l.length → m < fuel → f_sidinglaw21_TreeDiff_L49 n a b (l, 0) (b, 0) (a, 0) fuel (k : Int) = some true := by
   intro m
   induction m with
   | zero =>
    intro k fuel hm hk hf
    obtain ⟨fuel, rfl⟩ : ∃ k, fuel = k + 1 := ⟨fuel - 1, by omega⟩
    rw [f_sidinglaw21_TreeDiff_L49.eq_2, if_neg (by simp; omega), g3, bsome, if_pos (g4.2 rfl), g5, bsome, g6.2 rfl]
   | succ m ih =>
    intro k fuel hm hk hf
    obtain ⟨fuel, rfl⟩ : ∃ k, fuel = k + 1 := ⟨fuel - 1, by omega⟩
    have h1 : k < l.length := by omega
    have hp := hok _ (List.getElem_mem h1)
    obtain ⟨u, u1, u2⟩ := has_was (n := n) (t := a) (p := l[k].path_) (by omega) (by omega)
    obtain ⟨v, v1, v2⟩ := has_was (n := n) (t := b) (p := l[k].path_) (by omega) (by omega)
    have e1 : l[k].was_ = u.2 := by rw [Bool.eq_iff_iff, u2]; exact hp.was
    have e2 : l[k].stays_ = v.2 := by rw [Bool.eq_iff_iff, v2]; exact hp.stays
    have e3 : ((l[k].hunks_.length : Int) == 0) = false := by
     have := hp.hunks
     cases e : l[k].hunks_ with
     | nil => exact absurd e this
     | cons x y => simp; omega
    have hrec := ih (k + 1) fuel (by omega) (by omega) (by omega)
    rw [f_sidinglaw21_TreeDiff_L49.eq_2, if_pos (by simp; omega), ix_nat h1, bsome, u1, bsome, v1, bsome]
    by_cases hk0 : k = 0
    ·
     subst hk0
     rw [if_neg (by simp), if_neg, rng_succ (by omega), bsome]
     ·
      exact hrec
     ·
      rw [e1, e2, e3]; simp
    ·
     have h2 : k - 1 < l.length := by omega
     have hlt : l[k - 1].path_ < l[k].path_ := List.pairwise_iff_getElem.1 hso (k - 1) k h2 h1 (by omega)
     rw [if_pos (by simp; omega), rng_ok (by omega) (by omega), bsome, show ((k : Int) - 1) = ((k - 1 : Nat) : Int) by omega, ix_nat h2, bsome, if_neg, rng_succ (by omega), bsome]
     ·
      exact hrec
     ·
      rw [e1, e2, e3, less_eq]; simp [hlt]
  exact key l.length 0 n rfl (by omega) (by omega)
 ·
  by_cases he : l = []
  ·
   have := g2.2 (dl_same hl he)
   subst he; simp [this]
  ·
   have : s1 = false := by
    cases s1 with
    | false => rfl
    | true => exact absurd (dl_self hl (g2.1 rfl)) he
   have h0 : ((l.length : Int) == 0) = false := by
    cases l with
    | nil => exact absurd rfl he
    | cons x y => simp; omega
   rw [this, h0]; simp
#print axioms law_TreeDiff
end Go.Zv.G
