/- Plain laws: what the plain functions say. No condition. -/
import Derived.Test.YtloekbdlmikkcaaGreatDoorLawD1
namespace Go.Zv.G
open Go Go.Zv Go.Proofs
set_option maxRecDepth 100000
attribute [local simp high] bsome
theorem normP_valid {p : GPatch} (h : pvalid p = true) (hne : (normP p).hunks_ ≠ []) : pvalid (normP p) = true := by
 unfold pvalid at h
 rw [Bool.and_eq_true, Bool.and_eq_true, Bool.and_eq_true, beq_iff_eq] at h
 obtain ⟨h1, h2, h3, h4⟩ := h
 obtain ⟨k1, k2⟩ := hckE_zero2 h3
 have hk : hckE (normHs 0 p.hunks_) = 0 := zero_hckE (Nat.le_trans (normHs_le _ _) k1) (normHs_ok _ 0 0 (by omega) (by omega) k2)
 unfold pvalid normP
 rw [Bool.and_eq_true, Bool.and_eq_true, Bool.and_eq_true, beq_iff_eq]
 refine ⟨h1, h2, hk, ?_⟩
 dsimp only
 rw [Bool.or_eq_true] at h4 ⊢
 rcases h4 with h4 | h4
 ·
  exact .inl h4
 ·
  refine .inr ?_
  revert h4 hne
  cases hp : p.hunks_ with
  | nil => intro _ h; cases h
  | cons g l =>
   cases l with
   | cons g' l => intro _ h; cases h
   | nil =>
    intro hne h4
    rw [Bool.and_eq_true, Bool.and_eq_true] at h4
    obtain ⟨q1, q2, q3⟩ := h4
    have tl := trimL_len g.old_ g.new_
    unfold normP at hne
    rw [hp] at hne
    dsimp only at hne
    rw [normHs] at hne ⊢
    split at hne
    ·
     rename_i hc
     rw [if_pos hc]
     show ((0 : Int) == 0 && ((p.was_ || (trimL g.old_ g.new_).1.length == 0) && (p.stays_ || (trimL g.old_ g.new_).2.length == 0))) = true
     rw [Bool.and_eq_true, Bool.and_eq_true]
     refine ⟨rfl, ?_, ?_⟩
     ·
      rw [Bool.or_eq_true, beq_iff_eq] at q2 ⊢
      exact q2.imp id fun h => by omega
     ·
      rw [Bool.or_eq_true, beq_iff_eq] at q3 ⊢
      exact q3.imp id fun h => by omega
    ·
     exact absurd rfl hne
abbrev SortedP (l : List GPatch) : Prop := l.Pairwise fun p q => Op.bytesLess p.path_ q.path_ = true
theorem less_iff (a b : S) : Op.bytesLess a b = true ↔ a < b := by rw [less_eq]; simp
theorem insG_sorted {r : GPatch} : ∀ {l : List GPatch}, SortedP l → (∀ x ∈ l, x.path_ ≠ r.path_) → SortedP (insG r l)
 | [], _, _ => by simp [insG, SortedP]
 | x :: xs, h, hn => by
  rw [insG]
  have hp := List.pairwise_cons.1 h
  split
  ·
   rename_i hlt
   refine List.pairwise_cons.2 ⟨fun y hy => ?_, insG_sorted hp.2 fun y hy => hn y (by simp [hy])⟩
   rcases (insG_mem r).1 hy with rfl | hy
   ·
    exact hlt
   ·
    exact hp.1 y hy
  ·
   rename_i hlt
   have hlt' : r.path_ < x.path_ := by
    rcases s_tri x.path_ r.path_ with h1 | h1 | h1
    ·
     exact absurd ((less_iff _ _).2 h1) hlt
    ·
     exact absurd h1 (hn x (by simp))
    ·
     exact h1
   refine List.pairwise_cons.2 ⟨fun y hy => ?_, h⟩
   rw [less_iff]
   rcases List.mem_cons.1 hy with rfl | hy
   ·
    exact hlt'
   ·
    exact s_trans hlt' ((less_iff _ _).1 (hp.1 y hy))
theorem sortP_sorted : ∀ {l : List GPatch}, (l.map GPatch.path_).Nodup → SortedP (sortP l)
 | [], _ => by simp [sortP, SortedP]
 | r :: rs, h => by
  rw [List.map_cons, List.nodup_cons] at h
  rw [sortP]
  refine insG_sorted (sortP_sorted h.2) fun x hx e => h.1 ?_
  rw [← e]
  exact List.mem_map_of_mem (sortP_mem.1 hx)
theorem insG_head {r : GPatch} {l : List GPatch} (h : ∀ x ∈ l, Op.bytesLess r.path_ x.path_ = true) : insG r l = r :: l := by
 cases l with
 | nil => rfl
 | cons x xs =>
  rw [insG, if_neg]
  intro hlt
  exact s_irrefl _ (s_trans ((less_iff _ _).1 hlt) ((less_iff _ _).1 (h x (by simp))))
theorem sortP_fix : ∀ {l : List GPatch}, SortedP l → sortP l = l
 | [], _ => rfl
 | r :: rs, h => by
  have hp := List.pairwise_cons.1 h
  rw [sortP, sortP_fix hp.2, insG_head hp.1]
theorem sortedP_nodup {l : List GPatch} (h : SortedP l) : (l.map GPatch.path_).Nodup := by
 rw [List.nodup_iff_pairwise_ne, List.pairwise_map]
 exact h.imp fun {p q} h e => by
  rw [less_iff, e] at h
  exact s_irrefl _ h
theorem normG_mem {l : List GPatch} {x : GPatch} : x ∈ normG l ↔ ∃ p ∈ l, x = normP p ∧ x.hunks_ ≠ [] := by
 unfold normG normPs
 rw [sortP_mem, List.mem_filter, List.mem_map]
 constructor
 ·
  rintro ⟨⟨p, h1, rfl⟩, h2⟩
  exact ⟨p, h1, rfl, by simpa using h2⟩
 ·
  rintro ⟨p, h1, rfl, h2⟩
  exact ⟨⟨p, h1, rfl⟩, by simpa using h2⟩
theorem normG_sorted {l : List GPatch} (h : (l.map GPatch.path_).Nodup) : SortedP (normG l) := sortP_sorted (normPs_nodup h)
theorem normG_idem {l : List GPatch} (h : (l.map GPatch.path_).Nodup) : normG (normG l) = normG l := by
 have hs := normG_sorted h
 have e1 : (normG l).map normP = normG l := by
  have : ∀ x ∈ normG l, normP x = x := by
   intro x hx
   obtain ⟨p, _, rfl, _⟩ := normG_mem.1 hx
   exact normP_idem p
  rw [List.map_congr_left this, List.map_id']
 have e2 : normPs (normG l) = normG l := by
  unfold normPs
  rw [e1, List.filter_eq_self]
  intro x hx
  obtain ⟨p, _, _, h2⟩ := normG_mem.1 hx
  simpa using h2
 show sortP (normPs (normG l)) = normG l
 rw [e2, sortP_fix hs]
theorem normG_valid {l : List GPatch} (h : nckE l = 0) : nckE (normG l) = 0 := by
 obtain ⟨h1, h2, h3⟩ := nckE_zero' h
 refine nckE_zero (Nat.le_trans (normG_len l) h1) (sortedP_nodup (normG_sorted h2)) fun x hx => ?_
 obtain ⟨p, hp, rfl, hne⟩ := normG_mem.1 hx
 exact normP_valid (h3 p hp) hne
theorem f_norm_Norm_ok {n : Nat} (hn : 2000 < n) {l : List GPatch} (h : nckE l = 0) : f_norm_Norm n l = some (normG l, 0) := by
 obtain ⟨h1, h2, h3⟩ := nckE_zero' h
 unfold f_norm_Norm
 rw [f_norm_Check_eq (by omega), bsome, h, if_neg (by simp), f_norm_norm_eq hn (by omega) (fun p hp => small_of (h3 p hp)) h2, bsome]
end Go.Zv.G
namespace Go.Zv.G
open Go Go.Zv Go.Proofs
set_option maxRecDepth 100000
attribute [local simp high] bsome
def Mid (l : List S) : Prop := l.length ≤ 200 ∧ ∀ s ∈ l, s.length ≤ 3000
theorem long13big {n : Nat} (hn : 300 < n) (l : List S) : ∃ b, f_sidingref13_Long n l = some b ∧ (b = false → Mid l) := by
 have key : ∀ (m i : Nat), i ≤ l.length → i ≤ 201 → 202 ≤ m + i → (∀ s ∈ l.take i, s.length ≤ 3000) → ∃ b, f_sidingref13_Long_L5 l m (i : Int) = some b ∧ (b = false → Mid l) := by
  intro m
  induction m with
  | zero => intro i h1 h2 h3; omega
  | succ m ih =>
   intro i h1 h2 h3 h4
   rw [f_sidingref13_Long_L5.eq_2]
   by_cases hc : i < l.length ∧ i ≤ 200
   ·
    rw [if_pos (by simp; omega), ix_nat hc.1, bsome]
    by_cases h5 : 3000 < l[i].length
    ·
     rw [if_pos (by simp; omega)]
     exact ⟨true, rfl, fun h => by cases h⟩
    ·
     rw [if_neg (by simp; omega), rng_succ (by omega), bsome]
     refine ih (i + 1) hc.1 (by omega) (by omega) fun s hs => ?_
     rw [List.take_succ_eq_append_getElem hc.1, List.mem_append, List.mem_singleton] at hs
     rcases hs with hs | rfl
     ·
      exact h4 s hs
     ·
      omega
   ·
    rw [if_neg (by simp; omega)]
    refine ⟨_, rfl, fun h => ?_⟩
    have h6 : l.length ≤ 200 := by simp at h; omega
    have : i = l.length := by omega
    rw [this, List.take_length] at h4
    exact ⟨h6, h4⟩
 exact key n 0 (by omega) (by omega) (by omega) (by simp)
def MidH (l : List GHunk) : Prop := l.length ≤ 60 ∧ ∀ h ∈ l, Mid h.old_ ∧ Mid h.new_
theorem long15 {n : Nat} (hn : 300 < n) (l : List GHunk) : ∃ b, f_sidingref15_Long n l = some b ∧ (b = false → MidH l) := by
 have key : ∀ (m i : Nat), i ≤ l.length → i ≤ 61 → 62 ≤ m + i → (∀ h ∈ l.take i, Mid h.old_ ∧ Mid h.new_) → ∃ b, f_sidingref15_Long_L5 n l m (i : Int) = some b ∧ (b = false → MidH l) := by
  intro m
  induction m with
  | zero => intro i h1 h2 h3; omega
  | succ m ih =>
   intro i h1 h2 h3 h4
   rw [f_sidingref15_Long_L5.eq_2]
   by_cases hc : i < l.length ∧ i ≤ 60
   ·
    rw [if_pos (by simp; omega), ix_nat hc.1, bsome]
    obtain ⟨b, e1, e2⟩ := long13big hn l[i].old_
    rw [e1, bsome]
    cases b with
    | true => rw [if_pos rfl]; exact ⟨true, rfl, fun h => by cases h⟩
    | false =>
     rw [if_neg (by simp)]
     obtain ⟨c, e3, e4⟩ := long13big hn l[i].new_
     rw [e3, bsome]
     cases c with
     | true => rw [if_pos rfl]; exact ⟨true, rfl, fun h => by cases h⟩
     | false =>
      rw [if_neg (by simp), rng_succ (by omega), bsome]
      refine ih (i + 1) hc.1 (by omega) (by omega) fun h hh => ?_
      rw [List.take_succ_eq_append_getElem hc.1, List.mem_append, List.mem_singleton] at hh
      rcases hh with hh | rfl
      ·
       exact h4 h hh
      ·
       exact ⟨e2 rfl, e4 rfl⟩
   ·
    rw [if_neg (by simp; omega)]
    refine ⟨_, rfl, fun h => ?_⟩
    have h6 : l.length ≤ 60 := by simp at h; omega
    have : i = l.length := by omega
    rw [this, List.take_length] at h4
    exact ⟨h6, h4⟩
 exact key n 0 (by omega) (by omega) (by omega) (by simp)
theorem text13 {n : Nat} (hn : 300 < n) {l : List S} (hl : Mid l) : ∃ t, f_sidingref13_Text n l = some t ∧ t.length ≤ 3001 * l.length := by
 have h200 := hl.1
 have hlm := hlim
 have key : ∀ (m i : Nat) (v : S), i ≤ l.length → v.length ≤ 3001 * i → l.length < m + i → ∃ t, f_sidingref13_Text_L6 l m v (i : Int) = some t ∧ t.length ≤ 3001 * l.length := by
  intro m
  induction m with
  | zero => intro i v h1 h2 h3; omega
  | succ m ih =>
   intro i v h1 h2 h3
   rw [f_sidingref13_Text_L6.eq_2]
   by_cases hc : i < l.length
   ·
    have hx := hl.2 _ (List.getElem_mem hc)
    rw [if_pos (by simpa using hc)]
    by_cases h0 : 0 < i
    ·
     rw [if_pos (by simpa using h0), need_ok (by omega), bsome]
     unfold f_sidingref13_Text_J15
     rw [ix_nat hc, bsome, need_ok (by simp; omega), bsome, rng_succ (by omega), bsome]
     exact ih (i + 1) _ hc (by simp; omega) (by omega)
    ·
     rw [if_neg (by simpa using h0)]
     unfold f_sidingref13_Text_J15
     rw [ix_nat hc, bsome, need_ok (by omega), bsome, rng_succ (by omega), bsome]
     exact ih (i + 1) _ hc (by simp; omega) (by omega)
   ·
    rw [if_neg (by simpa using hc)]
    exact ⟨v, rfl, Nat.le_trans h2 (Nat.mul_le_mul_left _ h1)⟩
 exact key n 0 [] (by omega) (by simp) (by omega)
def MidP (l : List GPatch) : Prop := l.length ≤ 40 ∧ ∀ p ∈ l, p.path_.length ≤ 200 ∧ MidH p.hunks_
theorem long17 {n : Nat} (hn : 300 < n) (l : List GPatch) : ∃ b, f_sidingref17_Long n l = some b ∧ (b = false → MidP l) := by
 have key : ∀ (m i : Nat) (v : Int), i ≤ l.length → i ≤ 41 → 42 + 61 ≤ m + i → 0 ≤ v → v ≤ 80000000 * (i : Int) → (∀ p ∈ l.take i, p.path_.length ≤ 200 ∧ MidH p.hunks_) → ∃ b, f_sidingref17_Long_L6 n l m v (i : Int) = some b ∧ (b = false → MidP l) := by
  intro m
  induction m with
  | zero => intro i v h1 h2 h3; omega
  | succ m ih =>
   intro i v h1 h2 h3 v1 v2 h4
   rw [f_sidingref17_Long_L6.eq_2]
   by_cases hc : i < l.length ∧ i ≤ 40
   ·
    rw [if_pos (by simp; omega), ix_nat hc.1, bsome]
    by_cases h5 : 200 < l[i].path_.length
    ·
     rw [if_pos (by simp; omega)]
     exact ⟨true, rfl, fun h => by cases h⟩
    rw [if_neg (by simp; omega)]
    obtain ⟨b, e1, e2⟩ := long15 hn l[i].hunks_
    rw [e1, bsome]
    cases b with
    | true => rw [if_pos rfl]; exact ⟨true, rfl, fun h => by cases h⟩
    | false =>
     rw [if_neg (by simp)]
     have hm := e2 rfl
     have hm1 := hm.1
     have inner : ∀ (k j : Nat) (u : Int), j ≤ l[i].hunks_.length → l[i].hunks_.length < k + j → 0 ≤ u → u ≤ v + 1300000 * (j : Int) → ∃ b, f_sidingref17_Long_L27 n l (i : Int) (fun a b => f_sidingref17_Long_L6 n l m a b) k u (j : Int) = some b ∧ (b = false → MidP l) := by
      intro k
      induction k with
      | zero => intro j u g1 g2; omega
      | succ k ihk =>
       intro j u g1 g2 g3 g4
       rw [f_sidingref17_Long_L27.eq_2, ix_nat hc.1, bsome]
       by_cases hj : j < l[i].hunks_.length
       ·
        obtain ⟨q1, q2⟩ := hm.2 _ (List.getElem_mem hj)
        obtain ⟨t1, t2, t3⟩ := text13 (n := n) hn q1
        obtain ⟨t4, t5, t6⟩ := text13 (n := n) hn q2
        have q3 := q1.1
        have q4 := q2.1
        have b1 : t1.length ≤ 600200 := Nat.le_trans t3 (by omega)
        have b2 : t4.length ≤ 600200 := Nat.le_trans t6 (by omega)
        rw [if_pos (by simpa using hj), ix_nat hj, bsome, t2, bsome, t5, bsome, rng_ok (by omega) (by omega), bsome, rng_ok (by omega) (by omega), bsome, rng_succ (by omega), bsome]
        exact ihk (j + 1) _ hj (by omega) (by omega) (by omega)
       ·
        rw [if_neg (by simpa using hj), rng_succ (by omega), bsome]
        refine ih (i + 1) u hc.1 (by omega) (by omega) g3 (by omega) fun p hp => ?_
        rw [List.take_succ_eq_append_getElem hc.1, List.mem_append, List.mem_singleton] at hp
        rcases hp with hp | rfl
        ·
         exact h4 p hp
        ·
         exact ⟨by omega, hm⟩
     exact inner m 0 v (by omega) (by omega) v1 (by omega)
   ·
    rw [if_neg (by simp; omega)]
    refine ⟨_, rfl, fun h => ?_⟩
    have h6 : l.length ≤ 40 := by simp at h; omega
    have : i = l.length := by omega
    rw [this, List.take_length] at h4
    exact ⟨h6, h4⟩
 exact key n 0 0 (by omega) (by omega) (by omega) (by omega) (by omega) (by simp)
theorem MidP.fits {n : Nat} (hn : 3000 < n) {l : List GPatch} (h : MidP l) : ∀ p ∈ l, ∀ h ∈ p.hunks_, Fits n h := by
 intro p hp g hg
 obtain ⟨q1, q2⟩ := (h.2 p hp).2.2 g hg
 have := q1.1
 have := q2.1
 exact ⟨by omega, by omega, by omega, by omega⟩
theorem fit17 {n : Nat} (hn : 3000 < n) (l : List GPatch) : ∃ r, f_sidinglaw17_fit n l = some r ∧ (r = true → nckE l = 0 ∧ MidP l) := by
 unfold f_sidinglaw17_fit
 obtain ⟨b, e1, e2⟩ := long17 (n := n) (by omega) l
 rw [e1, bsome]
 cases b with
 | true => exact ⟨false, by simp, fun h => by cases h⟩
 | false =>
  have hm := e2 rfl
  rw [if_pos (by simp), f_sidingref17_Check_eq hn l (hm.fits hn), bsome]
  exact ⟨_, rfl, fun h => ⟨by simpa using h, hm⟩⟩
end Go.Zv.G
namespace Go.Zv.G
open Go Go.Zv Go.Proofs
set_option maxRecDepth 100000
attribute [local simp high] bsome
theorem head_ne {a b : List S} (h : Head a b) (ha : 0 < a.length) (hb : 0 < b.length) : a[0] ≠ b[0] := by
 cases a with
 | nil => simp at ha
 | cons x a =>
  cases b with
  | nil => simp at hb
  | cons y b => exact h x a y b rfl rfl
theorem last_ne {a b : List S} (h : Last a b) (ha : 0 < a.length) (hb : 0 < b.length) : a[a.length - 1] ≠ b[b.length - 1] := by
 have e1 : a = a.dropLast ++ [a[a.length - 1]] := by
  have h1 := (List.dropLast_concat_getLast (l := a) (by intro e; rw [e] at ha; simp at ha)).symm
  rwa [List.getLast_eq_getElem] at h1
 have e2 : b = b.dropLast ++ [b[b.length - 1]] := by
  have h1 := (List.dropLast_concat_getLast (l := b) (by intro e; rw [e] at hb; simp at hb)).symm
  rwa [List.getLast_eq_getElem] at h1
 exact h _ _ _ _ e1 e2
theorem law_NormTwice {n : Nat} (hn : 4000 < n) (hA : f_sidinglaw17_alive n = some true) (l : List GPatch) : f_sidinglaw17_NormTwice n l = some true := by
 unfold f_sidinglaw17_NormTwice
 rw [hA, bsome]
 obtain ⟨r, e1, e2⟩ := fit17 (n := n) (by omega) l
 rw [e1, bsome]
 cases r with
 | false => rw [if_pos (by simp)]
 | true =>
 obtain ⟨hk, _⟩ := e2 rfl
 obtain ⟨k1, k2, k3⟩ := nckE_zero' hk
 have hv := normG_valid hk
 obtain ⟨v1, v2, v3⟩ := nckE_zero' hv
 have hfit : ∀ p ∈ normG l, ∀ h ∈ p.hunks_, Fits n h := by
  intro p hp h hh
  obtain ⟨q1, q2⟩ := (small_of (v3 p hp)).2 h hh
  exact ⟨by omega, by omega, by omega, by omega⟩
 rw [if_neg (by simp), f_norm_Norm_ok (by omega) hk, bsome, f_norm_Norm_ok (by omega) hv, bsome, if_neg (by simp), f_norm_Check_eq (by omega), bsome, hv, if_neg (by simp), f_sidingref17_Check_eq (by omega) _ hfit, bsome, hv, if_neg (by simp), normG_idem k2,
  f_sidingref17_Equal_eq (by omega) (by omega) (fun x hx => hfit_of (by omega) (small_of (v3 x hx))), bsome, if_neg (by simp)]
 have hpat : ∀ x ∈ normG l, x.hunks_ ≠ [] ∧ x.hunks_.length ≤ 40 ∧ (∀ h t, x.hunks_ = h :: t → h.at_ = 0) ∧ ∀ h ∈ x.hunks_, Head h.old_ h.new_ ∧ Last h.old_ h.new_ ∧ h.old_.length ≤ 1000 ∧ h.new_.length ≤ 1000 := by
  intro x hx
  obtain ⟨p, hp, rfl, hne⟩ := normG_mem.1 hx
  have hs := small_of (v3 _ hx)
  have hl : (normP p).hunks_.length ≤ 40 := by
   have := v3 _ hx
   unfold pvalid at this
   rw [Bool.and_eq_true, Bool.and_eq_true, Bool.and_eq_true, beq_iff_eq] at this
   exact (hckE_zero2 this.2.2.1).1
  refine ⟨hne, hl, fun h t e => normHs_first h t e, fun h hh => ?_⟩
  obtain ⟨g, _, g1, g2, _⟩ := normHs_form _ _ h hh
  obtain ⟨s1, s2⟩ := hs.2 h hh
  refine ⟨?_, ?_, s1, s2⟩
  ·
   rw [g1, g2]; exact trimL_head _ _
  ·
   rw [g1, g2]; exact trimL_last _ _
 have hsort := normG_sorted k2
 have inner : ∀ (i : Nat) (hi : i < (normG l).length) (rec : Int → Option Bool), rec ((i + 1 : Nat) : Int) = some true → ∀ (m k : Nat), k ≤ (normG l)[i].hunks_.length → (normG l)[i].hunks_.length < m + k →
   f_sidinglaw17_NormTwice_L51 (normG l, 0) (i : Int) rec m (k : Int) = some true := by
  intro i hi rec hrec m
  obtain ⟨_, p2, _, p4⟩ := hpat _ (List.getElem_mem hi)
  induction m with
  | zero => intro k h1 h2; omega
  | succ m ih =>
   intro k h1 h2
   rw [f_sidinglaw17_NormTwice_L51.eq_2, ix_nat hi, bsome]
   by_cases hc : k < (normG l)[i].hunks_.length
   ·
    obtain ⟨q1, q2, q3, q4⟩ := p4 _ (List.getElem_mem hc)
    rw [if_pos (by simpa using hc), ix_nat hc, bsome]
    by_cases hz : 0 < (normG l)[i].hunks_[k].old_.length ∧ 0 < (normG l)[i].hunks_[k].new_.length
    ·
     have a1 : (((normG l)[i].hunks_[k].old_.length : Nat) : Int) - 1 = (((normG l)[i].hunks_[k].old_.length - 1 : Nat) : Int) := by omega
     have a2 : (((normG l)[i].hunks_[k].new_.length : Nat) : Int) - 1 = (((normG l)[i].hunks_[k].new_.length - 1 : Nat) : Int) := by omega
     have d1 := head_ne q1 hz.1 hz.2
     have d2 := last_ne q2 hz.1 hz.2
     rw [if_pos (by simp only [Bool.and_eq_true, decide_eq_true_eq]; omega), ix_zero hz.1, bsome, ix_zero hz.2, bsome, if_neg (by simpa using d1), a1, rng_ok (by omega) (by omega), bsome, ix_nat (by omega), bsome, a2, rng_ok (by omega) (by omega), bsome, ix_nat (by omega), bsome,
      if_neg (by simpa using d2), rng_succ (by omega), bsome]
     exact ih (k + 1) hc (by omega)
    ·
     rw [if_neg (by simp only [Bool.and_eq_true, decide_eq_true_eq]; omega), rng_succ (by omega), bsome]
     exact ih (k + 1) hc (by omega)
   ·
    rw [if_neg (by simpa using hc), rng_succ (by omega), bsome]
    exact hrec
 have outer : ∀ (m i : Nat), i ≤ (normG l).length → (normG l).length + 50 < m + i → f_sidinglaw17_NormTwice_L41 true (normG l, 0) m (i : Int) = some true := by
  intro m
  induction m with
  | zero => intro i h1 h2; omega
  | succ m ih =>
   intro i h1 h2
   rw [f_sidinglaw17_NormTwice_L41.eq_2]
   by_cases hc : i < (normG l).length
   ·
    obtain ⟨p1, p2, p3, p4⟩ := hpat _ (List.getElem_mem hc)
    have h0 : 0 < (normG l)[i].hunks_.length := Nat.pos_of_ne_zero fun h => p1 (List.eq_nil_of_length_eq_zero h)
    have hat : (normG l)[i].hunks_[0].at_ = 0 := by
     obtain ⟨g, t, hh⟩ := List.exists_cons_of_ne_nil p1
     have h3 := p3 g t hh
     simpa only [hh, List.getElem_cons_zero] using h3
    have hin := inner i hc (fun a => f_sidinglaw17_NormTwice_L41 true (normG l, 0) m a) (ih (i + 1) hc (by omega)) m 0 (by omega) (by omega)
    rw [if_pos (by simpa using hc)]
    by_cases hz : 0 < i
    ·
     have a1 : ((i : Nat) : Int) - 1 = ((i - 1 : Nat) : Int) := by omega
     have hlt : Op.bytesLess (normG l)[i - 1].path_ (normG l)[i].path_ = true := List.pairwise_iff_getElem.1 hsort (i - 1) i (by omega) hc (by omega)
     rw [if_pos (by simpa using hz), a1, rng_ok (by omega) (by omega), bsome, ix_nat (by dsimp only; omega), bsome, ix_nat hc, bsome]
     dsimp only
     rw [hlt, if_neg (by simp; omega), ix_zero h0, bsome, hat, if_neg (by simp)]
     exact hin
    ·
     rw [if_neg (by simpa using hz), ix_nat hc, bsome]
     rw [if_neg (by simp; omega), ix_zero h0, bsome, hat, if_neg (by simp)]
     exact hin
   ·
    rw [if_neg (by simpa using hc)]
 exact outer n 0 (by omega) (by omega)
#print axioms law_NormTwice
end Go.Zv.G
