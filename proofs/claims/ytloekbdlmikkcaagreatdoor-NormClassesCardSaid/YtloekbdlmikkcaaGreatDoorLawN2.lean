/- Plain laws: what the plain functions say. No condition. -/
import Derived.Test.YtloekbdlmikkcaaGreatDoorLawN1
set_option linter.unusedSimpArgs false
set_option linter.unusedVariables false
namespace Go.Zv.G
open Go Go.Zv Go.Proofs
set_option maxRecDepth 100000
attribute [local simp high] bsome
theorem normP_valid {p : GPatch} (h : pvalid p = true) (hne : (normP p).hunks_ ≠ []) : pvalid (normP p) = true := by
 unfold pvalid at h
 rw [Bool.and_eq_true, Bool.and_eq_true, Bool.and_eq_true, beq_iff_eq] at h
 obtain ⟨h1, h2, h3, h4⟩ := h
 obtain ⟨k1, k2⟩ := hckE_zero2 h3
 have hk : hckE (normHs 0 p.hunks_) = 0 := zero_hckE (Nat.le_trans (normHs_le _ _) k1) (normHs_ok _ 0 0 (by omega) (by omega) k2)
 unfold pvalid normP
 rw [Bool.and_eq_true, Bool.and_eq_true, Bool.and_eq_true, beq_iff_eq]
 refine ⟨h1, h2, hk, ?_⟩
 dsimp only
 rw [Bool.or_eq_true] at h4 ⊢
 rcases h4 with h4 | h4
 ·
  exact .inl h4
 ·
  refine .inr ?_
  revert h4 hne
  cases hp : p.hunks_ with
  | nil => intro _ h; cases h
  | cons g l =>
   cases l with
   | cons g' l => intro _ h; cases h
   | nil =>
    intro hne h4
    rw [Bool.and_eq_true, Bool.and_eq_true] at h4
    obtain ⟨q1, q2, q3⟩ := h4
    have tl := trimL_len g.old_ g.new_
    unfold normP at hne
    rw [hp] at hne
    dsimp only at hne
    rw [normHs] at hne ⊢
    split at hne
    ·
     rename_i hc
     rw [if_pos hc]
     show ((0 : Int) == 0 && ((p.was_ || (trimL g.old_ g.new_).1.length == 0) && (p.stays_ || (trimL g.old_ g.new_).2.length == 0))) = true
     rw [Bool.and_eq_true, Bool.and_eq_true]
     refine ⟨rfl, ?_, ?_⟩
     ·
      rw [Bool.or_eq_true, beq_iff_eq] at q2 ⊢
      exact q2.imp id fun h => by omega
     ·
      rw [Bool.or_eq_true, beq_iff_eq] at q3 ⊢
      exact q3.imp id fun h => by omega
    ·
     exact absurd rfl hne
abbrev SortedP (l : List GPatch) : Prop := l.Pairwise fun p q => Op.bytesLess p.path_ q.path_ = true
theorem less_iff (a b : S) : Op.bytesLess a b = true ↔ a < b := by rw [less_eq]; simp
theorem insG_sorted {r : GPatch} : ∀ {l : List GPatch}, SortedP l → (∀ x ∈ l, x.path_ ≠ r.path_) → SortedP (insG r l)
 | [], _, _ => by simp [insG, SortedP]
 | x :: xs, h, hn => by
  rw [insG]
  have hp := List.pairwise_cons.1 h
  split
  ·
   rename_i hlt
   refine List.pairwise_cons.2 ⟨fun y hy => ?_, insG_sorted hp.2 fun y hy => hn y (by simp [hy])⟩
   rcases (insG_mem r).1 hy with rfl | hy
   ·
    exact hlt
   ·
    exact hp.1 y hy
  ·
   rename_i hlt
   have hlt' : r.path_ < x.path_ := by
    rcases s_tri x.path_ r.path_ with h1 | h1 | h1
    ·
     exact absurd ((less_iff _ _).2 h1) hlt
    ·
     exact absurd h1 (hn x (by simp))
    ·
     exact h1
   refine List.pairwise_cons.2 ⟨fun y hy => ?_, h⟩
   rw [less_iff]
   rcases List.mem_cons.1 hy with rfl | hy
   ·
    exact hlt'
   ·
    exact s_trans hlt' ((less_iff _ _).1 (hp.1 y hy))
theorem sortP_sorted : ∀ {l : List GPatch}, (l.map GPatch.path_).Nodup → SortedP (sortP l)
 | [], _ => by simp [sortP, SortedP]
 | r :: rs, h => by
  rw [List.map_cons, List.nodup_cons] at h
  rw [sortP]
  refine insG_sorted (sortP_sorted h.2) fun x hx e => h.1 ?_
  rw [← e]
  exact List.mem_map_of_mem (sortP_mem.1 hx)
theorem sortedP_nodup {l : List GPatch} (h : SortedP l) : (l.map GPatch.path_).Nodup := by
 rw [List.nodup_iff_pairwise_ne, List.pairwise_map]
 exact h.imp fun {p q} h e => by
  rw [less_iff, e] at h
  exact s_irrefl _ h
theorem normG_mem {l : List GPatch} {x : GPatch} : x ∈ normG l ↔ ∃ p ∈ l, x = normP p ∧ x.hunks_ ≠ [] := by
 unfold normG normPs
 rw [sortP_mem, List.mem_filter, List.mem_map]
 constructor
 ·
  rintro ⟨⟨p, h1, rfl⟩, h2⟩
  exact ⟨p, h1, rfl, by simpa using h2⟩
 ·
  rintro ⟨p, h1, rfl, h2⟩
  exact ⟨⟨p, h1, rfl⟩, by simpa using h2⟩
theorem normG_sorted {l : List GPatch} (h : (l.map GPatch.path_).Nodup) : SortedP (normG l) := sortP_sorted (normPs_nodup h)
theorem normG_valid {l : List GPatch} (h : nckE l = 0) : nckE (normG l) = 0 := by
 obtain ⟨h1, h2, h3⟩ := nckE_zero' h
 refine nckE_zero (Nat.le_trans (normG_len l) h1) (sortedP_nodup (normG_sorted h2)) fun x hx => ?_
 obtain ⟨p, hp, rfl, hne⟩ := normG_mem.1 hx
 exact normP_valid (h3 p hp) hne
theorem f_norm_Norm_ok {n : Nat} (hn : 2000 < n) {l : List GPatch} (h : nckE l = 0) : f_norm_Norm n l = some (normG l, 0) := by
 obtain ⟨h1, h2, h3⟩ := nckE_zero' h
 unfold f_norm_Norm
 rw [f_norm_Check_eq (by omega), bsome, h, if_neg (by simp), f_norm_norm_eq hn (by omega) (fun p hp => small_of (h3 p hp)) h2, bsome]
end Go.Zv.G
namespace Go.Zv.G
open Go Go.Zv Go.Proofs
set_option maxRecDepth 100000
attribute [local simp high] bsome
def Mid (l : List S) : Prop := l.length ≤ 200 ∧ ∀ s ∈ l, s.length ≤ 3000
theorem long13big {n : Nat} (hn : 300 < n) (l : List S) : ∃ b, f_sidingref13_Long n l = some b ∧ (b = false → Mid l) := by
 have key : ∀ (m i : Nat), i ≤ l.length → i ≤ 201 → 202 ≤ m + i → (∀ s ∈ l.take i, s.length ≤ 3000) → ∃ b, f_sidingref13_Long_L5 l m (i : Int) = some b ∧ (b = false → Mid l) := by
  intro m
  induction m with
  | zero => intro i h1 h2 h3; omega
  | succ m ih =>
   intro i h1 h2 h3 h4
   rw [f_sidingref13_Long_L5.eq_2]
   by_cases hc : i < l.length ∧ i ≤ 200
   ·
    rw [if_pos (by simp; omega), ix_nat hc.1, bsome]
    by_cases h5 : 3000 < l[i].length
    ·
     rw [if_pos (by simp; omega)]
     exact ⟨true, rfl, fun h => by cases h⟩
    ·
     rw [if_neg (by simp; omega), rng_succ (by omega), bsome]
     refine ih (i + 1) hc.1 (by omega) (by omega) fun s hs => ?_
     rw [List.take_succ_eq_append_getElem hc.1, List.mem_append, List.mem_singleton] at hs
     rcases hs with hs | rfl
     ·
      exact h4 s hs
     ·
      omega
   ·
    rw [if_neg (by simp; omega)]
    refine ⟨_, rfl, fun h => ?_⟩
    have h6 : l.length ≤ 200 := by simp at h; omega
    have : i = l.length := by omega
    rw [this, List.take_length] at h4
    exact ⟨h6, h4⟩
 exact key n 0 (by omega) (by omega) (by omega) (by simp)
def MidH (l : List GHunk) : Prop := l.length ≤ 60 ∧ ∀ h ∈ l, Mid h.old_ ∧ Mid h.new_
theorem long15 {n : Nat} (hn : 300 < n) (l : List GHunk) : ∃ b, f_sidingref15_Long n l = some b ∧ (b = false → MidH l) := by
 have key : ∀ (m i : Nat), i ≤ l.length → i ≤ 61 → 62 ≤ m + i → (∀ h ∈ l.take i, Mid h.old_ ∧ Mid h.new_) → ∃ b, f_sidingref15_Long_L5 n l m (i : Int) = some b ∧ (b = false → MidH l) := by
  intro m
  induction m with
  | zero => intro i h1 h2 h3; omega
  | succ m ih =>
   intro i h1 h2 h3 h4
   rw [f_sidingref15_Long_L5.eq_2]
   by_cases hc : i < l.length ∧ i ≤ 60
   ·
    rw [if_pos (by simp; omega), ix_nat hc.1, bsome]
    obtain ⟨b, e1, e2⟩ := long13big hn l[i].old_
    rw [e1, bsome]
    cases b with
    | true => rw [if_pos rfl]; exact ⟨true, rfl, fun h => by cases h⟩
    | false =>
     rw [if_neg (by simp)]
     obtain ⟨c, e3, e4⟩ := long13big hn l[i].new_
     rw [e3, bsome]
     cases c with
     | true => rw [if_pos rfl]; exact ⟨true, rfl, fun h => by cases h⟩
     | false =>
      rw [if_neg (by simp), rng_succ (by omega), bsome]
      refine ih (i + 1) hc.1 (by omega) (by omega) fun h hh => ?_
      rw [List.take_succ_eq_append_getElem hc.1, List.mem_append, List.mem_singleton] at hh
      rcases hh with hh | rfl
      ·
       exact h4 h hh
      ·
       exact ⟨e2 rfl, e4 rfl⟩
   ·
    rw [if_neg (by simp; omega)]
    refine ⟨_, rfl, fun h => ?_⟩
    have h6 : l.length ≤ 60 := by simp at h; omega
    have : i = l.length := by omega
    rw [this, List.take_length] at h4
    exact ⟨h6, h4⟩
 exact key n 0 (by omega) (by omega) (by omega) (by simp)
theorem text13 {n : Nat} (hn : 300 < n) {l : List S} (hl : Mid l) : ∃ t, f_sidingref13_Text n l = some t ∧ t.length ≤ 3001 * l.length := by
 have h200 := hl.1
 have hlm := hlim
 have key : ∀ (m i : Nat) (v : S), i ≤ l.length → v.length ≤ 3001 * i → l.length < m + i → ∃ t, f_sidingref13_Text_L6 l m v (i : Int) = some t ∧ t.length ≤ 3001 * l.length := by
  intro m
  induction m with
  | zero => intro i v h1 h2 h3; omega
  | succ m ih =>
   intro i v h1 h2 h3
   rw [f_sidingref13_Text_L6.eq_2]
   by_cases hc : i < l.length
   ·
    have hx := hl.2 _ (List.getElem_mem hc)
    rw [if_pos (by simpa using hc)]
    by_cases h0 : 0 < i
    ·
     rw [if_pos (by simpa using h0), need_ok (by omega), bsome]
     unfold f_sidingref13_Text_J15
     rw [ix_nat hc, bsome, need_ok (by simp; omega), bsome, rng_succ (by omega), bsome]
     exact ih (i + 1) _ hc (by simp; omega) (by omega)
    ·
     rw [if_neg (by simpa using h0)]
     unfold f_sidingref13_Text_J15
     rw [ix_nat hc, bsome, need_ok (by omega), bsome, rng_succ (by omega), bsome]
     exact ih (i + 1) _ hc (by simp; omega) (by omega)
   ·
    rw [if_neg (by simpa using hc)]
    exact ⟨v, rfl, Nat.le_trans h2 (Nat.mul_le_mul_left _ h1)⟩
 exact key n 0 [] (by omega) (by simp) (by omega)
def MidP (l : List GPatch) : Prop := l.length ≤ 40 ∧ ∀ p ∈ l, p.path_.length ≤ 200 ∧ MidH p.hunks_
theorem long17 {n : Nat} (hn : 300 < n) (l : List GPatch) : ∃ b, f_sidingref17_Long n l = some b ∧ (b = false → MidP l) := by
 have key : ∀ (m i : Nat) (v : Int), i ≤ l.length → i ≤ 41 → 42 + 61 ≤ m + i → 0 ≤ v → v ≤ 80000000 * (i : Int) → (∀ p ∈ l.take i, p.path_.length ≤ 200 ∧ MidH p.hunks_) → ∃ b, f_sidingref17_Long_L6 n l m v (i : Int) = some b ∧ (b = false → MidP l) := by
  intro m
  induction m with
  | zero => intro i v h1 h2 h3; omega
  | succ m ih =>
   intro i v h1 h2 h3 v1 v2 h4
   rw [f_sidingref17_Long_L6.eq_2]
   by_cases hc : i < l.length ∧ i ≤ 40
   ·
    rw [if_pos (by simp; omega), ix_nat hc.1, bsome]
    by_cases h5 : 200 < l[i].path_.length
    ·
     rw [if_pos (by simp; omega)]
     exact ⟨true, rfl, fun h => by cases h⟩
    rw [if_neg (by simp; omega)]
    obtain ⟨b, e1, e2⟩ := long15 hn l[i].hunks_
    rw [e1, bsome]
    cases b with
    | true => rw [if_pos rfl]; exact ⟨true, rfl, fun h => by cases h⟩
    | false =>
     rw [if_neg (by simp)]
     have hm := e2 rfl
     have hm1 := hm.1
     have inner : ∀ (k j : Nat) (u : Int), j ≤ l[i].hunks_.length → l[i].hunks_.length < k + j → 0 ≤ u → u ≤ v + 1300000 * (j : Int) → ∃ b, f_sidingref17_Long_L27 n l (i : Int) (fun a b => f_sidingref17_Long_L6 n l m a b) k u (j : Int) = some b ∧ (b = false → MidP l) := by
      intro k
      induction k with
      | zero => intro j u g1 g2; omega
      | succ k ihk =>
       intro j u g1 g2 g3 g4
       rw [f_sidingref17_Long_L27.eq_2, ix_nat hc.1, bsome]
       by_cases hj : j < l[i].hunks_.length
       ·
        obtain ⟨q1, q2⟩ := hm.2 _ (List.getElem_mem hj)
        obtain ⟨t1, t2, t3⟩ := text13 (n := n) hn q1
        obtain ⟨t4, t5, t6⟩ := text13 (n := n) hn q2
        have q3 := q1.1
        have q4 := q2.1
        have b1 : t1.length ≤ 600200 := Nat.le_trans t3 (by omega)
        have b2 : t4.length ≤ 600200 := Nat.le_trans t6 (by omega)
        rw [if_pos (by simpa using hj), ix_nat hj, bsome, t2, bsome, t5, bsome, rng_ok (by omega) (by omega), bsome, rng_ok (by omega) (by omega), bsome, rng_succ (by omega), bsome]
        exact ihk (j + 1) _ hj (by omega) (by omega) (by omega)
       ·
        rw [if_neg (by simpa using hj), rng_succ (by omega), bsome]
        refine ih (i + 1) u hc.1 (by omega) (by omega) g3 (by omega) fun p hp => ?_
        rw [List.take_succ_eq_append_getElem hc.1, List.mem_append, List.mem_singleton] at hp
        rcases hp with hp | rfl
        ·
         exact h4 p hp
        ·
         exact ⟨by omega, hm⟩
     exact inner m 0 v (by omega) (by omega) v1 (by omega)
   ·
    rw [if_neg (by simp; omega)]
    refine ⟨_, rfl, fun h => ?_⟩
    have h6 : l.length ≤ 40 := by simp at h; omega
    have : i = l.length := by omega
    rw [this, List.take_length] at h4
    exact ⟨h6, h4⟩
 exact key n 0 0 (by omega) (by omega) (by omega) (by omega) (by omega) (by simp)
theorem MidP.fits {n : Nat} (hn : 3000 < n) {l : List GPatch} (h : MidP l) : ∀ p ∈ l, ∀ h ∈ p.hunks_, Fits n h := by
 intro p hp g hg
 obtain ⟨q1, q2⟩ := (h.2 p hp).2.2 g hg
 have := q1.1
 have := q2.1
 exact ⟨by omega, by omega, by omega, by omega⟩
end Go.Zv.G
namespace Go.Zv.G
open Go Go.Zv Go.Proofs
set_option maxRecDepth 100000
attribute [local simp high] bsome
theorem fit17 {n : Nat} (hn : 3000 < n) (l : List GPatch) : ∃ r, f_sidinglaw17_fit n l = some r ∧ (r = true → nckE l = 0 ∧ MidP l) := by
 unfold f_sidinglaw17_fit
 obtain ⟨b, e1, e2⟩ := long17 (n := n) (by omega) l
 rw [e1, bsome]
 cases b with
 | true => exact ⟨false, by simp, fun h => by cases h⟩
 | false =>
  have hm := e2 rfl
  rw [if_pos (by simp), f_sidingref17_Check_eq hn l (hm.fits hn), bsome]
  exact ⟨_, rfl, fun h => ⟨by simpa using h, hm⟩⟩
end Go.Zv.G
namespace Go.Zv.G
open Go Go.Zv
set_option maxRecDepth 100000
attribute [local simp high] bsome
theorem fb {β : Type} (x : Int) (f : Int → Option β) : (frc x).bind f = f x := by rw [frc_eq]; rfl
theorem nb {β : Type} {p : Prop} [Decidable p] (h : p) (f : Unit → Option β) : (need p).bind f = f () := by rw [need_ok h]; rfl
theorem rb {β : Type} {x : Int} (h1 : -9223372036854775808 ≤ x) (h2 : x < 9223372036854775808) (f : Int → Option β) : (rng x).bind f = f x := by rw [rng_ok h1 h2]; rfl
theorem wrap64_nn (x : Int) : 0 ≤ IntKind.u64.wrap x := by
 simp [IntKind.wrap, IntKind.signed, IntKind.bits]
 omega
def RotOK (k : Int) : Prop := 0 ≤ k ∧ k ≤ 64 ∧ 0 ≤ bitsOf .and .u64 (IntKind.u64.wrap (0 - k)) 31
theorem rot_some {n : Nat} (x k : Int) (hk : RotOK k) : ∃ r, f_math_bits_RotateLeft32 n x (0 - k) = some r := by
 unfold f_math_bits_RotateLeft32
 rw [fb, fb, nb hk.2.2, fb, fb, nb (wrap64_nn _), fb, fb]
 exact ⟨_, rfl⟩
theorem turns_some {n : Nat} (p1 : Int) (l : List Int) (hl : l.length < 100) (hk : ∀ k ∈ l, RotOK k) : ∀ (m i : Nat) (v : Int), i ≤ l.length → l.length < m + i → ∃ r, f_sha_turns_L6 n p1 l m v (i : Int) = some r := by
 intro m
 induction m with
 | zero => intro i v h1 h2; omega
 | succ m ih =>
  intro i v h1 h2
  rw [f_sha_turns_L6.eq_2]
  by_cases hc : i < l.length
  ·
   have hx := hk _ (List.getElem_mem hc)
   obtain ⟨r, hr⟩ := rot_some (n := n) p1 l[i] hx
   rw [if_pos (by simpa using hc), ix_nat hc, bsome, rb (by have := hx.1; have := hx.2.1; omega) (by have := hx.1; omega), hr, bsome, fb, rng_succ (by omega), bsome]
   exact ih (i + 1) _ hc (by omega)
  ·
   rw [if_neg (by simpa using hc)]
   exact ⟨_, rfl⟩
theorem f_sha_turns_some {n : Nat} (hn : 10 < n) (p1 : Int) (l : List Int) (hl : l.length < 10) (hk : ∀ k ∈ l, RotOK k) : ∃ r, f_sha_turns n p1 l = some r :=
 turns_some p1 l (by omega) hk n 0 0 (by omega) (by omega)
theorem rotA : ∀ k ∈ ([6, 11, 25] : List Int), RotOK k := by
 intro k hk
 simp only [List.mem_cons, List.not_mem_nil, or_false] at hk
 rcases hk with rfl | rfl | rfl <;> exact ⟨by decide, by decide, by decide⟩
theorem rotB : ∀ k ∈ ([2, 13, 22] : List Int), RotOK k := by
 intro k hk
 simp only [List.mem_cons, List.not_mem_nil, or_false] at hk
 rcases hk with rfl | rfl | rfl <;> exact ⟨by decide, by decide, by decide⟩
theorem rotC : ∀ k ∈ ([7, 18] : List Int), RotOK k := by
 intro k hk
 simp only [List.mem_cons, List.not_mem_nil, or_false] at hk
 rcases hk with rfl | rfl <;> exact ⟨by decide, by decide, by decide⟩
theorem rotD : ∀ k ∈ ([17, 19] : List Int), RotOK k := by
 intro k hk
 simp only [List.mem_cons, List.not_mem_nil, or_false] at hk
 rcases hk with rfl | rfl <;> exact ⟨by decide, by decide, by decide⟩
theorem take161 (a : Nat → Int) : ∀ (m i : Nat) (v : Nat → Int), i ≤ 8 → 8 < m + i → ∃ r, f_sha_take_L161 a m v (i : Int) = some r := by
 intro m
 induction m with
 | zero => intro i v h1 h2; omega
 | succ m ih =>
  intro i v h1 h2
  rw [f_sha_take_L161.eq_2]
  by_cases hc : i < 8
  ·
   rw [if_pos (by simp; omega), nb (by omega), fb, rng_succ (by omega), bsome]
   exact ih (i + 1) _ hc (by omega)
  ·
   rw [if_neg (by simp; omega)]
   exact ⟨_, rfl⟩
theorem take103 {n : Nat} (hn : 100 < n) (p v55 : Nat → Int) : ∀ (m i : Nat) (v : Nat → Int), i ≤ 64 → 64 < m + i → ∃ r, f_sha_take_L103 n p v55 m v (i : Int) = some r := by
 intro m
 induction m with
 | zero => intro i v h1 h2; omega
 | succ m ih =>
  intro i v h1 h2
  rw [f_sha_take_L103.eq_2]
  by_cases hc : i < 64
  ·
   obtain ⟨r1, e1⟩ := f_sha_turns_some (n := n) (by omega) (v 4) [6, 11, 25] (by simp) rotA
   obtain ⟨r2, e2⟩ := f_sha_turns_some (n := n) (by omega) (v 0) [2, 13, 22] (by simp) rotB
   rw [if_pos (by simp; omega), e1, bsome, fb, fb, fb, fb, fb, fb, nb (by omega), fb, fb, e2, bsome, fb, fb, fb, fb, fb, fb, fb, fb, rng_succ (by omega), bsome]
   exact ih (i + 1) _ hc (by omega)
  ·
   rw [if_neg (by simp; omega)]
   exact take161 v n 0 p (by omega) (by omega)
theorem take54 {n : Nat} (hn : 100 < n) (p : Nat → Int) : ∀ (m i : Nat) (v : Nat → Int), 16 ≤ i → i ≤ 64 → 64 < m + i → ∃ r, f_sha_take_L54 n p m v (i : Int) = some r := by
 intro m
 induction m with
 | zero => intro i v h0 h1 h2; omega
 | succ m ih =>
  intro i v h0 h1 h2
  rw [f_sha_take_L54.eq_2]
  by_cases hc : i < 64
  ·
   obtain ⟨r1, e1⟩ := f_sha_turns_some (n := n) (by omega) (v ((i : Int) - 15).toNat) [7, 18] (by simp) rotC
   obtain ⟨r2, e2⟩ := f_sha_turns_some (n := n) (by omega) (v ((i : Int) - 2).toNat) [17, 19] (by simp) rotD
   rw [if_pos (by simp; omega), rb (by omega) (by omega), nb (by omega), rb (by omega) (by omega), nb (by omega), rb (by omega) (by omega), nb (by omega), rb (by omega) (by omega), nb (by omega), fb, e1, bsome, fb, fb, fb, e2, bsome, fb, fb, fb, nb (by omega), rng_succ (by omega), bsome]
   exact ih (i + 1) _ (by omega) hc (by omega)
  ·
   rw [if_neg (by simp; omega)]
   exact take103 hn p v n 0 p (by omega) (by omega)
theorem take26 (v8 : Int) (h8 : 0 ≤ v8 ∧ v8 < 64) (l : List UInt8) (hl : l.length < 1000) (rec : (Nat → Int) → Int → Option (Nat → Int)) (hr : ∀ v, ∃ r, rec v (v8 + 1) = some r) : ∀ (m i : Nat) (v : Nat → Int), i ≤ l.length → l.length < m + i → ∃ r, f_sha_take_L26 v8 l rec m v (i : Int) = some r := by
 intro m
 induction m with
 | zero => intro i v h1 h2; omega
 | succ m ih =>
  intro i v h1 h2
  rw [f_sha_take_L26.eq_2]
  by_cases hc : i < l.length
  ·
   have hb : IntKind.u32.wrap ((l[i].toNat : Nat) : Int) = ((l[i].toNat : Nat) : Int) := by
    have := l[i].toNat_lt
    simp [IntKind.wrap, IntKind.signed, IntKind.bits]
    omega
   rw [if_pos (by simpa using hc), ix_nat hc, bsome, nb h8, fb, nb hb, fb, rng_succ (by omega), bsome]
   exact ih (i + 1) _ hc (by omega)
  ·
   rw [if_neg (by simpa using hc), rb (by omega) (by omega)]
   exact hr v
theorem take6 {n : Nat} (hn : 100 < n) (p : Nat → Int) (l : List UInt8) (hl : l.length = 64) : ∀ (m i : Nat) (v : Nat → Int), i ≤ 16 → 30 < m + i → ∃ r, f_sha_take_L6 n p l m v (i : Int) = some r := by
 intro m
 induction m with
 | zero => intro i v h1 h2; omega
 | succ m ih =>
  intro i v h1 h2
  rw [f_sha_take_L6.eq_2]
  by_cases hc : i < 16
  ·
   have e1 : (4 : Int) * (i : Int) = ((4 * i : Nat) : Int) := by omega
   have e2 : (4 : Int) * (i : Int) + 4 = ((4 * i + 4 : Nat) : Int) := by omega
   rw [if_pos (by simp; omega), rb (by omega) (by omega), rb (by omega) (by omega), rb (by omega) (by omega), e2, e1, cutI_nat (by omega) (by omega), bsome]
   refine take26 (i : Int) (by omega) _ (by simp; omega) _ (fun v => ?_) m 0 v (by omega) (by simp; omega)
   exact ih (i + 1) v hc (by omega)
  ·
   rw [if_neg (by simp; omega)]
   have : i = 16 := by omega
   subst this
   exact take54 hn p n 16 v (by omega) (by omega) (by omega)
theorem f_sha_take_some {n : Nat} (hn : 100 < n) (p : Nat → Int) (l : List UInt8) (hl : l.length = 64) : ∃ r, f_sha_take n p l = some r :=
 take6 hn p l hl n 0 zeroA (by omega) (by omega)
theorem write11 {n : Nat} (hn : 100 < n) (i3 : Int) : ∀ (m : Nat) (v : Nat → Int) (l : List UInt8), l.length ≤ lim → l.length < 64 * m → ∃ a r, f_sha_write_L11 n i3 m v l = some (a, r, i3) ∧ r.length < 64 := by
 intro m
 induction m with
 | zero => intro v l h0 h; omega
 | succ m ih =>
  intro v l h0 h
  rw [f_sha_write_L11.eq_2]
  by_cases hc : 64 ≤ l.length
  ·
   have e1 : cutI l 0 64 = some ((l.take 64).drop 0) := cutI_nat (a := 0) (b := 64) (by omega) hc
   have e2 : cutI l 64 (l.length : Int) = some ((l.take l.length).drop 64) := cutI_nat (a := 64) (b := l.length) (by omega) (by omega)
   obtain ⟨r, hr⟩ := f_sha_take_some hn v ((l.take 64).drop 0) (by simp; omega)
   rw [if_pos (by simp; omega), e1, bsome, hr, bsome, e2, bsome]
   exact ih r _ (by simp; omega) (by simp; omega)
  ·
   rw [if_neg (by simp; omega)]
   unfold lmt
   rw [if_pos h0, bsome]
   exact ⟨v, l, rfl, by omega⟩
theorem f_slices_Concat_byte_two {n : Nat} (hn : 10 < n) (a b : List UInt8) (h : a.length + b.length ≤ lim) : f_slices_Concat_byte n [a, b] = some (a ++ b) := by
 obtain ⟨m, rfl⟩ : ∃ m, n = m + 3 := ⟨n - 3, by omega⟩
 have hl : lim = 2147483648 := rfl
 unfold f_slices_Concat_byte
 have i0 : ix [a, b] (0 : Int) = some a := rfl
 have i1 : ix [a, b] ((0 : Int) + 1) = some b := rfl
 rw [f_slices_Concat_byte_L6.eq_2, if_pos (by simp), i0, bsome, rb (by omega) (by omega), if_neg (by simp only [decide_eq_true_eq]; omega), rb (by omega) (by omega)]
 show f_slices_Concat_byte_L6 (m + 3) [a, b] (m + 1 + 1) _ _ = _
 rw [f_slices_Concat_byte_L6.eq_2, if_pos (by simp), i1, bsome, rb (by omega) (by omega), if_neg (by simp only [decide_eq_true_eq]; omega), rb (by omega) (by omega)]
 show f_slices_Concat_byte_L6 (m + 3) [a, b] (m + 1) _ _ = _
 rw [f_slices_Concat_byte_L6.eq_2, if_neg (by simp)]
 unfold growI
 rw [if_pos ⟨rfl, by omega, by omega⟩, bsome]
 show f_slices_Concat_byte_L32 [a, b] (m + 2 + 1) _ _ = _
 rw [f_slices_Concat_byte_L32.eq_2, if_pos (by simp), i0, bsome, nb (by simp; omega), rb (by omega) (by omega)]
 show f_slices_Concat_byte_L32 [a, b] (m + 1 + 1) _ _ = _
 rw [f_slices_Concat_byte_L32.eq_2, if_pos (by simp), i1, bsome, nb (by simp; omega), rb (by omega) (by omega)]
 show f_slices_Concat_byte_L32 [a, b] (m + 1) _ _ = _
 rw [f_slices_Concat_byte_L32.eq_2, if_neg (by simp)]
 rfl
theorem f_sha_write_some {n : Nat} (hn : 40000 < n) (v : Nat → Int) (a : List UInt8) (c : Int) (b : List UInt8) (ha : a.length < 64) (hb : b.length ≤ 1000000) (hc : 0 ≤ c ∧ c ≤ 1000000000) :
  ∃ x r, f_sha_write n v a c b = some (x, r, c + (b.length : Int)) ∧ r.length < 64 := by
 have hl : lim = 2147483648 := rfl
 unfold f_sha_write
 rw [rb (by omega) (by omega), f_slices_Concat_byte_two (by omega) a b (by omega), bsome]
 exact write11 (by omega) _ n v (a ++ b) (by simp; omega) (by simp; omega)
theorem pad15 (p1 : Int) : ∀ (m i : Nat) (v : List UInt8), i ≤ 8 → 8 < m + i → v.length < 1000 + i → ∃ r, f_sha_pad_L15 p1 m v (i : Int) = some r ∧ r.length < 1010 := by
 have hl : lim = 2147483648 := rfl
 intro m
 induction m with
 | zero => intro i v h1 h2; omega
 | succ m ih =>
  intro i v h1 h2 h3
  rw [f_sha_pad_L15.eq_2]
  by_cases hc : i < 8
  ·
   rw [if_pos (by simp; omega), fb, fb, rb (by omega) (by omega), rb (by omega) (by omega), nb (by omega), fb]
   unfold frc8
   rw [frc_eq, bsome, bsome, nb (by omega), rng_succ (by omega), bsome]
   exact ih (i + 1) _ hc (by omega) (by simp; omega)
  ·
   rw [if_neg (by simp; omega)]
   exact ⟨_, rfl, by omega⟩
theorem f_sha_pad_some {n : Nat} (hn : 100 < n) {p1 : Int} (h0 : 0 ≤ p1) : ∃ r, f_sha_pad n p1 = some r ∧ r.length < 1010 := by
 have hl : lim = 2147483648 := rfl
 have a1 : 0 ≤ Int.tmod p1 64 ∧ Int.tmod p1 64 < 64 := by
  rw [Int.tmod_eq_emod_of_nonneg h0]; omega
 have a2 : 0 ≤ Int.tmod (119 - Int.tmod p1 64) 64 ∧ Int.tmod (119 - Int.tmod p1 64) 64 < 64 := by
  rw [Int.tmod_eq_emod_of_nonneg (a := 119 - Int.tmod p1 64) (by omega)]; omega
 unfold f_sha_pad
 rw [fb, rb (by omega) (by omega), fb, nb (by omega), nb (by omega)]
 exact pad15 p1 n 0 _ (by omega) (by omega) (by simp; omega)
theorem fin25 (r6 : (Nat → Int) × (List UInt8) × Int) (v14 : Int) (h14 : 0 ≤ v14 ∧ v14 < 8) (rec : (Nat → Int) → Int → Option (Nat → Int)) (hr : ∀ v, ∃ r, rec v (v14 + 1) = some r) : ∀ (m i : Nat) (v : Nat → Int), i ≤ 4 → 4 < m + i → ∃ r, f_sha_finish_L25 r6 v14 rec m v (i : Int) = some r := by
 intro m
 induction m with
 | zero => intro i v h1 h2; omega
 | succ m ih =>
  intro i v h1 h2
  rw [f_sha_finish_L25.eq_2]
  by_cases hc : i < 4
  ·
   rw [if_pos (by simp; omega), rb (by omega) (by omega), rb (by omega) (by omega), rb (by omega) (by omega), rb (by omega) (by omega), nb (by omega), fb]
   unfold frc8
   rw [frc_eq, bsome, bsome, nb (by omega), rng_succ (by omega), bsome]
   exact ih (i + 1) _ hc (by omega)
  ·
   rw [if_neg (by simp; omega), rb (by omega) (by omega)]
   exact hr v
theorem fin12 (r6 : (Nat → Int) × (List UInt8) × Int) : ∀ (m i : Nat) (v : Nat → Int), i ≤ 8 → 20 < m + i → ∃ r, f_sha_finish_L12 r6 m v (i : Int) = some r := by
 intro m
 induction m with
 | zero => intro i v h1 h2; omega
 | succ m ih =>
  intro i v h1 h2
  rw [f_sha_finish_L12.eq_2]
  by_cases hc : i < 8
  ·
   rw [if_pos (by simp; omega), nb (by omega)]
   exact fin25 r6 (i : Int) (by omega) _ (fun v => ih (i + 1) v hc (by omega)) m 0 v (by omega) (by omega)
  ·
   rw [if_neg (by simp; omega)]
   exact ⟨_, rfl⟩
theorem f_sha_finish_some {n : Nat} (hn : 40000 < n) (v : Nat → Int) (a : List UInt8) (c : Int) (ha : a.length < 64) (hc : 0 ≤ c ∧ c ≤ 1000000000) : ∃ r, f_sha_finish n v a c = some r := by
 unfold f_sha_finish
 obtain ⟨p, h1, h2⟩ := f_sha_pad_some (n := n) (by omega) hc.1
 rw [h1, bsome]
 obtain ⟨x, r, h3, _⟩ := f_sha_write_some hn v a c p ha (by omega) hc
 rw [h3, bsome]
 exact fin12 _ n 0 zeroA (by omega) (by omega)
theorem f_sha_Sum_some {n : Nat} (hn : 40000 < n) (t : List UInt8) (ht : t.length ≤ 1000000) : ∃ r, f_sha_Sum n t = some (r, 0) := by
 unfold f_sha_Sum f_sha_Start
 rw [if_neg (by simp; omega), bsome]
 obtain ⟨x, r, h1, h2⟩ := f_sha_write_some hn (litA glob0) [] 0 t (by simp) ht (by omega)
 rw [h1, bsome]
 obtain ⟨y, h3⟩ := f_sha_finish_some hn x r (0 + (t.length : Int)) h2 (by omega)
 rw [h3, bsome]
 exact ⟨_, rfl⟩
#print axioms f_sha_Sum_some
end Go.Zv.G
namespace Go.Zv.G
open Go Go.Zv
set_option maxRecDepth 100000
attribute [local simp high] bsome
theorem wsI_ok {a s : List UInt8} (hs : s ≠ []) (h : a.length + s.length ≤ lim) : wsI a s = some (a ++ s) := by
 unfold wsI
 rw [if_pos ⟨hs, h⟩]
theorem itoaI_ok {x : Int} (h0 : 0 ≤ x) (h1 : x < 100) : ∃ d, itoaI x = some d ∧ d.length ≤ 2 := by
 unfold itoaI
 rw [if_pos ⟨h0, h1⟩]
 refine ⟨_, rfl, ?_⟩
 unfold dig10
 split <;> simp
structure TextOK (h : GHunk) : Prop where
 a0 : 0 ≤ h.at_
 a1 : h.at_ < 100
 o : h.old_.length ≤ 60
 n : h.new_.length ≤ 60
 os : ∀ s ∈ h.old_, s.length ≤ 2000
 ns : ∀ s ∈ h.new_, s.length ≤ 2000
section
variable {Q : List UInt8 × Int → Prop} {v15 : Int} {x : GHunk} {rec : List UInt8 → Int → Option (List UInt8 × Int)} {C : Nat}
theorem text68 (hx : TextOK x) (h15 : 0 ≤ v15 ∧ v15 < 1000) (hC : C ≤ 100000000) (hr : ∀ a, 0 < a.length → a.length ≤ C + 60 * 2002 → ∃ r, rec a (v15 + 1) = some r ∧ Q r) : ∀ (m i : Nat) (acc : List UInt8), i ≤ x.new_.length → x.new_.length < m + i → 0 < acc.length → acc.length ≤ C + i * 2002 →
  ∃ r, f_hunk_Text_L68 v15 x rec m acc (i : Int) = some r ∧ Q r := by
 have hl : lim = 2147483648 := rfl
 have hsl : strLim = 4611686018427387904 := rfl
 have hxn := hx.n
 intro m
 induction m with
 | zero => intro i acc h1 h2; omega
 | succ m ih =>
  intro i acc h1 h2 h3 h4
  rw [f_hunk_Text_L68.eq_2]
  by_cases hc : i < x.new_.length
  ·
   have hs := hx.ns _ (List.getElem_mem hc)
   rw [if_pos (by simpa using hc), ix_nat hc, bsome, nb (by simp; omega), nb (by simp; omega), wsI_ok (by simp) (by simp; omega), bsome, rng_succ (by omega), bsome]
   exact ih (i + 1) _ hc (by omega) (by simp; omega) (by simp; omega)
  ·
   rw [if_neg (by simpa using hc), rb (by omega) (by omega)]
   exact hr acc h3 (by omega)
theorem text47 (hx : TextOK x) (h15 : 0 ≤ v15 ∧ v15 < 1000) (hC : C ≤ 10000000) (M : Nat) (hM : 100 < M) (hr : ∀ a, 0 < a.length → a.length ≤ C + 120 * 2002 → ∃ r, rec a (v15 + 1) = some r ∧ Q r) : ∀ (m i : Nat) (acc : List UInt8), i ≤ x.old_.length → x.old_.length < m + i → 0 < acc.length → acc.length ≤ C + i * 2002 →
  ∃ r, f_hunk_Text_L47 v15 M x rec m acc (i : Int) = some r ∧ Q r := by
 have hl : lim = 2147483648 := rfl
 have hsl : strLim = 4611686018427387904 := rfl
 have hxo := hx.o
 intro m
 induction m with
 | zero => intro i acc h1 h2; omega
 | succ m ih =>
  intro i acc h1 h2 h3 h4
  rw [f_hunk_Text_L47.eq_2]
  by_cases hc : i < x.old_.length
  ·
   have hs := hx.os _ (List.getElem_mem hc)
   rw [if_pos (by simpa using hc), ix_nat hc, bsome, nb (by simp; omega), nb (by simp; omega), wsI_ok (by simp) (by simp; omega), bsome, rng_succ (by omega), bsome]
   exact ih (i + 1) _ hc (by omega) (by simp; omega) (by simp; omega)
  ·
   rw [if_neg (by simpa using hc)]
   have hxn := hx.n
   exact text68 (C := C + 60 * 2002) hx h15 (by omega) (fun a p q => hr a p (by omega)) M 0 acc (by omega) (by omega) h3 (by omega)
end
theorem textC13 (l : List GHunk) (hl40 : l.length ≤ 40) (hx : ∀ x ∈ l, TextOK x) : ∀ (m i : Nat) (acc : List UInt8), i ≤ l.length → 200 < m + i → (0 < i → 0 < acc.length) → (l ≠ []) → acc.length ≤ i * 250000 →
  ∃ r : List UInt8 × Int, f_hunk_Text_L13 l m acc (i : Int) = some r ∧ (r.2 = 0 → 0 < r.1.length ∧ r.1.length ≤ 20000) := by
 have hl : lim = 2147483648 := rfl
 have hsl : strLim = 4611686018427387904 := rfl
 intro m
 induction m with
 | zero => intro i acc h1 h2; omega
 | succ m ih =>
  intro i acc h1 h2 h3 h5 h4
  rw [f_hunk_Text_L13.eq_2]
  by_cases hc : i < l.length
  ·
   have hX := hx _ (List.getElem_mem hc)
   obtain ⟨d1, e1, q1⟩ := itoaI_ok hX.a0 hX.a1
   obtain ⟨d2, e2, q2⟩ := itoaI_ok (x := (l[i].old_.length : Int)) (by omega) (by have := hX.o; omega)
   obtain ⟨d3, e3, q3⟩ := itoaI_ok (x := (l[i].new_.length : Int)) (by omega) (by have := hX.n; omega)
   rw [if_pos (by simpa using hc), ix_nat hc, bsome, e1, bsome, nb (by simp; omega), nb (by simp; omega), e2, bsome, nb (by simp; omega), nb (by simp; omega), e3, bsome, nb (by simp; omega), nb (by simp; omega), wsI_ok (by simp) (by simp; omega), bsome]
   have hXo := hX.o
   refine text47 (C := i * 250000 + 20) hX (by omega) (by omega) m (by omega) (fun a p q => ?_) m 0 _ (by omega) (by omega) (by simp; omega) (by simp; omega)
   exact ih (i + 1) a hc (by omega) (fun _ => p) h5 (by omega)
  ·
   rw [if_neg (by simpa using hc)]
   have hi : i = l.length := by omega
   by_cases hb : 20000 < acc.length
   ·
    rw [if_pos (by simp; omega)]
    exact ⟨_, rfl, fun h => by simp at h⟩
   ·
    rw [if_neg (by simp; omega)]
    have : 0 < acc.length := h3 (by rw [hi]; exact List.length_pos_iff.2 h5)
    unfold strI
    rw [if_pos (by intro e; rw [e] at this; simp at this), bsome]
    exact ⟨_, rfl, fun _ => ⟨this, by dsimp only; omega⟩⟩
theorem plainB_lines {l : List S} (h : plainB l = true) : l.length ≤ 60 ∧ ∀ s ∈ l, s.length ≤ 2000 := by
 unfold plainB at h
 simp only [Bool.and_eq_true, decide_eq_true_eq, Bool.not_eq_true', List.any_eq_false] at h
 refine ⟨h.1, fun s hs => ?_⟩
 have := h.2 s hs
 unfold badLn at this
 simp only [Bool.or_eq_true, decide_eq_true_eq, not_or, Nat.not_lt] at this
 exact this.1
theorem okHs_text : ∀ (l : List GHunk) (e : Int), okHs e l = true → ∀ x ∈ l, TextOK x
 | [], _, _, x, hx => by simp at hx
 | h :: t, e, hk, x, hx => by
  unfold okHs at hk
  simp only [Bool.and_eq_true, decide_eq_true_eq] at hk
  obtain ⟨hv, _, ht⟩ := hk
  rcases List.mem_cons.1 hx with rfl | hx
  ·
   unfold validH at hv
   simp only [Bool.and_eq_true, decide_eq_true_eq] at hv
   obtain ⟨v1, v2, v3, v4, _⟩ := hv
   exact ⟨v1, by omega, (plainB_lines v3).1, (plainB_lines v4).1, (plainB_lines v3).2, (plainB_lines v4).2⟩
  ·
   exact okHs_text t _ ht x hx
theorem f_hunk_Text_some {n : Nat} (hn : 300 < n) {l : List GHunk} (hne : l ≠ []) (h : hckE l = 0) : ∃ r : List UInt8 × Int, f_hunk_Text n l = some r ∧ (r.2 = 0 → 0 < r.1.length ∧ r.1.length ≤ 20000) := by
 obtain ⟨h1, h2⟩ := hckE_zero2 h
 unfold f_hunk_Text
 rw [f_hunk_Check_eq (by omega), bsome, h, if_neg (by simp)]
 exact textC13 l h1 (okHs_text l 0 h2) n 0 [] (by omega) (by omega) (by omega) hne (by simp)
theorem f_norm_truth_some {n : Nat} (b : Bool) : ∃ d, f_norm_truth n b = some d ∧ d.length = 1 := by
 unfold f_norm_truth
 cases b
 ·
  exact ⟨_, by rw [if_neg (by simp)], rfl⟩
 ·
  exact ⟨_, by rw [if_pos rfl], rfl⟩
structure ClassOK (p : GPatch) : Prop where
 path : p.path_.length ≤ 100
 hne : p.hunks_ ≠ []
 hk : hckE p.hunks_ = 0
theorem class16 {n : Nat} (hn : 40000 < n) (l : List GPatch) (hl24 : l.length ≤ 24) (hx : ∀ p ∈ l, ClassOK p) : ∀ (m i : Nat) (acc : List UInt8), i ≤ l.length → l.length < m + i → acc.length ≤ i * 20200 → ∃ r, f_norm_Class_L16 n l m acc (i : Int) = some r := by
 have hl : lim = 2147483648 := rfl
 have hsl : strLim = 4611686018427387904 := rfl
 intro m
 induction m with
 | zero => intro i acc h1 h2; omega
 | succ m ih =>
  intro i acc h1 h2 h4
  rw [f_norm_Class_L16.eq_2]
  by_cases hc : i < l.length
  ·
   have hX := hx _ (List.getElem_mem hc)
   obtain ⟨t, et, qt⟩ := f_hunk_Text_some (n := n) (by omega) hX.hne hX.hk
   rw [if_pos (by simpa using hc), ix_nat hc, bsome, et, bsome]
   by_cases hz : t.2 = 0
   ·
    obtain ⟨ht0, ht⟩ := qt hz
    have hp := hX.path
    obtain ⟨d1, e1, q1⟩ := f_norm_truth_some (n := n) l[i].was_
    obtain ⟨d2, e2, q2⟩ := f_norm_truth_some (n := n) l[i].stays_
    obtain ⟨d3, e3, q3⟩ := itoaI_ok (x := (l[i].hunks_.length : Int)) (by omega) (by have := (hckE_zero2 hX.hk).1; omega)
    rw [if_neg (by simpa using hz), nb (by omega), e1, bsome, nb (by simp; omega), nb (by simp; omega), e2, bsome, nb (by simp; omega), nb (by simp; omega), e3, bsome, nb (by simp; omega), nb (by simp; omega), wsI_ok (by simp) (by simp; omega), bsome,
     wsI_ok (by intro e; rw [e] at ht0; simp at ht0) (by simp; omega), bsome, rng_succ (by omega), bsome]
    exact ih (i + 1) _ hc (by omega) (by simp; omega)
   ·
    rw [if_pos (by simpa using hz)]
    exact ⟨_, rfl⟩
  ·
   rw [if_neg (by simpa using hc)]
   obtain ⟨r, hr⟩ := f_sha_Sum_some (n := n) hn acc (by omega)
   rw [hr, bsome]
   exact ⟨_, rfl⟩
theorem normG_class {l : List GPatch} (h : nckE l = 0) : (normG l).length ≤ 24 ∧ ∀ p ∈ normG l, ClassOK p := by
 have hv := normG_valid h
 obtain ⟨v1, v2, v3⟩ := nckE_zero' hv
 refine ⟨v1, fun p hp => ?_⟩
 obtain ⟨q, _, e, hne⟩ := normG_mem.1 hp
 have hv := v3 p hp
 unfold pvalid at hv
 rw [Bool.and_eq_true, Bool.and_eq_true, Bool.and_eq_true, beq_iff_eq] at hv
 refine ⟨?_, hne, hv.2.2.1⟩
 have := hv.1
 unfold okPath at this
 rw [Bool.and_eq_true, decide_eq_true_eq] at this
 omega
theorem f_norm_Class_eq {n : Nat} (hn : 40000 < n) {l : List GPatch} (h : nckE l = 0) : f_norm_Class n l = f_norm_Class_L16 n (normG l) n [] 0 := by
 obtain ⟨k1, k2, k3⟩ := nckE_zero' h
 unfold f_norm_Class
 rw [f_norm_Check_eq (by omega), bsome, h, if_neg (by simp), f_norm_norm_eq (by omega) (by omega) (fun p hp => small_of (k3 p hp)) k2, bsome]
theorem f_norm_Class_some {n : Nat} (hn : 40000 < n) {l : List GPatch} (h : nckE l = 0) : ∃ r, f_norm_Class_L16 n (normG l) n [] 0 = some r := by
 obtain ⟨h1, h2⟩ := normG_class h
 exact class16 hn _ h1 h2 n 0 [] (by omega) (by omega) (by simp)
#print axioms f_norm_Class_some
end Go.Zv.G
namespace Go.Zv.G
open Go Go.Zv
set_option maxRecDepth 100000
attribute [local simp high] bsome
theorem eqA_self (n : Nat) (a : Nat → Int) : eqA n a a = true := by simp [eqA]
theorem truth_t {n : Nat} : f_norm_truth n true = some [49] := by unfold f_norm_truth; rw [if_pos rfl]
theorem truth_f {n : Nat} : f_norm_truth n false = some [48] := by unfold f_norm_truth; rw [if_neg (by simp)]
theorem class_text {n : Nat} (hn : 40000 < n) (l : List GPatch) (hl24 : l.length ≤ 24) (hx : ∀ p ∈ l, ClassOK p) : ∀ (m i : Nat) (acc : List UInt8), i ≤ l.length → l.length < m + i → acc.length ≤ i * 20200 →
  ∃ c t, f_norm_Class_L16 n l m acc (i : Int) = some c ∧ f_sidinglaw17_text_L6 n l m acc (i : Int) = some t ∧ (t.2 ≠ 0 → c.2 = t.2) ∧ (t.2 = 0 → f_sha_Sum n t.1 = some c) := by
 have hl : lim = 2147483648 := rfl
 have hsl : strLim = 4611686018427387904 := rfl
 intro m
 induction m with
 | zero => intro i acc h1 h2; omega
 | succ m ih =>
  intro i acc h1 h2 h4
  rw [f_norm_Class_L16.eq_2, f_sidinglaw17_text_L6.eq_2]
  by_cases hc : i < l.length
  ·
   have hX := hx _ (List.getElem_mem hc)
   obtain ⟨t, et, qt⟩ := f_hunk_Text_some (n := n) (by omega) hX.hne hX.hk
   rw [if_pos (by simpa using hc), if_pos (by simpa using hc), ix_nat hc, bsome, bsome, et, bsome, bsome]
   by_cases hz : t.2 = 0
   ·
    obtain ⟨ht0, ht⟩ := qt hz
    have hp := hX.path
    have htn : t.1 ≠ [] := by intro e; rw [e] at ht0; simp at ht0
    obtain ⟨d3, e3, q3⟩ := itoaI_ok (x := (l[i].hunks_.length : Int)) (by omega) (by have := (hckE_zero2 hX.hk).1; omega)
    rw [if_neg (by simpa using hz), if_neg (by simpa using hz), nb (by omega)]
    have fin : ∀ (b1 b2 : UInt8), ∃ c t', f_norm_Class_L16 n l m ((acc ++ (l[i].path_ ++ (32 :: ([b1] ++ (32 :: ([b2] ++ (32 :: (d3 ++ [10])))))))) ++ t.1) ((i + 1 : Nat) : Int) = some c ∧
      f_sidinglaw17_text_L6 n l m ((acc ++ (l[i].path_ ++ ([32, b1] ++ ([32, b2, 32] ++ (d3 ++ [10]))))) ++ t.1) ((i + 1 : Nat) : Int) = some t' ∧ (t'.2 ≠ 0 → c.2 = t'.2) ∧ (t'.2 = 0 → f_sha_Sum n t'.1 = some c) := by
     intro b1 b2
     exact ih (i + 1) _ hc (by omega) (by simp; omega)
    have gen : ∀ (b1 b2 : UInt8), f_norm_truth n l[i].was_ = some [b1] → f_norm_truth n l[i].stays_ = some [b2] → ∃ c t',
      ((f_norm_truth n l[i].was_).bind fun r37 =>
       (need ((l[i].path_ ++ [32]).length + (r37).length ≤ strLim)).bind fun _ =>
       (need ((l[i].path_ ++ (32 :: r37)).length + ([32] : List UInt8).length ≤ strLim)).bind fun _ =>
       (f_norm_truth n l[i].stays_).bind fun r42 =>
       (need ((l[i].path_ ++ (32 :: (r37 ++ [32]))).length + (r42).length ≤ strLim)).bind fun _ =>
       (need ((l[i].path_ ++ (32 :: (r37 ++ (32 :: r42)))).length + ([32] : List UInt8).length ≤ strLim)).bind fun _ =>
       (itoaI (l[i].hunks_.length : Int)).bind fun r47 =>
       (need ((l[i].path_ ++ (32 :: (r37 ++ (32 :: (r42 ++ [32]))))).length + (r47).length ≤ strLim)).bind fun _ =>
       (need ((l[i].path_ ++ (32 :: (r37 ++ (32 :: (r42 ++ (32 :: r47)))))).length + ([10] : List UInt8).length ≤ strLim)).bind fun _ =>
       (wsI acc (l[i].path_ ++ (32 :: (r37 ++ (32 :: (r42 ++ (32 :: (r47 ++ [10])))))))).bind fun r52 =>
       (wsI r52 t.1).bind fun r55 =>
       (rng ((i : Int) + 1)).bind fun i58 =>
       (fun (a69 : List UInt8) (a70 : Int) => f_norm_Class_L16 n l m a69 a70) r55 i58) = some c ∧
      f_sidinglaw17_text_J27 l acc (i : Int) t [32, b1] (fun (a51 : List UInt8) (a52 : Int) => f_sidinglaw17_text_L6 n l m a51 a52) [32, b2, 32] = some t' ∧ (t'.2 ≠ 0 → c.2 = t'.2) ∧ (t'.2 = 0 → f_sha_Sum n t'.1 = some c) := by
     intro b1 b2 w1 w2
     obtain ⟨c, t', k1, k2, k3⟩ := fin b1 b2
     refine ⟨c, t', ?_, ?_, k3⟩
     ·
      rw [w1, bsome, nb (by simp; omega), nb (by simp; omega), w2, bsome, nb (by simp; omega), nb (by simp; omega), e3, bsome, nb (by simp; omega), nb (by simp; omega), wsI_ok (by simp) (by simp; omega), bsome,
       wsI_ok htn (by simp; omega), bsome, rng_succ (by omega), bsome]
      exact k1
     ·
      unfold f_sidinglaw17_text_J27
      rw [ix_nat hc, bsome, nb (by simp; omega), nb (by simp; omega), e3, bsome, nb (by simp; omega), nb (by simp; omega), nb (by simp; omega), nb (by simp; omega), rng_succ (by omega), bsome]
      exact k2
    cases hw : l[i].was_ with
    | true =>
     rw [if_pos rfl]
     unfold f_sidinglaw17_text_J25
     rw [ix_nat hc, bsome]
     cases hs : l[i].stays_ with
     | true =>
      rw [if_pos rfl]
      have := gen 49 49 (by rw [hw]; exact truth_t) (by rw [hs]; exact truth_t)
      rw [hw, hs] at this
      exact this
     | false =>
      rw [if_neg (by simp)]
      have := gen 49 48 (by rw [hw]; exact truth_t) (by rw [hs]; exact truth_f)
      rw [hw, hs] at this
      exact this
    | false =>
     rw [if_neg (by simp)]
     unfold f_sidinglaw17_text_J25
     rw [ix_nat hc, bsome]
     cases hs : l[i].stays_ with
     | true =>
      rw [if_pos rfl]
      have := gen 48 49 (by rw [hw]; exact truth_f) (by rw [hs]; exact truth_t)
      rw [hw, hs] at this
      exact this
     | false =>
      rw [if_neg (by simp)]
      have := gen 48 48 (by rw [hw]; exact truth_f) (by rw [hs]; exact truth_f)
      rw [hw, hs] at this
      exact this
   ·
    rw [if_pos (by simpa using hz), if_pos (by simpa using hz)]
    exact ⟨_, _, rfl, rfl, fun _ => rfl, fun h => absurd h hz⟩
  ·
   rw [if_neg (by simpa using hc), if_neg (by simpa using hc)]
   obtain ⟨r, hr⟩ := f_sha_Sum_some (n := n) hn acc (by omega)
   rw [hr, bsome]
   exact ⟨_, _, rfl, rfl, fun h => absurd rfl h, fun _ => hr⟩
theorem law_NormClasses {n : Nat} (hn : 50000 < n) (hA : f_sidinglaw17_alive n = some true) (a b : List GPatch) : f_sidinglaw17_NormClasses n a b = some true := by
 unfold f_sidinglaw17_NormClasses
 rw [hA, bsome]
 obtain ⟨r, e1, e2⟩ := fit17 (n := n) (by omega) a
 rw [e1, bsome]
 cases r with
 | false => rw [if_pos (by simp)]
 | true =>
 obtain ⟨q, f1, f2⟩ := fit17 (n := n) (by omega) b
 rw [if_neg (by simp), f1, bsome]
 cases q with
 | false => rw [if_pos (by simp)]
 | true =>
 obtain ⟨ha, _⟩ := e2 rfl
 obtain ⟨hb, _⟩ := f2 rfl
 obtain ⟨v1, v2, v3⟩ := nckE_zero' (normG_valid ha)
 obtain ⟨c1, c2⟩ := normG_class ha
 obtain ⟨c, t, k1, k2, k3, k4⟩ := class_text (n := n) (by omega) (normG a) c1 c2 n 0 [] (by omega) (by omega) (by simp)
 obtain ⟨d, hd⟩ := f_norm_Class_some (n := n) (by omega) hb
 rw [show ((0 : Nat) : Int) = 0 from rfl] at k1 k2
 rw [if_neg (by simp), f_norm_Norm_ok (by omega) ha, bsome, f_norm_Norm_ok (by omega) hb, bsome, f_norm_Same_ok (by omega) ha hb, bsome, f_norm_Class_eq (by omega) ha, k1, bsome, f_norm_Class_eq (by omega) hb, hd, bsome, if_neg (by simp),
  f_sidingref17_Equal_eq (by omega) (by omega) (fun x hx => hfit_of (by omega) (small_of (v3 x hx))), bsome, if_neg (by simp)]
 have hne : ¬ ((decide (normG a = normG b)) && ((!(eqA 32 c.1 d.1)) || (c.2 != d.2))) = true := by
  by_cases he : normG a = normG b
  ·
   rw [← he, k1] at hd
   cases hd
   simp [eqA_self]
  ·
   simp [he]
 rw [if_neg hne]
 unfold f_sidinglaw17_text
 dsimp only
 rw [k2, bsome]
 by_cases hz : t.2 = 0
 ·
  rw [if_neg (by simp [hz]), k4 hz, bsome, eqA_self]
  simp
 ·
  rw [if_pos (by simpa using hz), k3 hz]
  simp
#print axioms law_NormClasses
end Go.Zv.G
