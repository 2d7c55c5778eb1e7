/- Plain laws: what the plain functions say. No condition. -/
import Derived.Test.YtloekbdlmikkcaaGreatDoorLawC2
namespace Go.Zv.G
open Go Go.Zv Go.Proofs
set_option maxRecDepth 100000
attribute [local simp high] bsome
theorem f_sidingref17_Equal_eq {n : Nat} {p q : List GPatch} (hp : p.length < 1000000) (hn : p.length < n) (hx : ∀ x ∈ p, HFit n x.hunks_) : f_sidingref17_Equal n p q = some (decide (p = q)) := by
 unfold f_sidingref17_Equal
 by_cases hl : p.length = q.length
 case neg =>
  rw [if_pos (by simp; omega)]
  have : p ≠ q := fun e => hl (by rw [e])
  simp [this]
 rw [if_neg (by simp [hl])]
 have key : ∀ (m k fuel : Nat), p.length - k = m → k ≤ p.length → m < fuel → f_sidingref17_Equal_L8 n p q fuel (k : Int) = some (decide (p.drop k = q.drop k)) := by
  intro m
  induction m with
  | zero =>
   intro k fuel hm hk hf
   obtain ⟨fuel, rfl⟩ : ∃ k, fuel = k + 1 := ⟨fuel - 1, by omega⟩
   rw [f_sidingref17_Equal_L8.eq_2, if_neg (by simp; omega), List.drop_of_length_le (by omega), List.drop_of_length_le (by omega)]
   simp
  | succ m ih =>
   intro k fuel hm hk hf
   obtain ⟨fuel, rfl⟩ : ∃ k, fuel = k + 1 := ⟨fuel - 1, by omega⟩
   have h1 : k < p.length := by omega
   have h2 : k < q.length := by omega
   rw [f_sidingref17_Equal_L8.eq_2, if_pos (by simp; omega), ix_nat h1, bsome, ix_nat h2, bsome, ref15_Same_eq (hx _ (List.getElem_mem h1)), bsome, List.drop_eq_getElem_cons h1, List.drop_eq_getElem_cons h2]
   have hno : p[k] ≠ q[k] → some false = some (decide (p[k] :: p.drop (k + 1) = q[k] :: q.drop (k + 1))) := fun h => congrArg some (decide_eq_false (by rw [List.cons.injEq]; exact fun x => h x.1)).symm
   by_cases e1 : p[k].path_ = q[k].path_ ∧ p[k].was_ = q[k].was_ ∧ p[k].stays_ = q[k].stays_
   ·
    rw [if_neg (by simp [e1.1, e1.2.1, e1.2.2])]
    by_cases e2 : p[k].hunks_ = q[k].hunks_
    ·
     rw [if_neg (by simp [e2]), rng_succ (by omega), bsome]
     refine Eq.trans (ih (k + 1) fuel (by omega) (by omega) (by omega)) ?_
     have h := patch_eta.2 ⟨e1.1, e1.2.1, e1.2.2, e2⟩
     exact congrArg some (decide_eq_decide.2 (by rw [List.cons.injEq]; exact ⟨fun x => ⟨h, x⟩, fun x => x.2⟩))
    ·
     rw [if_pos (by simp [e2])]; exact hno fun h => e2 (by rw [h])
   ·
    rw [if_pos]
    ·
     exact hno fun h => e1 (by rw [h]; exact ⟨rfl, rfl, rfl⟩)
    ·
     simp only [Bool.or_eq_true, Bool.not_eq_true', beq_eq_false_iff_ne]
     by_cases c1 : p[k].path_ = q[k].path_
     ·
      by_cases c2 : p[k].was_ = q[k].was_
      ·
       by_cases c3 : p[k].stays_ = q[k].stays_
       ·
        exact absurd ⟨c1, c2, c3⟩ e1
       ·
        exact .inr c3
      ·
       exact .inl (.inr c2)
     ·
      exact .inl (.inl c1)
 have := key p.length 0 n rfl (by omega) hn
 simpa using this
theorem hfit_of {n : Nat} (hn : 2000 < n) {p : GPatch} (h : Small p) : HFit n p.hunks_ :=
 ⟨by have := h.1; omega, by have := h.1; omega, fun x hx => by
  obtain ⟨a, b⟩ := h.2 x hx
  exact ⟨by omega, by omega, by omega, by omega⟩⟩
theorem normHs_small : ∀ (l : List GHunk) (e : Int), (∀ h ∈ l, h.old_.length ≤ 1000 ∧ h.new_.length ≤ 1000) → (normHs e l).length ≤ l.length ∧ ∀ h ∈ normHs e l, h.old_.length ≤ 1000 ∧ h.new_.length ≤ 1000
 | [], e, _ => by simp [normHs]
 | h :: l, e, hx => by
  obtain ⟨a, b⟩ := hx h (by simp)
  obtain ⟨t1, t2⟩ := trimL_len h.old_ h.new_
  rw [normHs]
  split
  ·
   obtain ⟨i1, i2⟩ := normHs_small l (e + ((trimL h.old_ h.new_).1.length : Int) + 1) fun y hy => hx y (by simp [hy])
   refine ⟨by simp only [List.length_cons]; omega, fun y hy => ?_⟩
   rcases List.mem_cons.1 hy with rfl | hy
   ·
    exact ⟨by show (trimL h.old_ h.new_).1.length ≤ 1000; omega, by show (trimL h.old_ h.new_).2.length ≤ 1000; omega⟩
   ·
    exact i2 y hy
  ·
   obtain ⟨i1, i2⟩ := normHs_small l e fun y hy => hx y (by simp [hy])
   exact ⟨by simp only [List.length_cons]; omega, i2⟩
theorem normP_small {p : GPatch} (h : Small p) : Small (normP p) := by
 obtain ⟨a, b⟩ := normHs_small p.hunks_ 0 h.2
 exact ⟨Nat.le_trans a h.1, b⟩
theorem insG_mem (r : GPatch) : ∀ {l : List GPatch} {x : GPatch}, x ∈ insG r l ↔ x = r ∨ x ∈ l
 | [], x => by simp [insG]
 | y :: l, x => by
  unfold insG
  split
  ·
   simp only [List.mem_cons, insG_mem r (l := l)]; exact ⟨fun h => h.elim (fun h => .inr (.inl h)) fun h => h.elim .inl fun h => .inr (.inr h), fun h => h.elim (fun h => .inr (.inl h)) fun h => h.elim .inl fun h => .inr (.inr h)⟩
  ·
   simp
theorem insG_len (r : GPatch) : ∀ l : List GPatch, (insG r l).length = l.length + 1
 | [] => rfl
 | y :: l => by
  unfold insG
  split
  ·
   simp [insG_len r l]
  ·
   simp
theorem sortP_mem : ∀ {l : List GPatch} {x : GPatch}, x ∈ sortP l ↔ x ∈ l
 | [], x => by simp [sortP]
 | y :: l, x => by rw [sortP, insG_mem, sortP_mem, List.mem_cons]
theorem sortP_len : ∀ l : List GPatch, (sortP l).length = l.length
 | [] => rfl
 | y :: l => by rw [sortP, insG_len, sortP_len, List.length_cons]
theorem normG_len (l : List GPatch) : (normG l).length ≤ l.length := by
 unfold normG normPs
 rw [sortP_len]
 exact Nat.le_trans (List.length_filter_le _ _) (by simp)
theorem normG_small {l : List GPatch} (h : ∀ p ∈ l, Small p) : ∀ p ∈ normG l, Small p := by
 intro p hp
 unfold normG normPs at hp
 have := (List.mem_filter.1 (sortP_mem.1 hp)).1
 obtain ⟨q, hq, rfl⟩ := List.mem_map.1 this
 exact normP_small (h q hq)
theorem f_norm_Same_ok {n : Nat} (hn : 2000 < n) {a b : List GPatch} (ha : nckE a = 0) (hb : nckE b = 0) : f_norm_Same n a b = some (decide (normG a = normG b), 0) := by
 obtain ⟨a1, a2, a3⟩ := nckE_zero' ha
 obtain ⟨b1, b2, b3⟩ := nckE_zero' hb
 have hsa : ∀ p ∈ a, Small p := fun p hp => small_of (a3 p hp)
 have hsb : ∀ p ∈ b, Small p := fun p hp => small_of (b3 p hp)
 have hl := normG_len a
 unfold f_norm_Same
 rw [f_norm_Check_eq (by omega), ha, bsome, if_neg (by simp), f_norm_Check_eq (by omega), hb, bsome, if_neg (by simp), f_norm_norm_eq hn (by omega) hsa a2, bsome, f_norm_norm_eq hn (by omega) hsb b2, bsome,
  f_norm_same_eq (by omega) (by omega) (fun p hp => hfit_of hn (normG_small hsa p hp)), bsome]
end Go.Zv.G
namespace Go.Zv.G
open Go Go.Zv Go.Proofs
set_option maxRecDepth 100000
attribute [local simp high] bsome
theorem hok_ck {H : S → S → List GHunk} (hH : HOK H) {s t : S} (hs : txtE s = 0) (ht : txtE t = 0) : hckE (H s t) = 0 ∧ (∀ h ∈ H s t, h.old_.length ≤ 60 ∧ h.new_.length ≤ 60) ∧ (H s t = [] → s = t) := by
 obtain ⟨ps, hP, h2⟩ := hH s t hs ht
 have h1 := (lines_of_txt hs).1
 have h3 := (lines_of_txt ht).1
 have hfew := hunks_few hP
 have hfit := hunks_fit hP
 have hck : f_hunk_Check 4000 ((hunksOf (splitC 10 s) (splitC 10 t) 0 0 ps).map asHunk) = some 0 := by
  unfold f_hunk_Check
  rw [if_neg (by simp; omega)]
  refine check9 (by omega) (by omega) _ [] 0 4000 (by simp) (hunks_gaps hP) (fun x hx => ?_) (by omega)
  obtain ⟨f1, f2, f3, f4⟩ := hfit x hx
  refine ⟨by omega, by omega, by omega, fun y hy => split_good hs ?_, fun y hy => split_good ht (f3 y hy)⟩
  rw [← f2] at hy
  exact List.mem_of_mem_take (List.mem_of_mem_drop hy)
 rw [f_hunk_Check_eq (by omega)] at hck
 rw [h2]
 refine ⟨Option.some.inj hck, fun h hh => ?_, fun h => ?_⟩
 ·
  obtain ⟨x, hx, rfl⟩ := List.mem_map.1 hh
  obtain ⟨f1, f2, f3, f4⟩ := hfit x hx
  exact ⟨show x.old.length ≤ 60 by omega, show x.new.length ≤ 60 by omega⟩
 ·
  have := hunks_none hP (List.map_eq_nil_iff.1 h)
  rw [← join_split 10 s, ← join_split 10 t, this]
theorem split_plain {s : S} (h : txtE s = 0) : plainB (splitC 10 s) = true := by
 unfold plainB
 have h1 := (lines_of_txt h).1
 have : (splitC 10 s).any badLn = false := by
  rw [List.any_eq_false]; intro x hx; simp [split_good h hx]
 simp [h1, this]
theorem split_pos (s : S) : 0 < (splitC 10 s).length := by rw [splitC_length]; omega
section
variable {H : S → S → List GHunk} (hH : HOK H)
structure POK (a b : List GFile) (p : GPatch) : Prop where
 valid : pvalid p = true
 was : p.was_ = true ↔ ∃ x ∈ a, x.path_ = p.path_
 stays : p.stays_ = true ↔ ∃ x ∈ b, x.path_ = p.path_
 hunks : p.hunks_ ≠ []
 fits : ∀ h ∈ p.hunks_, h.old_.length ≤ 60 ∧ h.new_.length ≤ 60
theorem dl_path {a b : List GFile} {l : List GPatch} (h : DL H a b l) : ∀ p ∈ l, (∃ x ∈ a, x.path_ = p.path_) ∨ ∃ x ∈ b, x.path_ = p.path_ := by
 induction h with
 | nil => intro p hp; cases hp
 | @gone x a b l _ _ ih =>
  intro p hp
  rcases List.mem_cons.1 hp with rfl | hp
  ·
   exact .inl ⟨x, by simp, rfl⟩
  ·
   rcases ih p hp with ⟨y, h1, h2⟩ | h1
   ·
    exact .inl ⟨y, by simp [h1], h2⟩
   ·
    exact .inr h1
 | @new y a b l _ _ ih =>
  intro p hp
  rcases List.mem_cons.1 hp with rfl | hp
  ·
   exact .inr ⟨y, by simp, rfl⟩
  ·
   rcases ih p hp with h1 | ⟨y, h1, h2⟩
   ·
    exact .inl h1
   ·
    exact .inr ⟨y, by simp [h1], h2⟩
 | @same x a b l _ ih =>
  intro p hp
  rcases ih p hp with ⟨y, h1, h2⟩ | ⟨y, h1, h2⟩
  ·
   exact .inl ⟨y, by simp [h1], h2⟩
  ·
   exact .inr ⟨y, by simp [h1], h2⟩
 | @chg x y a b l _ _ _ ih =>
  intro p hp
  rcases List.mem_cons.1 hp with rfl | hp
  ·
   exact .inr ⟨y, by simp, rfl⟩
  ·
   rcases ih p hp with ⟨y, h1, h2⟩ | ⟨y, h1, h2⟩
   ·
    exact .inl ⟨y, by simp [h1], h2⟩
   ·
    exact .inr ⟨y, by simp [h1], h2⟩
theorem dl_length {a b : List GFile} {l : List GPatch} (h : DL H a b l) : l.length ≤ a.length + b.length := by
 induction h <;> simp <;> omega
theorem dl_sorted {a b : List GFile} {l : List GPatch} (h : DL H a b l) : Sorted a → Sorted b → l.Pairwise fun p q => p.path_ < q.path_ := by
 induction h with
 | nil => intro _ _; exact List.Pairwise.nil
 | @gone x a b l h1 h2 ih =>
  intro ha hb
  have ha' := List.pairwise_cons.1 ha
  refine List.pairwise_cons.2 ⟨fun p hp => ?_, ih ha'.2 hb⟩
  rcases dl_path h2 p hp with ⟨y, h3, h4⟩ | ⟨y, h3, h4⟩
  ·
   rw [← h4]; exact ha'.1 y h3
  ·
   rw [← h4]; exact h1 y h3
 | @new y a b l h1 h2 ih =>
  intro ha hb
  have hb' := List.pairwise_cons.1 hb
  refine List.pairwise_cons.2 ⟨fun p hp => ?_, ih ha hb'.2⟩
  rcases dl_path h2 p hp with ⟨y, h3, h4⟩ | ⟨y, h3, h4⟩
  ·
   rw [← h4]; exact h1 y h3
  ·
   rw [← h4]; exact hb'.1 y h3
 | same _ ih =>
  intro ha hb
  exact ih (List.pairwise_cons.1 ha).2 (List.pairwise_cons.1 hb).2
 | @chg x y a b l h1 _ h2 ih =>
  intro ha hb
  have ha' := List.pairwise_cons.1 ha
  have hb' := List.pairwise_cons.1 hb
  refine List.pairwise_cons.2 ⟨fun p hp => ?_, ih ha'.2 hb'.2⟩
  rcases dl_path h2 p hp with ⟨z, h3, h4⟩ | ⟨z, h3, h4⟩
  ·
   rw [← h4]; show y.path_ < z.path_; rw [← h1]; exact ha'.1 z h3
  ·
   rw [← h4]; exact hb'.1 z h3
theorem POK.mono {a b a' b' : List GFile} {p : GPatch} (h : POK a b p) (ha : ∀ x ∈ a, x ∈ a') (hb : ∀ x ∈ b, x ∈ b') (ha' : ∀ x ∈ a', x ∉ a → x.path_ ≠ p.path_) (hb' : ∀ x ∈ b', x ∉ b → x.path_ ≠ p.path_) : POK a' b' p where
 valid := h.valid
 was := ⟨fun e => by obtain ⟨x, h1, h2⟩ := h.was.1 e; exact ⟨x, ha x h1, h2⟩, fun ⟨x, h1, h2⟩ => h.was.2 ⟨x, Classical.byContradiction fun h3 => ha' x h1 h3 h2, h2⟩⟩
 stays := ⟨fun e => by obtain ⟨x, h1, h2⟩ := h.stays.1 e; exact ⟨x, hb x h1, h2⟩, fun ⟨x, h1, h2⟩ => h.stays.2 ⟨x, Classical.byContradiction fun h3 => hb' x h1 h3 h2, h2⟩⟩
 hunks := h.hunks
 fits := h.fits
include hH in
theorem dl_ok {a b : List GFile} {l : List GPatch} (h : DL H a b l) : Sorted a → Sorted b → (∀ x ∈ a, okPath x.path_ = true ∧ txtE x.text_ = 0) → (∀ x ∈ b, okPath x.path_ = true ∧ txtE x.text_ = 0) → ∀ p ∈ l, POK a b p := by
 induction h with
 | nil => intro _ _ _ _ p hp; cases hp
 | @gone x a b l h1 h2 ih =>
  intro ha hb hxa hxb p hp
  have ha' := List.pairwise_cons.1 ha
  obtain ⟨x1, x2⟩ := hxa x (by simp)
  have h60 := (lines_of_txt x2).1
  rcases List.mem_cons.1 hp with rfl | hp
  ·
   refine ⟨?_, ⟨fun _ => ⟨x, by simp, rfl⟩, fun _ => rfl⟩, ⟨fun h => (Bool.false_ne_true h).elim, fun ⟨y, h3, h4⟩ => ?_⟩, by simp [goneP], ?_⟩
   ·
    unfold pvalid goneP hckE okHs validH okHs
    have := split_pos x.text_
    simp [x1, split_plain x2, this]
    simp [plainB]
   ·
    have := h1 y h3
    rw [h4] at this
    exact absurd this (s_irrefl _)
   ·
    intro h hh
    simp only [goneP, List.mem_singleton] at hh
    subst hh; exact ⟨h60, by simp⟩
  ·
   have hlt : x.path_ < p.path_ := by
    rcases dl_path h2 p hp with ⟨y, h3, h4⟩ | ⟨y, h3, h4⟩
    ·
     rw [← h4]; exact ha'.1 y h3
    ·
     rw [← h4]; exact h1 y h3
   refine (ih ha'.2 hb (fun y hy => hxa y (by simp [hy])) hxb p hp).mono (fun y hy => by simp [hy]) (fun y hy => hy) (fun y hy hn => ?_) (fun y hy hn => absurd hy hn)
   rcases List.mem_cons.1 hy with rfl | hy
   ·
    exact lt_ne hlt
   ·
    exact absurd hy hn
 | @new x a b l h1 h2 ih =>
  intro ha hb hxa hxb p hp
  have hb' := List.pairwise_cons.1 hb
  obtain ⟨x1, x2⟩ := hxb x (by simp)
  have h60 := (lines_of_txt x2).1
  rcases List.mem_cons.1 hp with rfl | hp
  ·
   refine ⟨?_, ⟨fun h => (Bool.false_ne_true h).elim, fun ⟨y, h3, h4⟩ => ?_⟩, ⟨fun _ => ⟨x, by simp, rfl⟩, fun _ => rfl⟩, by simp [newP], ?_⟩
   ·
    unfold pvalid newP hckE okHs validH okHs
    have := split_pos x.text_
    simp [x1, split_plain x2, this]
    simp [plainB]
   ·
    have := h1 y h3
    rw [h4] at this
    exact absurd this (s_irrefl _)
   ·
    intro h hh
    simp only [newP, List.mem_singleton] at hh
    subst hh; exact ⟨by simp, h60⟩
  ·
   have hlt : x.path_ < p.path_ := by
    rcases dl_path h2 p hp with ⟨y, h3, h4⟩ | ⟨y, h3, h4⟩
    ·
     rw [← h4]; exact h1 y h3
    ·
     rw [← h4]; exact hb'.1 y h3
   refine (ih ha hb'.2 hxa (fun y hy => hxb y (by simp [hy])) p hp).mono (fun y hy => hy) (fun y hy => by simp [hy]) (fun y hy hn => absurd hy hn) (fun y hy hn => ?_)
   rcases List.mem_cons.1 hy with rfl | hy
   ·
    exact lt_ne hlt
   ·
    exact absurd hy hn
 | @same x a b l h2 ih =>
  intro ha hb hxa hxb p hp
  have ha' := List.pairwise_cons.1 ha
  have hb' := List.pairwise_cons.1 hb
  have hlt : x.path_ < p.path_ := by
   rcases dl_path h2 p hp with ⟨y, h3, h4⟩ | ⟨y, h3, h4⟩
   ·
    rw [← h4]; exact ha'.1 y h3
   ·
    rw [← h4]; exact hb'.1 y h3
  refine (ih ha'.2 hb'.2 (fun y hy => hxa y (by simp [hy])) (fun y hy => hxb y (by simp [hy])) p hp).mono (fun y hy => by simp [hy]) (fun y hy => by simp [hy]) (fun y hy hn => ?_) (fun y hy hn => ?_)
  ·
   rcases List.mem_cons.1 hy with rfl | hy
   ·
    exact lt_ne hlt
   ·
    exact absurd hy hn
  ·
   rcases List.mem_cons.1 hy with rfl | hy
   ·
    exact lt_ne hlt
   ·
    exact absurd hy hn
 | @chg x y a b l h1 hne h2 ih =>
  intro ha hb hxa hxb p hp
  have ha' := List.pairwise_cons.1 ha
  have hb' := List.pairwise_cons.1 hb
  obtain ⟨x1, x2⟩ := hxa x (by simp)
  obtain ⟨y1, y2⟩ := hxb y (by simp)
  rcases List.mem_cons.1 hp with rfl | hp
  ·
   obtain ⟨c1, c2, c3⟩ := hok_ck hH x2 y2
   refine ⟨?_, ⟨fun _ => ⟨x, by simp, h1⟩, fun _ => rfl⟩, ⟨fun _ => ⟨y, by simp, rfl⟩, fun _ => rfl⟩, fun h => hne (c3 h), c2⟩
   unfold pvalid chgP
   simp [y1, c1]
  ·
   have hlt : y.path_ < p.path_ := by
    rcases dl_path h2 p hp with ⟨z, h3, h4⟩ | ⟨z, h3, h4⟩
    ·
     rw [← h4, ← h1]; exact ha'.1 z h3
    ·
     rw [← h4]; exact hb'.1 z h3
   refine (ih ha'.2 hb'.2 (fun y hy => hxa y (by simp [hy])) (fun y hy => hxb y (by simp [hy])) p hp).mono (fun y hy => by simp [hy]) (fun y hy => by simp [hy]) (fun z hz hn => ?_) (fun z hz hn => ?_)
   ·
    rcases List.mem_cons.1 hz with rfl | hz
    ·
     rw [h1]; exact lt_ne hlt
    ·
     exact absurd hz hn
   ·
    rcases List.mem_cons.1 hz with rfl | hz
    ·
     exact lt_ne hlt
    ·
     exact absurd hz hn
theorem dupB_false : ∀ (ps pre : List S), dupB pre ps = false ↔ ps.Nodup ∧ ∀ p ∈ ps, p ∉ pre
 | [], pre => by simp [dupB]
 | p :: ps, pre => by
  rw [dupB, Bool.or_eq_false_iff, dupB_false ps, List.nodup_cons]
  simp only [List.contains_eq_mem, decide_eq_false_iff_not, List.mem_append, List.mem_cons, List.not_mem_nil, or_false]
  constructor
  ·
   rintro ⟨h1, h2, h3⟩
   refine ⟨⟨fun h => (h3 p h) (.inr rfl), h2⟩, fun q hq => ?_⟩
   rcases hq with rfl | hq
   ·
    exact h1
   ·
    exact fun h => h3 q hq (.inl h)
  ·
   rintro ⟨⟨h1, h2⟩, h3⟩
   refine ⟨h3 p (.inl rfl), h2, fun q hq h => ?_⟩
   rcases h with h | rfl
   ·
    exact h3 q (.inr hq) h
   ·
    exact h1 hq
theorem nckE_zero {l : List GPatch} (h1 : l.length ≤ 24) (h2 : (l.map GPatch.path_).Nodup) (h3 : ∀ p ∈ l, pvalid p = true) : nckE l = 0 := by
 unfold nckE
 rw [if_neg (by omega), if_neg, if_pos]
 ·
  rw [List.all_eq_true]; exact h3
 ·
  rw [(dupB_false _ []).2 ⟨h2, fun p _ h => by cases h⟩]; simp
theorem sorted_nodup {l : List GPatch} (h : l.Pairwise fun p q => p.path_ < q.path_) : (l.map GPatch.path_).Nodup := by
 rw [List.nodup_iff_pairwise_ne, List.pairwise_map]
 exact h.imp fun h => lt_ne h
include hH in
theorem dl_check {a b : List GFile} {l : List GPatch} (h : DL H a b l) (ha : Good a) (hb : Good b) : nckE l = 0 := by
 have h1 := dl_length h
 have h2 := ha.le
 have h3 := hb.le
 refine nckE_zero (by omega) (sorted_nodup (dl_sorted h ha.sorted hb.sorted)) fun p hp => ?_
 exact (dl_ok hH h ha.sorted hb.sorted (fun x hx => ⟨ha.path x hx, ha.text x hx⟩) (fun x hx => ⟨hb.path x hx, hb.text x hx⟩) p hp).valid
end
end Go.Zv.G
namespace Go.Zv.G
open Go Go.Zv Go.Proofs
set_option maxRecDepth 100000
attribute [local simp high] bsome
theorem f_sidingref21_Same_iff {n : Nat} (a b : List GFile) (ha : a.length < 1000000) (hn : a.length < n) : ∃ r, f_sidingref21_Same n a b = some r ∧ (r = true ↔ a = b) := by
 unfold f_sidingref21_Same
 by_cases hl : a.length = b.length
 case neg => exact ⟨false, by rw [if_pos (by simp; omega)], by simp; intro e; exact hl (by rw [e])⟩
 rw [if_neg (by simp; omega)]
 have key : ∀ (m k fuel : Nat), a.length - k = m → k ≤ a.length → m < fuel → ∃ r, f_sidingref21_Same_L8 a b fuel (k : Int) = some r ∧ (r = true ↔ a.drop k = b.drop k) := by
  intro m
  induction m with
  | zero =>
   intro k fuel hm hk hf
   obtain ⟨fuel, rfl⟩ : ∃ k, fuel = k + 1 := ⟨fuel - 1, by omega⟩
   exact ⟨true, by rw [f_sidingref21_Same_L8.eq_2, if_neg (by simp; omega)], by simp [List.drop_of_length_le (show a.length ≤ k by omega), List.drop_of_length_le (show b.length ≤ k by omega)]⟩
  | succ m ih =>
   intro k fuel hm hk hf
   obtain ⟨fuel, rfl⟩ : ∃ k, fuel = k + 1 := ⟨fuel - 1, by omega⟩
   have h1 : k < a.length := by omega
   have h2 : k < b.length := by omega
   rw [f_sidingref21_Same_L8.eq_2, if_pos (by simp; omega), ix_nat h1, bsome, ix_nat h2, bsome, List.drop_eq_getElem_cons h1, List.drop_eq_getElem_cons h2]
   by_cases e1 : a[k].path_ = b[k].path_
   ·
    rw [if_neg (by simp [e1])]
    by_cases e2 : a[k].text_ = b[k].text_
    ·
     rw [if_neg (by simp [e2]), rng_succ (by omega), bsome]
     obtain ⟨r, h3, h4⟩ := ih (k + 1) fuel (by omega) (by omega) (by omega)
     refine ⟨r, h3, h4.trans ?_⟩
     have : a[k] = b[k] := by
      cases ea : a[k]; cases eb : b[k]
      rw [ea, eb] at e1 e2
      simp_all
     rw [this, List.cons.injEq]; exact ⟨fun h => ⟨rfl, h⟩, fun h => h.2⟩
    ·
     exact ⟨false, by rw [if_pos (by simp [e2])], by
      simp only [Bool.false_eq_true, false_iff, List.cons.injEq, not_and]
      intro h; exact absurd (by rw [h]) e2⟩
   ·
    exact ⟨false, by rw [if_pos (by simp [e1])], by
     simp only [Bool.false_eq_true, false_iff, List.cons.injEq, not_and]
     intro h; exact absurd (by rw [h]) e1⟩
 have := key a.length 0 n rfl (by omega) hn
 simpa using this
theorem f_sidinglaw21_fit_eq {n : Nat} (hn : 3000 < n) (a b : List GFile) : ∃ r, f_sidinglaw21_fit n a b = some r ∧ (r = true → Good a ∧ Good b) := by
 unfold f_sidinglaw21_fit
 obtain ⟨u, hu, _⟩ := f_sidingref21_Long_eq (n := n) (by omega) a
 obtain ⟨v, hv, _⟩ := f_sidingref21_Long_eq (n := n) (by omega) b
 rw [hu, bsome, hv, bsome, f_sidingref21_Check_eq hn, bsome, f_sidingref21_Check_eq hn, bsome]
 cases u with
 | true => exact ⟨false, by simp, by simp⟩
 | false =>
  cases v with
  | true => exact ⟨false, by simp, by simp⟩
  | false =>
   by_cases h1 : chk a = 0
   ·
    rw [if_pos (by simp), if_pos (by simp), if_pos (by simp [h1])]
    exact ⟨_, rfl, fun h => ⟨good_iff.1 h1, good_iff.1 (by simpa using h)⟩⟩
   ·
    exact ⟨false, by rw [if_pos (by simp), if_pos (by simp), if_neg (by simp [h1])], by simp⟩
theorem has_was {n : Nat} {t : List GFile} {p : S} (ht : t.length < 1000000) (hn : t.length < n) : ∃ r : S × Bool, f_sidingref21_Has n t p = some r ∧ (r.2 = true ↔ ∃ x ∈ t, x.path_ = p) := by
 rw [f_sidingref21_Has_eq t p ht hn]
 cases e : t.find? (fun x => x.path_ == p) with
 | none =>
  rw [List.find?_eq_none] at e
  exact ⟨_, rfl, by simp; intro x hx; simpa using e x hx⟩
 | some x =>
  have h1 := List.mem_of_find?_eq_some e
  have h2 := List.find?_some e
  exact ⟨_, rfl, by simp; exact ⟨x, h1, by simpa using h2⟩⟩
end Go.Zv.G
namespace Go.Zv.G
open Go Go.Zv Go.Proofs
set_option maxRecDepth 100000
attribute [local simp high] bsome
section
variable {n : Nat} (hn : 4000 < n)
include hn
theorem f_tree_Put_good {t : List GFile} (hg : Good t) (p text : S) : ∃ k, Pos t p k ∧ f_tree_Put n t p text = some (if okPath p = true ∧ txtE text = 0 then (if 12 < (putAt t ⟨p, text⟩ k).length then ([], 4) else (putAt t ⟨p, text⟩ k, 0)) else ([], if okPath p = true then 4 else 8)) := by
 have hle := hg.le
 obtain ⟨k, hp, h42⟩ := f_tree_find_eq (n := n) (p := p) hg.sorted (by omega) (by omega)
 refine ⟨k, hp, ?_⟩
 unfold f_tree_Put
 rw [f_tree_Check_eq (by omega), good_iff.2 hg]
 simp only [bsome]
 rw [if_neg (by simp), f_tree_path_eq p (by omega)]
 simp only [bsome]
 cases ep : okPath p with
 | false => simp
 | true =>
  rw [if_neg (by simp), f_lines_Check_eq]
  simp only [bsome]
  rcases txtE_cases text with et | et
  ·
   rw [et, if_neg (by decide), f_tree_twin_eq t (by omega) (fun x hx => txt_le (hg.text x hx)) (by omega)]
   simp only [bsome]
   have h40 : f_tree_put n t p text = some (putAt t ⟨p, text⟩ k) := f_tree_put_eq hg.sorted (by omega) (by omega) (txt_le et) hp
   rw [h40]
   simp only [bsome, and_self, if_true]
   by_cases hl : 12 < (putAt t ⟨p, text⟩ k).length
   ·
    rw [if_pos (by simp; omega), if_pos hl]
   ·
    rw [if_neg (by simp; omega), if_neg hl]
  ·
   rw [et, if_pos (by simp), if_neg (by simp)]
   simp
end
end Go.Zv.G
namespace Go.Zv.G
open Go Go.Zv Go.Proofs
set_option maxRecDepth 100000
attribute [local simp high] bsome
section
variable {n : Nat} (hn : 3000 < n) {H : S → S → List GHunk} (hH : HOK H)
theorem sorted_put {pre rest : List GFile} {x : GFile} (h : Sorted (pre ++ rest)) (h1 : ∀ y ∈ pre, y.path_ < x.path_) (h2 : ∀ y ∈ rest, x.path_ < y.path_) : Sorted (pre ++ x :: rest) := by
 rw [Sorted, List.pairwise_append] at h
 rw [Sorted, List.pairwise_append, List.pairwise_cons]
 refine ⟨h.1, ⟨h2, h.2.1⟩, fun u hu v hv => ?_⟩
 rcases List.mem_cons.1 hv with rfl | hv
 ·
  exact h1 u hu
 ·
  exact h.2.2 u hu v hv
include hn hH in
theorem dl_rev {a b : List GFile} {l : List GPatch} (h : DL H a b l) : ∀ pre : List GFile, Sorted (pre ++ a) → Sorted (pre ++ b) → pre.length + a.length + b.length < 1000 → (∀ x ∈ a, txtE x.text_ = 0) → (∀ x ∈ b, txtE x.text_ = 0) → App n (pre ++ a) l.reverse (pre ++ b) := by
 induction h with
 | nil => intro pre _ _ _ _ _; exact .nil _
 | @gone x a b l h1 _ ih =>
  intro pre ha hb hle hta htb
  obtain ⟨s1, s2, s3⟩ := sorted_mid ha
  simp only [List.length_cons] at hle
  have hb' : Sorted (pre ++ x :: b) := sorted_put hb s1 h1
  rw [List.reverse_cons]
  have := ih (pre ++ [x]) (by simpa using ha) (by simpa using hb') (by simp; omega) (fun y hy => hta y (by simp [hy])) htb
  simp only [List.append_assoc, List.singleton_append] at this
  exact this.append (.cons (change_gone hn hb' (by simp; omega) s1 h1 (hta x (by simp))) (.nil _))
 | @new y a b l h1 _ ih =>
  intro pre ha hb hle hta htb
  obtain ⟨s1, s2, s3⟩ := sorted_mid hb
  simp only [List.length_cons] at hle
  rw [List.reverse_cons]
  have := ih pre ha s3 (by omega) hta (fun z hz => htb z (by simp [hz]))
  exact this.append (.cons (change_new hn s3 (by simp; omega) s1 s2 (htb y (by simp))) (.nil _))
 | @same x a b l _ ih =>
  intro pre ha hb hle hta htb
  simp only [List.length_cons] at hle
  have := ih (pre ++ [x]) (by simpa using ha) (by simpa using hb) (by simp; omega) (fun y hy => hta y (by simp [hy])) (fun y hy => htb y (by simp [hy]))
  simpa using this
 | @chg x y a b l h1 h2 _ ih =>
  intro pre ha hb hle hta htb
  obtain ⟨s1, s2, s3⟩ := sorted_mid ha
  obtain ⟨r1, r2, r3⟩ := sorted_mid hb
  simp only [List.length_cons] at hle
  have hb' : Sorted (pre ++ x :: b) := sorted_put r3 s1 (fun z hz => by rw [h1]; exact r2 z hz)
  rw [List.reverse_cons]
  have := ih (pre ++ [x]) (by simpa using ha) (by simpa using hb') (by simp; omega) (fun y hy => hta y (by simp [hy])) (fun y hy => htb y (by simp [hy]))
  simp only [List.append_assoc, List.singleton_append] at this
  exact this.append (.cons (change_chg hn hH hb' (by simp; omega) s1 (fun z hz => by rw [h1]; exact r2 z hz) (hta x (by simp)) (htb y (by simp)) h1) (.nil _))
end
theorem dl_unique {H : S → S → List GHunk} {a b : List GFile} {l : List GPatch} (h : DL H a b l) : ∀ {l' : List GPatch}, DL H a b l' → l = l' := by
 induction h with
 | nil => intro l' h'; cases h'; rfl
 | @gone x a b l h1 _ ih =>
  intro l' h'
  cases h' with
  | gone _ h3 => rw [ih h3]
  | new h2 _ => exact absurd (s_trans (h1 _ (List.mem_cons_self ..)) (h2 x (List.mem_cons_self ..))) (s_irrefl _)
  | same _ => exact absurd (h1 x (by simp)) (s_irrefl _)
  | chg h2 _ _ => exact absurd (h1 _ (List.mem_cons_self ..)) (by rw [h2]; exact s_irrefl _)
 | @new y a b l h1 _ ih =>
  intro l' h'
  cases h' with
  | new _ h3 => rw [ih h3]
  | gone h2 _ => exact absurd (s_trans (h1 _ (List.mem_cons_self ..)) (h2 y (List.mem_cons_self ..))) (s_irrefl _)
  | same _ => exact absurd (h1 y (by simp)) (s_irrefl _)
  | chg h2 _ _ => exact absurd (h1 _ (List.mem_cons_self ..)) (by rw [h2]; exact s_irrefl _)
 | @same x a b l _ ih =>
  intro l' h'
  cases h' with
  | gone h2 _ => exact absurd (h2 x (by simp)) (s_irrefl _)
  | new h2 _ => exact absurd (h2 x (by simp)) (s_irrefl _)
  | same h3 => exact ih h3
  | chg _ h2 _ => exact absurd rfl h2
 | @chg x y a b l h1 h2 _ ih =>
  intro l' h'
  cases h' with
  | gone h3 _ => exact absurd (h3 y (by simp)) (by rw [h1]; exact s_irrefl _)
  | new h3 _ => exact absurd (h3 x (by simp)) (by rw [h1]; exact s_irrefl _)
  | same _ => exact absurd rfl h2
  | chg _ _ h3 => rw [ih h3]
def insF (x : GFile) : List GFile → List GFile
 | [] => [x]
 | y :: ys => if y.path_ < x.path_ then y :: insF x ys else x :: y :: ys
theorem insF_all_lt {x : GFile} {t : List GFile} (h : ∀ y ∈ t, x.path_ < y.path_) : insF x t = x :: t := by
 cases t with
 | nil => rfl
 | cons y t => rw [insF, if_neg (lt_not (h y (by simp)))]
theorem insF_mid {x : GFile} : ∀ {pre rest : List GFile}, (∀ y ∈ pre, y.path_ < x.path_) → (∀ y ∈ rest, x.path_ < y.path_) → insF x (pre ++ rest) = pre ++ x :: rest
 | [], rest, _, h2 => insF_all_lt h2
 | y :: pre, rest, h1, h2 => by
  rw [List.cons_append, insF, if_pos (h1 y (by simp)), insF_mid (fun z hz => h1 z (by simp [hz])) h2]
  rfl
theorem insF_mem {x : GFile} : ∀ {t : List GFile} {y : GFile}, y ∈ insF x t → y = x ∨ y ∈ t
 | [], y, h => by simpa [insF] using h
 | z :: t, y, h => by
  rw [insF] at h
  split at h
  ·
   rcases List.mem_cons.1 h with rfl | h
   ·
    exact .inr (by simp)
   ·
    exact (insF_mem h).imp id fun h => by simp [h]
  ·
   rcases List.mem_cons.1 h with rfl | h
   ·
    exact .inl rfl
   ·
    exact .inr h
theorem dl_ins {H : S → S → List GHunk} {x : GFile} {a b : List GFile} {l : List GPatch} (h : DL H a b l) : (∀ y ∈ a, y.path_ ≠ x.path_) → (∀ y ∈ b, y.path_ ≠ x.path_) → Sorted a → Sorted b → DL H (insF x a) (insF x b) l := by
 induction h with
 | nil => intro _ _ _ _; exact .same .nil
 | @gone z a b l h1 h2 ih =>
  intro ha hb hsa hsb
  have hsa' := List.pairwise_cons.1 hsa
  rw [insF]
  by_cases hz : z.path_ < x.path_
  ·
   rw [if_pos hz]
   refine .gone (fun y hy => ?_) (ih (fun y hy => ha y (by simp [hy])) hb hsa'.2 hsb)
   rcases insF_mem hy with rfl | hy
   ·
    exact hz
   ·
    exact h1 y hy
  ·
   have hx : x.path_ < z.path_ := ((s_tri _ _).resolve_left hz).resolve_left (ha z (by simp))
   rw [if_neg hz, insF_all_lt fun y hy => s_trans hx (h1 y hy)]
   exact .same (.gone h1 h2)
 | @new z a b l h1 h2 ih =>
  intro ha hb hsa hsb
  have hsb' := List.pairwise_cons.1 hsb
  rw [show insF x (z :: b) = if z.path_ < x.path_ then z :: insF x b else x :: z :: b from rfl]
  by_cases hz : z.path_ < x.path_
  ·
   rw [if_pos hz]
   refine .new (fun y hy => ?_) (ih ha (fun y hy => hb y (by simp [hy])) hsa hsb'.2)
   rcases insF_mem hy with rfl | hy
   ·
    exact hz
   ·
    exact h1 y hy
  ·
   have hx : x.path_ < z.path_ := ((s_tri _ _).resolve_left hz).resolve_left (hb z (by simp))
   rw [if_neg hz, insF_all_lt fun y hy => s_trans hx (h1 y hy)]
   exact .same (.new h1 h2)
 | @same z a b l h2 ih =>
  intro ha hb hsa hsb
  have hsa' := List.pairwise_cons.1 hsa
  have hsb' := List.pairwise_cons.1 hsb
  rw [insF, show insF x (z :: b) = if z.path_ < x.path_ then z :: insF x b else x :: z :: b from rfl]
  by_cases hz : z.path_ < x.path_
  ·
   rw [if_pos hz, if_pos hz]
   exact .same (ih (fun y hy => ha y (by simp [hy])) (fun y hy => hb y (by simp [hy])) hsa'.2 hsb'.2)
  ·
   rw [if_neg hz, if_neg hz]
   exact .same (.same h2)
 | @chg z y a b l h1 h3 h2 ih =>
  intro ha hb hsa hsb
  have hsa' := List.pairwise_cons.1 hsa
  have hsb' := List.pairwise_cons.1 hsb
  rw [insF, show insF x (y :: b) = if y.path_ < x.path_ then y :: insF x b else x :: y :: b from rfl, ← h1]
  by_cases hz : z.path_ < x.path_
  ·
   rw [if_pos hz, if_pos hz]
   exact .chg h1 h3 (ih (fun y hy => ha y (by simp [hy])) (fun y hy => hb y (by simp [hy])) hsa'.2 hsb'.2)
  ·
   rw [if_neg hz, if_neg hz]
   exact .same (.chg h1 h3 h2)
end Go.Zv.G
namespace Go.Zv.G
open Go Go.Zv Go.Proofs
set_option maxRecDepth 100000
attribute [local simp high] bsome
theorem putAt_insF {t : List GFile} {x : GFile} {k : Nat} (hp : Pos t x.path_ k) (hna : ∀ y ∈ t, y.path_ ≠ x.path_) : putAt t x k = insF x t := by
 have hia : isAt t x.path_ k = false := by
  cases e : isAt t x.path_ k with
  | false => rfl
  | true =>
   obtain ⟨hk, h⟩ := isAt_get e
   exact absurd h (hna _ (List.getElem_mem hk))
 unfold putAt
 rw [hia, if_neg (by simp)]
 have hlo : ∀ z ∈ t.take k, z.path_ < x.path_ := by
  intro z hz
  obtain ⟨j, hj, rfl⟩ := List.mem_iff_getElem.1 hz
  rw [List.length_take] at hj
  rw [List.getElem_take]
  exact hp.lo j (by omega) (by omega)
 have hhi : ∀ z ∈ t.drop k, x.path_ < z.path_ := by
  intro z hz
  obtain ⟨j, hj, rfl⟩ := List.mem_iff_getElem.1 hz
  rw [List.length_drop] at hj
  rw [List.getElem_drop]
  have h1 := hp.hi (k + j) (by omega) (by omega)
  exact ((s_tri _ _).resolve_left h1).resolve_left fun e => hna _ (List.getElem_mem (by omega)) e
 have := insF_mid hlo hhi
 rw [List.take_append_drop] at this
 exact this.symm
theorem insF_len (x : GFile) : ∀ t : List GFile, (insF x t).length = t.length + 1
 | [] => rfl
 | y :: t => by
  rw [insF]
  split
  ·
   rw [List.length_cons, insF_len x t, List.length_cons]
  ·
   rfl
theorem insF_good {t : List GFile} {x : GFile} {k : Nat} (hg : Good t) (hp : Pos t x.path_ k) (hna : ∀ y ∈ t, y.path_ ≠ x.path_) (hl : t.length < 12) (h1 : okPath x.path_ = true) (h2 : txtE x.text_ = 0) : Good (insF x t) := by
 refine ⟨by rw [insF_len]; omega, fun y hy => ?_, by rw [← putAt_insF hp hna]; exact putAt_sorted hg.sorted hp, fun y hy => ?_⟩
 ·
  rcases insF_mem hy with rfl | hy
  ·
   exact h1
  ·
   exact hg.path y hy
 ·
  rcases insF_mem hy with rfl | hy
  ·
   exact h2
  ·
   exact hg.text y hy
theorem put_new {n : Nat} (hn : 4000 < n) {t : List GFile} (hg : Good t) {p text : S} (hna : ∀ y ∈ t, y.path_ ≠ p) : ∃ r : (List GFile) × Int, f_tree_Put n t p text = some r ∧ (r.2 = 0 → r.1 = insF ⟨p, text⟩ t ∧ Good (insF ⟨p, text⟩ t)) := by
 obtain ⟨k, hp, h⟩ := f_tree_Put_good hn hg p text
 have hpi : putAt t ⟨p, text⟩ k = insF ⟨p, text⟩ t := putAt_insF (x := ⟨p, text⟩) hp hna
 refine ⟨_, h, ?_⟩
 rw [hpi, insF_len]
 by_cases h1 : okPath p = true ∧ txtE text = 0
 ·
  rw [if_pos h1]
  by_cases h2 : 12 < t.length + 1
  ·
   rw [if_pos h2]; simp
  ·
   rw [if_neg h2]
   exact fun _ => ⟨rfl, insF_good (x := ⟨p, text⟩) hg hp hna (by omega) h1.1 h1.2⟩
 ·
  rw [if_neg h1]
  intro h3
  exfalso
  revert h3
  dsimp only
  split <;> simp
theorem nodup_rev {α : Type} {l : List α} (h : l.Nodup) : l.reverse.Nodup := by
 rw [List.nodup_iff_pairwise_ne] at *
 rw [List.pairwise_reverse]
 exact h.imp fun h => Ne.symm h
theorem law_TreeClasses {n : Nat} (hn : 4000 < n) (a b : List GFile) (p text : S) : f_sidinglaw21_TreeClasses n a b p text = some true := by
 unfold f_sidinglaw21_TreeClasses
 obtain ⟨r, h1, h2⟩ := f_sidinglaw21_fit_eq (n := n) (by omega) a b
 rw [h1, bsome]
 by_cases hg : ((((!r) || (decide ((p.length : Int) > 200))) || (decide ((text.length : Int) > 3000))) = true)
 ·
  rw [if_pos hg]
 rw [if_neg hg]
 have hr : r = true := by
  cases r with
  | true => rfl
  | false => simp at hg
 obtain ⟨ha, hb⟩ := h2 hr
 have la := ha.le
 have lb := hb.le
 obtain ⟨l, hl, h3⟩ := f_tree_Diff_good hn ha hb
 have hH := diffH_ok (n := n) (by omega)
 have hta : ∀ x ∈ a, okPath x.path_ = true ∧ txtE x.text_ = 0 := fun x hx => ⟨ha.path x hx, ha.text x hx⟩
 have htb : ∀ x ∈ b, okPath x.path_ = true ∧ txtE x.text_ = 0 := fun x hx => ⟨hb.path x hx, hb.text x hx⟩
 have hok := dl_ok hH hl ha.sorted hb.sorted hta htb
 have hck := dl_check hH hl ha hb
 have hlen := dl_length hl
 obtain ⟨c1, c2, c3⟩ := nckE_zero' hck
 have hckr : nckE l.reverse = 0 := nckE_zero (by simpa using c1) (by rw [List.map_reverse]; exact nodup_rev c2) (fun q hq => c3 q (List.mem_reverse.1 hq))
 have hrev := dl_rev (n := n) (by omega) hH hl [] (by simpa using ha.sorted) (by simpa using hb.sorted) (by simp; omega) ha.text hb.text
 simp only [List.nil_append] at hrev
 have h4 : f_tree_Apply n a l.reverse = some (b, 0) := f_tree_Apply_app hn ha lb (by simp; omega) (by rw [f_norm_Check_eq (by omega), hckr]) hrev
 have hfit : ∀ x ∈ l, HFit n x.hunks_ := by
  intro x hx
  have hs := small_of (c3 x hx)
  have hh := (hok x hx).fits
  have h0 := hs.1
  exact ⟨by omega, by omega, fun h hh' => by
   obtain ⟨f1, f2⟩ := hh h hh'
   exact ⟨by omega, by omega, by omega, by omega⟩⟩
 have hfin : f_sidinglaw21_TreeClasses_L22 n a b p text (l, 0) (n - l.length) l.reverse (-1) = some true := by
  obtain ⟨m, hm⟩ : ∃ m, n - l.length = m + 1 := ⟨n - l.length - 1, by omega⟩
  rw [hm, f_sidinglaw21_TreeClasses_L22.eq_2, if_neg (by simp), h4, bsome, if_neg (by simp)]
  obtain ⟨s2, g3, g4⟩ := f_sidingref21_Same_iff (n := n) b b (by omega) (by omega)
  obtain ⟨u, u1, u2⟩ := has_was (n := n) (t := a) (p := p) (by omega) (by omega)
  obtain ⟨v, v1, v2⟩ := has_was (n := n) (t := b) (p := p) (by omega) (by omega)
  rw [g3, bsome, g4.2 rfl, if_neg (by simp), u1, bsome, v1, bsome]
  by_cases hu : u.2 = true
  ·
   rw [hu]
   obtain ⟨k, _, e1⟩ := f_tree_Put_good hn ha p text
   obtain ⟨k', _, e2⟩ := f_tree_Put_good hn hb p text
   rw [e1, bsome, e2, bsome, if_pos (by simp)]
  by_cases hv : v.2 = true
  ·
   rw [hv]
   obtain ⟨k, _, e1⟩ := f_tree_Put_good hn ha p text
   obtain ⟨k', _, e2⟩ := f_tree_Put_good hn hb p text
   rw [e1, bsome, e2, bsome, if_pos (by simp)]
  have hna : ∀ y ∈ a, y.path_ ≠ p := fun y hy e => hu (u2.2 ⟨y, hy, e⟩)
  have hnb : ∀ y ∈ b, y.path_ ≠ p := fun y hy e => hv (v2.2 ⟨y, hy, e⟩)
  obtain ⟨x, e1, f1⟩ := put_new hn ha (text := text) hna
  obtain ⟨y, e2, f2⟩ := put_new hn hb (text := text) hnb
  rw [e1, bsome, e2, bsome]
  by_cases hx : x.2 = 0
  case neg => rw [if_pos (by simp [hx])]
  by_cases hy : y.2 = 0
  case neg => rw [if_pos (by simp [hy])]
  obtain ⟨x1, x2⟩ := f1 hx
  obtain ⟨y1, y2⟩ := f2 hy
  have hu' : u.2 = false := by simpa using hu
  have hv' : v.2 = false := by simpa using hv
  rw [if_neg (by rw [hu', hv', hx, hy]; simp), x1, y1]
  obtain ⟨l', hl', h5⟩ := f_tree_Diff_good hn x2 y2
  have he : l = l' := dl_unique (dl_ins (x := ⟨p, text⟩) hl hna hnb ha.sorted hb.sorted) hl'
  subst he
  rw [h5, bsome, f_norm_Same_ok (by omega) hck hck, bsome, if_pos (by simp), f_sidingref17_Equal_eq (by omega) (by omega) hfit]
  simp
 have hloop : ∀ (j : Nat) (acc : List GPatch) (m : Nat), j ≤ l.length → m + (l.length - j) = n → acc = (l.drop j).reverse → f_sidinglaw21_TreeClasses_L22 n a b p text (l, 0) m acc ((j : Int) - 1) = some true := by
  intro j
  induction j with
  | zero =>
   intro acc m h1 h2 h3
   subst h3
   have : m = n - l.length := by omega
   subst this
   exact hfin
  | succ j ih =>
   intro acc m h1 h2 h3
   subst h3
   obtain ⟨m, rfl⟩ : ∃ k, m = k + 1 := ⟨m - 1, by omega⟩
   have hj : j < l.length := by omega
   rw [show (((j + 1 : Nat) : Int) - 1) = (j : Int) by omega, f_sidinglaw21_TreeClasses_L22.eq_2, if_pos (by simp), ix_nat hj, bsome, need_ok (by simp; unfold lim; omega), bsome, rng_ok (by omega) (by omega), bsome]
   refine ih _ m (by omega) (by omega) ?_
   rw [List.drop_eq_getElem_cons hj, List.reverse_cons]
 rw [h3, bsome]
 dsimp only
 rw [rng_ok (by omega) (by omega), bsome]
 exact hloop l.length [] n (by omega) (by omega) (by simp)
#print axioms law_TreeClasses
end Go.Zv.G
