/- Zv: part of a state, and what a step on a part does to the whole. No condition. -/
import Derived.Test.YtdddbifjkkhpbaaGreatDoorZvCall4
namespace Go.Zv
open Go

theorem keepGo_length {ks : List Nat} : ∀ (i : Nat) (σ : List V), (keepGo ks i σ).length = σ.length
  | _, [] => rfl
  | i, x :: xs => by simp [keepGo, keepGo_length (i + 1) xs]
theorem keepOnly_length {ks : List Nat} {σ : List V} : (keepOnly ks σ).length = σ.length := keepGo_length 0 σ
theorem mask_undef {ks : List Nat} : mask ks .undef = .undef := rfl
theorem keepGo_gt {ks : List Nat} : ∀ (i : Nat) (σ : List V) (j : Nat), gt (keepGo ks i σ) j = cond (ks.contains (i + j)) (mask ks (gt σ j)) .undef
  | i, [], j => by simp [keepGo, gt, mask_undef]
  | i, x :: xs, 0 => by simp [keepGo, gt]
  | i, x :: xs, j + 1 => by
    have := keepGo_gt (ks := ks) (i + 1) xs j
    simp only [gt, keepGo, List.getD_cons_succ] at this ⊢
    rw [this, show i + 1 + j = i + (j + 1) by omega]
theorem gt_keep {ks : List Nat} {σ : List V} {j : Nat} : gt (keepOnly ks σ) j = cond (ks.contains j) (mask ks (gt σ j)) .undef := by
  have := keepGo_gt (ks := ks) 0 σ j
  rwa [Nat.zero_add] at this
theorem overGo_length {M W : List Nat} : ∀ (i : Nat) (σ σ' : List V), (overGo M W i σ σ').length = σ.length
  | _, [], _ => by simp [overGo]
  | i, x :: xs, ys => by simp [overGo, overGo_length (i + 1) xs ys.tail]
theorem over_length {M W : List Nat} {σ σ' : List V} : (over M W σ σ').length = σ.length := overGo_length 0 σ σ'
theorem overGo_gt {M W : List Nat} : ∀ (i : Nat) (σ σ' : List V) (j : Nat), σ'.length = σ.length →
    gt (overGo M W i σ σ') j = cond (W.contains (i + j)) (mask M (gt σ' j)) (cond (hits W (gt σ j)) .undef (gt σ j))
  | i, [], σ', j, h => by
    have : σ' = [] := List.eq_nil_of_length_eq_zero h
    subst this
    simp [overGo, gt, mask_undef]
  | i, x :: xs, [], j, h => by simp at h
  | i, x :: xs, y :: ys, 0, h => by simp [overGo, gt]
  | i, x :: xs, y :: ys, j + 1, h => by
    have := overGo_gt (M := M) (W := W) (i + 1) xs ys j (by simpa using h)
    simp only [gt, overGo, List.tail_cons, List.getD_cons_succ] at this ⊢
    rw [this, show i + 1 + j = i + (j + 1) by omega]
theorem gt_over {M W : List Nat} {σ σ' : List V} {j : Nat} (h : σ'.length = σ.length) :
    gt (over M W σ σ') j = cond (W.contains j) (mask M (gt σ' j)) (cond (hits W (gt σ j)) .undef (gt σ j)) := by
  have := overGo_gt (M := M) (W := W) 0 σ σ' j h
  rwa [Nat.zero_add] at this
theorem forceL_eq {R : Type} : ∀ {σ : List V} {K : List V → Option R}, forceL σ K = K σ
  | [], K => rfl
  | x :: xs, K => by simp only [forceL]; exact forceL_eq

theorem rootIn_into {ks : List Nat} {x : V} {r : Nat} (h : rootIn ks x = true) (hr : into r x = true) : ks.contains r = true := by
  have one : ∀ {y : V}, rootIn1 ks y = true → into1 r y = true → ks.contains r = true := by
    intro y h1 h2
    cases y <;> simp only [into1, rootIn1, Nat.beq_eq, Bool.false_eq_true] at h1 h2 <;> (subst h2; exact h1)
  cases x
  case fn f caps =>
    simp only [rootIn, List.all_eq_true] at h
    simp only [into, List.any_eq_true] at hr
    obtain ⟨c, hc, h2⟩ := hr
    exact one (h c hc) h2
  all_goals exact one (y := _) (by simpa only [rootIn] using h) (by simpa only [into] using hr)
theorem hits_into {ks : List Nat} {x : V} {r : Nat} (h : hits ks x = false) (hr : into r x = true) : ks.contains r = false := by
  have one : ∀ {y : V}, hits1 ks y = false → into1 r y = true → ks.contains r = false := by
    intro y h1 h2
    cases y <;> simp only [into1, hits1, Nat.beq_eq, Bool.false_eq_true] at h1 h2 <;> (subst h2; exact h1)
  cases x
  case fn f caps =>
    simp only [hits, List.any_eq_false] at h
    simp only [into, List.any_eq_true] at hr
    obtain ⟨c, hc, h2⟩ := hr
    exact one (by simpa using h c hc) h2
  all_goals exact one (y := _) (by simpa only [hits] using h) (by simpa only [into] using hr)
theorem rootIn_cont {ks : List Nat} {x : V} (h : rootIn ks x = false) : plainV x = true ∧ ¬ isSlice x := by
  cases x <;> first | (simp [rootIn, rootIn1] at h; done) | exact ⟨rfl, fun h => h.elim⟩
theorem hits_cont {ks : List Nat} {x : V} (h : hits ks x = true) : plainV x = true ∧ ¬ isSlice x := by
  cases x <;> first | (simp [hits, hits1] at h; done) | exact ⟨rfl, fun h => h.elim⟩
theorem into_cont {d : Nat} {x : V} (h : into d x = true) : plainV x = true ∧ ¬ isSlice x := by
  cases x <;> first | (simp [into, into1] at h; done) | exact ⟨rfl, fun h => h.elim⟩
theorem plainV_cont {x : V} (h : plainV x = true) : Cont x = false := by cases x <;> first | rfl | cases h
theorem Rep.plainO {S : Nat → Prop} {w : World} {u : Value} {v : V} {O : List Nat} (hr : Rep S w u v O) (h : plainV v = true) : O = [] :=
  hr.plain (plainV_cont h) fun a l e => by subst e; cases h

def whoF (A : List Nat) (who : Nat → Option Nat) (b : Nat) : Option Nat :=
  match who b with
  | some t => cond (A.contains t) (some t) none
  | none => none
theorem whoF_in {A : List Nat} {who : Nat → Option Nat} {b t : Nat} (h : who b = some t) (ht : A.contains t = true) : whoF A who b = some t := by
  unfold whoF; rw [h]; dsimp only; rw [ht]; rfl
theorem whoF_out {A : List Nat} {who : Nat → Option Nat} {b t : Nat} (h : who b = some t) (ht : A.contains t = false) : whoF A who b = none := by
  unfold whoF; rw [h]; dsimp only; rw [ht]; rfl
theorem whoF_none {A : List Nat} {who : Nat → Option Nat} {b : Nat} (h : who b = none) : whoF A who b = none := by simp [whoF, h]
theorem whoF_some {A : List Nat} {who : Nat → Option Nat} {b t : Nat} (h : whoF A who b = some t) : who b = some t ∧ A.contains t = true := by
  unfold whoF at h
  cases e : who b with
  | none => rw [e] at h; cases h
  | some x =>
    rw [e] at h
    dsimp only at h
    cases e2 : A.contains x with
    | false => rw [e2] at h; cases h
    | true => rw [e2] at h; cases h; exact ⟨rfl, e2⟩

section
variable {E : Env} {S S' : Nat → Prop} {who who' : Nat → Option Nat} {w w' : World} {tm tm' : Array Value} {σ σ' : List V}

/-- Part of a state. -/
theorem Rel.forget (h : Rel E S who w tm σ) (A : List Nat) : Rel E S (whoF A who) w tm (keepOnly A σ) := by
  refine ⟨by rw [keepOnly_length, h.size], fun i => ?_, fun b hb => whoF_none (h.sep b hb), h.low, fun b i hb => h.lowO b i (whoF_some hb).1, fun i => ?_, h.glob⟩
  · rw [gt_keep]
    cases e : A.contains i with
    | false => exact ⟨[], .undef _, by simp, by simp⟩
    | true =>
      unfold mask
      cases e2 : rootIn A (gt σ i) with
      | false => exact ⟨[], .undef _, by simp, by simp⟩
      | true =>
        obtain ⟨O, h1, h2, h3⟩ := h.rep i
        exact ⟨O, h1, h2, fun b hb => whoF_in (h3 b hb) e⟩
  · rw [gt_keep]
    cases e : A.contains i with
    | false => exact link_undef ..
    | true =>
      unfold mask
      cases e2 : rootIn A (gt σ i) with
      | false => exact link_undef ..
      | true =>
        refine (h.link i).congr fun r hr => ⟨rfl, ?_⟩
        rw [gt_keep, rootIn_into e2 hr]
        unfold mask
        cases e3 : rootIn A (gt σ r) with
        | true => exact .inl rfl
        | false => exact .inr ⟨fun h => h.elim, plainV_cont (rootIn_cont e3).1⟩
theorem Step.forget (A : List Nat) : Step S who w S (whoF A who) w :=
  ⟨Nat.le_refl _, fun _ _ _ => rfl, fun _ h => h, fun _ h => .inl h, (fun b hb => .inl fun hc => hb (whoF_none hc)), Same.refl _⟩

def whoM (A W : List Nat) (who who2 : Nat → Option Nat) (b : Nat) : Option Nat :=
  match who2 b with
  | some t => cond (W.contains t) (some t) none
  | none => match who b with
    | some t => cond (A.contains t) none (some t)
    | none => none

/-- **A step on a part**: what it may write is exchanged, the rest stays. -/
theorem Rel.merge {A W : List Nat} {S2 : Nat → Prop} {who2 : Nat → Option Nat} {w2 : World} {tm2 : Array Value} {σ2 : List V} (hWA : ∀ t, W.contains t = true → A.contains t = true) (h : Rel E S who w tm σ) (h2 : Rel E S2 who2 w2 tm2 σ2)
    (st : Step S (whoF A who) w S2 who2 w2) (hsz : tm2.size = tm.size) (htm : ∀ t, W.contains t = false → tm2.getD t undef = tm.getD t undef)
    (hpl : ∀ t, A.contains t = true → W.contains t = false → plainV (gt σ t) = true) :
    Rel E S2 (whoM A W who who2) w2 tm2 (over W W σ σ2) ∧ Step S who w S2 (whoM A W who who2) w2 := by
  have hlen : σ2.length = σ.length := by rw [← h2.size, hsz, h.size]
  have hout : ∀ t b, A.contains t = false → who b = some t → who2 b = none := by
    intro t b ht hb
    cases e : who2 b with
    | none => rfl
    | some x =>
      rcases st.own b (by rw [e]; simp) with h3 | h3
      · exact absurd (whoF_out hb ht) h3
      · have := h.lowO b t hb; omega
  have hsm : ∀ b, S b → w2.heap[b]? = w.heap[b]? := fun b hb => st.keep b (h.low b hb) (whoF_none (h.sep b hb))
  have hom : ∀ t b, A.contains t = false → who b = some t → w2.heap[b]? = w.heap[b]? := fun t b ht hb => st.keep b (h.lowO b t hb) (whoF_out hb ht)
  have hgt : ∀ j, gt (over W W σ σ2) j = cond (W.contains j) (mask W (gt σ2 j)) (cond (hits W (gt σ j)) .undef (gt σ j)) := fun j => gt_over hlen
  constructor
  · refine ⟨by rw [over_length, ← hlen, h2.size], fun i => ?_, fun b hb => ?_, h2.low, fun b i hb => ?_, fun i => ?_, h2.glob⟩
    · rw [hgt]
      cases eW : W.contains i with
      | true =>
        simp only [cond_true]
        unfold mask
        cases e2 : rootIn W (gt σ2 i) with
        | false => exact ⟨[], .undef _, by simp, by simp⟩
        | true =>
          obtain ⟨O, h1, h3, h4⟩ := h2.rep i
          exact ⟨O, h1, h3, fun b hb => by simp only [whoM, h4 b hb]; rw [eW]; rfl⟩
      | false =>
        simp only [cond_false]
        cases e2 : hits W (gt σ i) with
        | true => exact ⟨[], .undef _, by simp, by simp⟩
        | false =>
          obtain ⟨O, h1, h3, h4⟩ := h.rep i
          rw [htm i eW]
          cases eA : A.contains i with
          | true =>
            have := h1.plainO (hpl i eA eW)
            subst this
            exact ⟨[], h1.mono st.sub hsm (by simp), by simp, by simp⟩
          | false =>
            exact ⟨O, h1.mono st.sub hsm (fun b hb => hom i b eA (h4 b hb)), h3, fun b hb => by
              simp only [whoM, hout i b eA (h4 b hb), h4 b hb]; rw [eA]; rfl⟩
    · have h3 := h2.sep b hb
      simp only [whoM, h3]
      cases e : who b with
      | none => rfl
      | some t =>
        cases eA : A.contains t with
        | true => dsimp only; rw [eA]; rfl
        | false =>
          exfalso
          rcases st.new b hb with h4 | h4 | h4
          · rw [h.sep b h4] at e; cases e
          · exact h4 (whoF_out e eA)
          · have := h.lowO b t e; omega
    · unfold whoM at hb
      cases e : who2 b with
      | some x => exact h2.lowO b x e
      | none =>
        rw [e] at hb
        cases e2 : who b with
        | none => rw [e2] at hb; cases hb
        | some x => exact Nat.lt_of_lt_of_le (h.lowO b x e2) st.size
    · rw [hgt]
      cases eW : W.contains i with
      | true =>
        simp only [cond_true]
        unfold mask
        cases e2 : rootIn W (gt σ2 i) with
        | false => exact link_undef ..
        | true =>
          refine (h2.link i).congr fun r hr => ⟨rfl, ?_⟩
          have hr := rootIn_into e2 hr
          rw [hgt, hr]
          simp only [cond_true]
          unfold mask
          cases e3 : rootIn W (gt σ2 r) with
          | true => exact .inl rfl
          | false => exact .inr ⟨fun h => h.elim, plainV_cont (rootIn_cont e3).1⟩
      | false =>
        simp only [cond_false]
        cases e2 : hits W (gt σ i) with
        | true => exact link_undef ..
        | false =>
          rw [htm i eW]
          have hrW : ∀ y ∈ links (gt σ i), ∀ r p, pathOf y = some (r, p) → W.contains r = false := by
            intro y hy r p hp
            have h1 : into1 r y = true := by cases y <;> simp_all [pathOf, into1]
            have h3 : into r (gt σ i) = true := by
              cases e5 : gt σ i <;> rw [e5] at hy <;> simp only [links, List.mem_singleton] at hy <;> first | (subst hy; exact h1) | (exact List.any_eq_true.2 ⟨y, hy, h1⟩)
            exact hits_into e2 h3
          refine (h.link i).keep (fun y hy r q i' j c X hp hf hX => ?_) (fun y hy r hy0 => ?_)
          · have hr := hrW y hy r _ hp
            have hcr : Cont (gt σ r) = true := by
              cases q with
              | nil =>
                have : X = gt σ r := by
                  generalize tm.getD r undef = u0 at hf
                  generalize gt σ r = g0 at hf ⊢
                  cases hf; rfl
                rw [← this]; exact hX
              | cons z q => exact hf.cont (by simp)
            have hrA : A.contains r = false := by
              cases eA : A.contains r with
              | false => rfl
              | true => rw [plainV_cont (hpl r eA hr)] at hcr; cases hcr
            have hg : gt (over W W σ σ2) r = gt σ r := by
              rw [hgt, hr]
              cases e3 : hits W (gt σ r) with
              | false => simp
              | true => rw [plainV_cont (hits_cont e3).1] at hcr; cases hcr
            obtain ⟨P, hP, _, hoP⟩ := h.rep r
            have hall : ∀ b ∈ P, w2.heap[b]? = w.heap[b]? := fun b hb => hom r b hrA (hoP b hb)
            refine ⟨X, by rw [hg, htm r hr]; exact hf.mono hP hall, fun _ _ _ hb => hb, fun _ => ⟨fun j hj => hj, fun i j b o hb hj hs => ⟨hs, ?_⟩⟩⟩
            obtain ⟨A', OX', B', e', hX0, _⟩ := hP.focusA hf
            exact cell?_of_heap (hall b (by rw [e']; simp [hb.owned hX0]))
          · have hr := hrW y hy r [] (by rw [hy0]; rfl)
            refine ⟨fun hs => ?_, htm r hr⟩
            rw [hgt, hr] at hs
            revert hs
            cases hits W (gt σ r) with
            | false => exact id
            | true => exact fun h => h.elim
  · refine ⟨st.size, fun b hb hn => st.keep b hb (whoF_none hn), st.sub, fun b hb => ?_, fun b hb => ?_, st.out⟩
    · rcases st.new b hb with h3 | h3 | h3
      · exact .inl h3
      · exact .inr (.inl fun hc => h3 (whoF_none hc))
      · exact .inr (.inr h3)
    · unfold whoM at hb
      cases e : who2 b with
      | some x =>
        rcases st.own b (by rw [e]; simp) with h3 | h3
        · exact .inl fun hc => h3 (whoF_none hc)
        · exact .inr h3
      | none =>
        rw [e] at hb
        exact .inl fun hc => by rw [hc] at hb; exact hb rfl

/-- **A step that only gives a value**: what it read stays as it was. -/
theorem Rel.mergeQ {A : List Nat} {d : Nat} {v : V} {S2 : Nat → Prop} {who2 : Nat → Option Nat} {w2 : World} {u : Value} (hd : A.contains d = true) (h : Rel E S who w tm σ) (h2 : Rel E S2 who2 w2 (tm.setIfInBounds d u) (setT (keepOnly A σ) d v))
    (st : Step S (whoF A who) w S2 who2 w2) (hg : Grows w w2) :
    Rel E S2 (whoM A A who who2) w2 (tm.setIfInBounds d u) (over A [d] σ (setT (keepOnly A σ) d v)) ∧ Step S who w S2 (whoM A A who who2) w2 := by
  have hlk : (keepOnly A σ).length = σ.length := keepOnly_length
  generalize hσ2 : setT (keepOnly A σ) d v = σ2 at h2 ⊢
  have hlen : σ2.length = σ.length := by rw [← hσ2]; simp [setT, dropRoot, hlk]
  have hgt2 : ∀ i, i ≠ d → gt σ2 i = cond (into d (gt (keepOnly A σ) i)) .undef (gt (keepOnly A σ) i) := fun i hi => by
    rw [← hσ2]; unfold setT; rw [gt_set, if_neg (fun e => hi e.1.symm), gt_dropRoot]
  have htm : ∀ t, t ≠ d → (tm.setIfInBounds d u).getD t undef = tm.getD t undef := fun t ht => by
    rw [getD_setIfInBounds, if_neg (fun e => ht e.1.symm)]
  have hit : ∀ x, hits [d] x = into d x := by
    have one : ∀ y, hits1 [d] y = into1 d y := fun y => by
      cases y <;> simp only [hits1, into1, List.contains_cons, List.contains_nil, Bool.or_false, Nat.beq_eq_true_eq] <;> first | rfl | (rw [Bool.eq_iff_iff]; simp)
    intro x
    cases x
    case fn f caps =>
      simp only [hits, into]
      congr 1
      funext y
      exact one y
    all_goals (simp only [hits, into]; exact one _)
  have hgt : ∀ j, gt (over A [d] σ σ2) j = if j = d then mask A (gt σ2 d) else cond (into d (gt σ j)) .undef (gt σ j) := fun j => by
    rw [gt_over hlen, hit]
    by_cases hj : j = d
    · subst hj; simp
    · have : ([d].contains j) = false := by simpa using hj
      rw [this, if_neg hj]; rfl
  have hsame : ∀ j, j ≠ d → A.contains j = true → rootIn A (gt σ j) = true → gt (over A [d] σ σ2) j = gt σ2 j := fun j hj hA hr => by
    rw [hgt, if_neg hj, hgt2 j hj, gt_keep, hA]
    simp only [cond_true, mask, hr]
  have hout : ∀ t b, A.contains t = false → who b = some t → who2 b = none := by
    intro t b ht hb
    cases e : who2 b with
    | none => rfl
    | some x =>
      rcases st.own b (by rw [e]; simp) with h3 | h3
      · exact absurd (whoF_out hb ht) h3
      · have := h.lowO b t hb; omega
  have hsm : ∀ b, S b → w2.heap[b]? = w.heap[b]? := fun b hb => hg.2 b (h.low b hb)
  have hom : ∀ t b, who b = some t → w2.heap[b]? = w.heap[b]? := fun t b hb => hg.2 b (h.lowO b t hb)
  constructor
  · refine ⟨by rw [over_length, ← hlen, h2.size], fun i => ?_, fun b hb => ?_, h2.low, fun b i hb => ?_, fun i => ?_, h2.glob⟩
    · by_cases hi : i = d
      · subst hi
        rw [hgt, if_pos rfl]
        unfold mask
        cases e2 : rootIn A (gt σ2 i) with
        | false => exact ⟨[], .undef _, by simp, by simp⟩
        | true =>
          obtain ⟨O, h1, h3, h4⟩ := h2.rep i
          exact ⟨O, h1, h3, fun b hb => by simp only [whoM, h4 b hb]; rw [hd]; rfl⟩
      · cases eA : A.contains i with
        | false =>
          rw [hgt, if_neg hi]
          cases e2 : into d (gt σ i) with
          | true => exact ⟨[], .undef _, by simp, by simp⟩
          | false =>
            obtain ⟨O, h1, h3, h4⟩ := h.rep i
            rw [htm i hi]
            exact ⟨O, h1.mono st.sub hsm (fun b hb => hom i b (h4 b hb)), h3, fun b hb => by
              simp only [whoM, hout i b eA (h4 b hb), h4 b hb]; rw [eA]; rfl⟩
        | true =>
          cases e3 : rootIn A (gt σ i) with
          | true =>
            rw [hsame i hi eA e3]
            obtain ⟨O, h1, h3, h4⟩ := h2.rep i
            exact ⟨O, h1, h3, fun b hb => by simp only [whoM, h4 b hb]; rw [eA]; rfl⟩
          | false =>
            rw [hgt, if_neg hi]
            cases e2 : into d (gt σ i) with
            | true => exact ⟨[], .undef _, by simp, by simp⟩
            | false =>
              obtain ⟨O, h1, h3, h4⟩ := h.rep i
              rw [htm i hi]
              have := h1.plainO (rootIn_cont e3).1
              subst this
              exact ⟨[], h1.mono st.sub hsm (by simp), by simp, by simp⟩
    · have h3 := h2.sep b hb
      simp only [whoM, h3]
      cases e : who b with
      | none => rfl
      | some t =>
        cases eA : A.contains t with
        | true => dsimp only; rw [eA]; rfl
        | false =>
          exfalso
          rcases st.new b hb with h4 | h4 | h4
          · rw [h.sep b h4] at e; cases e
          · exact h4 (whoF_out e eA)
          · have := h.lowO b t e; omega
    · unfold whoM at hb
      cases e : who2 b with
      | some x => exact h2.lowO b x e
      | none =>
        rw [e] at hb
        cases e2 : who b with
        | none => rw [e2] at hb; cases hb
        | some x => exact Nat.lt_of_lt_of_le (h.lowO b x e2) st.size
    · by_cases hi : i = d
      · subst hi
        rw [hgt, if_pos rfl]
        unfold mask
        cases e2 : rootIn A (gt σ2 i) with
        | false => exact link_undef ..
        | true =>
          refine (h2.link i).congr fun r hr => ⟨rfl, ?_⟩
          have hrA := rootIn_into e2 hr
          by_cases hri : r = i
          · subst hri
            rw [hgt, if_pos rfl]
            unfold mask
            rw [e2]; exact .inl rfl
          · cases e3 : rootIn A (gt σ r) with
            | true => exact .inl (hsame r hri hrA e3)
            | false =>
              refine .inr ⟨fun hs => ?_, ?_⟩
              · rw [hgt, if_neg hri] at hs
                revert hs
                cases into i (gt σ r) with
                | true => exact fun h => h
                | false => exact (rootIn_cont e3).2
              · rw [hgt2 r hri, gt_keep, hrA]
                simp only [cond_true, mask, e3]
                rfl
      · rw [hgt, if_neg hi, htm i hi]
        cases e2 : into d (gt σ i) with
        | true => exact link_undef ..
        | false =>
          have hl := (h.link i).world h.rep (w' := w2) fun b hb => by
            obtain ⟨t, ht⟩ := Option.ne_none_iff_exists'.1 hb
            exact hom t b ht
          refine hl.congr fun r hr => ?_
          have hrd : r ≠ d := fun e => by subst e; rw [hr] at e2; cases e2
          refine ⟨htm r hrd, ?_⟩
          rw [hgt, if_neg hrd]
          cases e3 : into d (gt σ r) with
          | false => exact .inl rfl
          | true => exact .inr ⟨fun h => h.elim, plainV_cont (into_cont e3).1⟩
  · refine ⟨st.size, fun b hb hn => st.keep b hb (whoF_none hn), st.sub, fun b hb => ?_, fun b hb => ?_, st.out⟩
    · rcases st.new b hb with h3 | h3 | h3
      · exact .inl h3
      · exact .inr (.inl fun hc => h3 (whoF_none hc))
      · exact .inr (.inr h3)
    · unfold whoM at hb
      cases e : who2 b with
      | some x =>
        rcases st.own b (by rw [e]; simp) with h3 | h3
        · exact .inl fun hc => h3 (whoF_none hc)
        · exact .inr h3
      | none =>
        rw [e] at hb
        exact .inl fun hc => by rw [hc] at hb; exact hb rfl

end
end Go.Zv
