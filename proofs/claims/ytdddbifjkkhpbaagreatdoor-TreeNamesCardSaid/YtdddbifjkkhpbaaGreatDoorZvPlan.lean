/- Zv: regions whose order is drawn: steps on parts of a state that do not meet may be exchanged. No condition. -/
import Derived.Test.YtdddbifjkkhpbaaGreatDoorZvStep2
import Derived.StillTail
namespace Go.Zv
open Go

def disjB (xs ys : List Nat) : Bool := xs.all fun x => !ys.contains x
theorem disj_spec {xs ys : List Nat} (h : disjB xs ys = true) {x : Nat} (hx : xs.contains x = true) : ys.contains x = false := by
  simp only [disjB, List.all_eq_true, Bool.not_eq_true'] at h
  exact h x (List.contains_iff_mem.1 hx)
theorem disj_spec' {xs ys : List Nat} (h : disjB xs ys = true) {x : Nat} (hy : ys.contains x = true) : xs.contains x = false := by
  cases e : xs.contains x with
  | false => rfl
  | true => rw [disj_spec h e] at hy; cases hy

theorem hits_root {W A : List Nat} {x : V} (hd : disjB W A = true) (h : hits W x = true) : rootIn A x = false := by
  have one : ∀ {y : V}, hits1 W y = true → rootIn1 A y = false := by
    intro y h
    cases y <;> simp only [hits1, rootIn1, Bool.false_eq_true] at h ⊢ <;> exact disj_spec hd h
  cases x
  case fn f caps =>
    simp only [hits, List.any_eq_true] at h
    obtain ⟨c, hc, h⟩ := h
    simp only [rootIn, List.all_eq_false]
    exact ⟨c, hc, by simp [one h]⟩
  all_goals (simp only [hits, rootIn] at h ⊢; exact one h)
theorem root_hits {W A : List Nat} {x : V} (hd : disjB W A = true) (h : rootIn A x = true) : hits W x = false := by
  cases e : hits W x with
  | false => rfl
  | true => rw [hits_root hd e] at h; cases h
theorem rootIn_sub {M A : List Nat} {x : V} (hs : ∀ t, M.contains t = true → A.contains t = true) (h : rootIn M x = true) : rootIn A x = true := by
  have one : ∀ {y : V}, rootIn1 M y = true → rootIn1 A y = true := by
    intro y h
    cases y <;> simp only [rootIn1] at h ⊢ <;> exact hs _ h
  cases x
  case fn f caps =>
    simp only [rootIn, List.all_eq_true] at h ⊢
    exact fun c hc => one (h c hc)
  all_goals (simp only [rootIn] at h ⊢; exact one h)

theorem overGo_gt' {M W : List Nat} : ∀ (i : Nat) (σ σ' : List V) (j : Nat), j < σ.length →
    gt (overGo M W i σ σ') j = cond (W.contains (i + j)) (mask M (gt σ' j)) (cond (hits W (gt σ j)) .undef (gt σ j))
  | i, [], σ', j, h => by simp at h
  | i, x :: xs, [], 0, h => by simp [overGo, gt]
  | i, x :: xs, y :: ys, 0, h => by simp [overGo, gt]
  | i, x :: xs, [], j + 1, h => by
    have := overGo_gt' (M := M) (W := W) (i + 1) xs [] j (by simpa using h)
    simp only [gt, overGo, List.tail_nil, List.getD_cons_succ] at this ⊢
    rw [this, show i + 1 + j = i + (j + 1) by omega]; rfl
  | i, x :: xs, y :: ys, j + 1, h => by
    have := overGo_gt' (M := M) (W := W) (i + 1) xs ys j (by simpa using h)
    simp only [gt, overGo, List.tail_cons, List.getD_cons_succ] at this ⊢
    rw [this, show i + 1 + j = i + (j + 1) by omega]
theorem gt_over' {M W : List Nat} {σ σ' : List V} {j : Nat} (h : j < σ.length) :
    gt (over M W σ σ') j = cond (W.contains j) (mask M (gt σ' j)) (cond (hits W (gt σ j)) .undef (gt σ j)) := by
  have := overGo_gt' (M := M) (W := W) 0 σ σ' j h
  rwa [Nat.zero_add] at this
theorem ext_gt {σ σ' : List V} (hl : σ.length = σ'.length) (h : ∀ j, j < σ.length → gt σ j = gt σ' j) : σ = σ' := by
  apply List.ext_getElem hl
  intro j h1 h2
  have := h j h1
  unfold gt at this
  rw [List.getD_eq_getElem?_getD, List.getD_eq_getElem?_getD, List.getElem?_eq_getElem h1, List.getElem?_eq_getElem h2] at this
  simpa using this

theorem hits_undef {W : List Nat} : hits W .undef = false := rfl
theorem view_over {M W A : List Nat} {σ σ' : List V} (hd : disjB W A = true) : keepOnly A (over M W σ σ') = keepOnly A σ := by
  refine ext_gt (by rw [keepOnly_length, keepOnly_length, over_length]) fun j hj => ?_
  rw [keepOnly_length, over_length] at hj
  rw [gt_keep, gt_keep]
  cases hA : A.contains j with
  | false => rfl
  | true =>
    simp only [cond_true]
    rw [gt_over' hj, disj_spec' hd hA]
    simp only [cond_false]
    cases hh : hits W (gt σ j) with
    | false => rfl
    | true => simp only [cond_true, mask, hits_root hd hh]; rfl

section
variable {E : Env} {ops : Array Oper}

theorem stepF_spec {s : PStep} {σ σ' : List V} (h : stepF E ops s σ = some σ') : ∃ o σ2, ops[s.i]? = some o ∧
    (cond s.quiet (putB E o (keepOnly (s.rd ++ s.wr) σ)) (s.rd.all fun t => plainV (gt σ t))) = true ∧ gstep E ops o (keepOnly (s.rd ++ s.wr) σ) some = some σ2 ∧
    σ' = over (cond s.quiet (s.rd ++ s.wr) s.wr) s.wr σ σ2 := by
  unfold stepF at h
  split at h
  · cases h
  · rename_i o ho
    cases hc : (cond s.quiet (putB E o (keepOnly (s.rd ++ s.wr) σ)) (s.rd.all fun t => plainV (gt σ t))) with
    | false => rw [hc] at h; cases h
    | true =>
      rw [hc] at h
      simp only [cond_true, Option.bind_eq_some_iff, forceL_eq, Option.some.injEq] at h
      obtain ⟨σ2, h1, h2⟩ := h
      exact ⟨o, σ2, ho, hc, h1, h2.symm⟩
theorem stepF_mk {s : PStep} {σ : List V} {o : Oper} {σ2 : List V} (ho : ops[s.i]? = some o) (hc : (cond s.quiet (putB E o (keepOnly (s.rd ++ s.wr) σ)) (s.rd.all fun t => plainV (gt σ t))) = true) (h : gstep E ops o (keepOnly (s.rd ++ s.wr) σ) some = some σ2) :
    stepF E ops s σ = some (over (cond s.quiet (s.rd ++ s.wr) s.wr) s.wr σ σ2) := by
  unfold stepF
  rw [ho]
  dsimp only
  rw [hc]
  simp only [cond_true, h, Option.bind_some, forceL_eq]

theorem plain_over {M W : List Nat} {σ σ' : List V} {t : Nat} (hW : W.contains t = false) : plainV (gt (over M W σ σ') t) = plainV (gt σ t) := by
  by_cases ht : t < σ.length
  · rw [gt_over' ht, hW]
    simp only [cond_false]
    cases hh : hits W (gt σ t) with
    | false => rfl
    | true => simp only [cond_true]; rw [(hits_cont hh).1]; rfl
  · rw [gt_len (by rw [over_length]; omega), gt_len (by omega)]

/-- Two steps that do not meet. -/
theorem stepF_comm {s t : PStep} {σ σ1 σ2 : List V} (h1 : disjB s.wr (t.rd ++ t.wr) = true) (h2 : disjB t.wr (s.rd ++ s.wr) = true) (hs : stepF E ops s σ = some σ1) (ht : stepF E ops t σ1 = some σ2) :
    ∃ σ3, stepF E ops t σ = some σ3 ∧ stepF E ops s σ3 = some σ2 := by
  obtain ⟨os, σs, ho1, hc1, hg1, rfl⟩ := stepF_spec hs
  obtain ⟨ot, σt, ho2, hc2, hg2, rfl⟩ := stepF_spec ht
  rw [view_over h1] at hc2 hg2
  have hin : ∀ {u : PStep} {k : Nat}, u.rd.contains k = true → (u.rd ++ u.wr).contains k = true := fun {u k} hk => by
    rw [List.contains_iff_mem] at hk ⊢; simp [hk]
  have hinW : ∀ {u : PStep} {k : Nat}, u.wr.contains k = true → (u.rd ++ u.wr).contains k = true := fun {u k} hk => by
    rw [List.contains_iff_mem] at hk ⊢; simp [hk]
  have hM : ∀ {u : PStep} {k : Nat}, (cond u.quiet (u.rd ++ u.wr) u.wr).contains k = true → (u.rd ++ u.wr).contains k = true := fun {u k} hk => by
    cases hq : u.quiet <;> rw [hq] at hk
    · exact hinW hk
    · exact hk
  have pl : ∀ {u v : PStep} {σ σ' : List V} {M : List Nat}, disjB v.wr (u.rd ++ u.wr) = true → (u.rd.all fun k => plainV (gt (over M v.wr σ σ') k)) = (u.rd.all fun k => plainV (gt σ k)) := fun {u v σ σ' M} hd => by
    rw [Bool.eq_iff_iff]
    simp only [List.all_eq_true]
    refine forall_congr' fun k => forall_congr' fun hk => ?_
    rw [plain_over (disj_spec' hd (hin (List.contains_iff_mem.2 hk)))]
  refine ⟨_, stepF_mk ho2 (by rw [← hc2, pl h1]) hg2, ?_⟩
  rw [stepF_mk ho1 (σ2 := σs) (by rw [view_over h2, ← hc1, pl h2]) (by rw [view_over h2]; exact hg1)]
  congr 1
  refine ext_gt (by simp only [over_length]) fun j hj => ?_
  simp only [over_length] at hj
  rw [gt_over' (σ' := σs) (σ := over _ _ σ σt) (by rw [over_length]; exact hj), gt_over' (σ' := σt) (σ := over _ _ σ σs) (by rw [over_length]; exact hj), gt_over' (σ' := σs) (σ := σ) hj, gt_over' (σ' := σt) (σ := σ) hj]
  have hroot : ∀ {u v : PStep} {x : V}, disjB v.wr (u.rd ++ u.wr) = true → hits v.wr (mask (cond u.quiet (u.rd ++ u.wr) u.wr) x) = false := fun {u v x} hd => by
    unfold mask
    cases e : rootIn (cond u.quiet (u.rd ++ u.wr) u.wr) x with
    | false => rfl
    | true => exact root_hits hd (rootIn_sub (fun _ => hM) e)
  cases eS : s.wr.contains j with
  | true =>
    rw [disj_spec' h2 (hinW eS)]
    simp only [cond_true, cond_false, hroot h2]
  | false =>
    cases eT : t.wr.contains j with
    | true => simp only [cond_true, cond_false, hroot h1]
    | false =>
      simp only [cond_false]
      cases e1 : hits s.wr (gt σ j) <;> cases e2 : hits t.wr (gt σ j) <;> simp [e1, e2, hits_undef]

def disjS (s t : PStep) : Bool := disjB s.wr (t.rd ++ t.wr) && disjB t.wr (s.rd ++ s.wr)
/-- A step that meets none of those ahead of it may come first. -/
theorem runSteps_front {s : PStep} {l2 : List PStep} : ∀ {l1 : List PStep} {σ σE : List V}, (∀ t ∈ l1, disjS t s = true) → runSteps E ops (l1 ++ s :: l2) σ = some σE →
    ∃ σ1, stepF E ops s σ = some σ1 ∧ runSteps E ops (l1 ++ l2) σ1 = some σE
  | [], σ, σE, _, h => by
    simp only [List.nil_append, runSteps, Option.bind_eq_some_iff] at h
    exact h
  | t :: l1, σ, σE, hd, h => by
    simp only [List.cons_append, runSteps, Option.bind_eq_some_iff] at h
    obtain ⟨σa, h1, h2⟩ := h
    obtain ⟨σb, h3, h4⟩ := runSteps_front (fun u hu => hd u (by simp [hu])) h2
    have hdt := hd t (by simp)
    simp only [disjS, Bool.and_eq_true] at hdt
    obtain ⟨σ1, h5, h6⟩ := stepF_comm hdt.1 hdt.2 h1 h3
    refine ⟨σ1, h5, ?_⟩
    simp only [List.cons_append, runSteps, Option.bind_eq_some_iff]
    exact ⟨σb, h6, h4⟩
end

/-! ### All orders -/
structure Steps (ops : Array Oper) (pre : Nat → List Nat) (tail : List Nat) (listed : Array Bool) (rem : List PStep) : Prop where
  size : listed.size = ops.size
  pair : rem.Pairwise fun s t => (t.pre.contains s.i = true ∨ disjS s t = true) ∧ Region.waitsFor .any ops s.i t.i = false
  nodup : (rem.map (·.i)).Nodup
  un : ∀ k, k < ops.size → (listed.getD k false = false ↔ k ∈ rem.map (·.i) ∨ k ∈ tail)
  apart : ∀ s ∈ rem, s.i ∉ tail ∧ s.i < ops.size
  text : ∀ s ∈ rem, ∀ o, ops[s.i]? = some o → okStep s o = true
  waits : ∀ s ∈ rem, ∀ k, Region.waitsFor .any ops s.i k = true → k < ops.size ∧ k ∉ tail ∧ k ≠ s.i
  pres : ∀ s ∈ rem, s.pre = pre s.i ∧ ∀ i ∈ s.pre, Region.waitsFor .any ops s.i i = true ∨ ∃ k, Region.waitsFor .any ops s.i k = true ∧ i ∈ pre k
  closed : ∀ k, listed.getD k false = true → ∀ i ∈ pre k, listed.getD i false = true
  tails : ∀ t ∈ tail, ∃ k, Region.waitsFor .any ops t k = true ∧ k < ops.size ∧ (k ∈ tail ∨ ∀ s ∈ rem, s.i = k ∨ s.i ∈ pre k)

section
variable {P : Program} {E : Env} {ops : Array Oper} {S0 : Nat → Prop} {who0 : Nat → Option Nat} {w0 : World} {a0 : Act} {Q : Exit → Act → World → Prop} {pre : Nat → List Nat} {tail : List Nat}

theorem getD_ft {listed : Array Bool} {k : Nat} (hk : k < listed.size) : listed.getD k true = listed.getD k false := by
  simp [hk]

theorem explore (hE : EnvOK P E) (hC : CallOK P E) {σE : List V}
    (HT : ∀ a w (listed : Array Bool), listed.size = ops.size → (∀ k, k < ops.size → (listed.getD k false = false ↔ k ∈ tail)) → Led E S0 who0 w0 a0 σE a w → wpAny P .any ops Q tail.length listed a w) :
    ∀ (n : Nat) (rem : List PStep) (listed : Array Bool) (σ : List V) (a : Act) (w : World), rem.length = n → Steps ops pre tail listed rem → runSteps E ops rem σ = some σE → Led E S0 who0 w0 a0 σ a w →
      wpAny P .any ops Q (n + tail.length) listed a w := by
  intro n
  induction n with
  | zero =>
    intro rem listed σ a w hn hS hr hL
    have : rem = [] := List.eq_nil_of_length_eq_zero hn
    subst this
    simp only [runSteps, Option.some.injEq] at hr
    subst hr
    rw [Nat.zero_add]
    exact HT a w listed hS.size (fun k hk => by simpa using hS.un k hk) hL
  | succ n ih =>
    intro rem listed σ a w hn hS hr hL
    rw [show n + 1 + tail.length = (n + tail.length) + 1 by omega]
    have waitOf : ∀ {j : Nat} {o : Oper}, ops[j]? = some o → ∀ e ∈ o.after, Region.binds .any e = true → Region.waitsFor .any ops j e.on = true := by
      intro j o ho e he hb
      simp only [Region.waitsFor, ho]
      exact Array.any_eq_true'.2 ⟨e, he, by simp [hb]⟩
    -- what a ready operation waits for is listed
    have ready : ∀ {j : Nat}, j ∈ Region.ready .any ops listed → ∀ k, Region.waitsFor .any ops j k = true → listed.getD k false = true := by
      intro j hj k hk
      obtain ⟨_, o, ho, hall⟩ := mem_ready.1 hj
      obtain ⟨o', ho', e, he, hb, rfl⟩ := Region.waitsFor_spec hk
      rw [ho] at ho'; cases ho'
      exact hall e he hb
    constructor
    · -- something is ready
      intro h0
      exfalso
      cases rem with
      | nil => simp at hn
      | cons s rest =>
        have hlt := (hS.apart s (by simp)).2
        have hun : listed.getD s.i false = false := (hS.un s.i hlt).2 (.inl (by simp))
        have : s.i ∈ Region.ready .any ops listed := by
          refine mem_ready.2 ⟨by rw [getD_ft (by rw [hS.size]; exact hlt)]; exact hun, ops[s.i], Array.getElem?_eq_getElem hlt, fun e he hb => ?_⟩
          have hw := waitOf (Array.getElem?_eq_getElem hlt) e he hb
          obtain ⟨g1, g2, g3⟩ := hS.waits s (by simp) _ hw
          cases hl : listed.getD e.on false with
          | true => rfl
          | false =>
            rcases (hS.un e.on g1).1 hl with h1 | h1
            · simp only [List.map_cons, List.mem_cons] at h1
              rcases h1 with h1 | h1
              · exact absurd h1 g3
              · obtain ⟨t, ht, h1⟩ := List.mem_map.1 h1
                have := (List.pairwise_cons.1 hS.pair).1 t ht
                rw [h1, hw] at this
                cases this.2
            · exact absurd h1 g2
        rw [h0] at this
        cases this
    · intro j hj
      obtain ⟨hj0, o, ho, _⟩ := mem_ready.1 hj
      have hlt : j < ops.size := (Array.getElem?_eq_some_iff.1 ho).1
      have hun : listed.getD j false = false := by rw [← getD_ft (by rw [hS.size]; exact hlt)]; exact hj0
      have hmem : j ∈ rem.map (·.i) := by
        rcases (hS.un j hlt).1 hun with h1 | h1
        · exact h1
        · exfalso
          obtain ⟨k, hk, hks, h2⟩ := hS.tails j h1
          have hl := ready hj k hk
          rcases h2 with h2 | h2
          · rw [(hS.un k hks).2 (.inr h2)] at hl; cases hl
          · cases rem with
            | nil => simp at hn
            | cons s rest =>
              have hus : listed.getD s.i false = false := (hS.un s.i (hS.apart s (by simp)).2).2 (.inl (by simp))
              rcases h2 s (by simp) with h3 | h3
              · rw [h3, hl] at hus; cases hus
              · rw [hS.closed k hl _ h3] at hus; cases hus
      obtain ⟨s, hs, rfl⟩ := List.mem_map.1 hmem
      have hpre : ∀ i ∈ s.pre, listed.getD i false = true := by
        intro i hi
        rcases (hS.pres s hs).2 i hi with h1 | ⟨k, h1, h2⟩
        · exact ready hj _ h1
        · exact hS.closed k (ready hj k h1) i h2
      obtain ⟨l1, l2, rfl⟩ := List.append_of_mem hs
      have hpair := List.pairwise_append.1 hS.pair
      have hd : ∀ t ∈ l1, disjS t s = true := by
        intro t ht
        rcases (hpair.2.2 t ht s (by simp)).1 with h1 | h1
        · exfalso
          have h2 := hpre t.i (List.contains_iff_mem.1 h1)
          rw [(hS.un t.i (hS.apart t (by simp [ht])).2).2 (.inl (by simp [List.mem_map]; exact .inl ⟨t, ht, rfl⟩))] at h2
          cases h2
        · exact h1
      obtain ⟨σ1, hst, hr'⟩ := runSteps_front hd hr
      have hsub : (l1 ++ l2).Sublist (l1 ++ s :: l2) := List.Sublist.append_left (List.sublist_cons_self _ _) _
      have hmem' : ∀ t, t ∈ l1 ++ l2 → t ∈ l1 ++ s :: l2 := fun t ht => hsub.subset ht
      have hnd := hS.nodup
      simp only [List.map_append, List.map_cons] at hnd
      have hS' : Steps ops pre tail (listed.setIfInBounds s.i true) (l1 ++ l2) := by
        refine ⟨by simp [hS.size], hS.pair.sublist hsub, hS.nodup.sublist (hsub.map _), fun k hk => ?_, fun t ht => hS.apart t (hmem' t ht), fun t ht => hS.text t (hmem' t ht), fun t ht => hS.waits t (hmem' t ht),
          fun t ht => hS.pres t (hmem' t ht), fun k hk i hi => ?_, fun t ht => ?_⟩
        · have hnot : s.i ∉ (l1 ++ l2).map (·.i) := by
            rw [List.map_append]
            intro hc
            rw [List.nodup_append] at hnd
            obtain ⟨n1, n2, n3⟩ := hnd
            rcases List.mem_append.1 hc with hc | hc
            · exact n3 _ hc _ (by simp) rfl
            · exact (List.nodup_cons.1 n2).1 hc
          by_cases hk2 : s.i = k
          · subst hk2
            have h1 : (listed.setIfInBounds s.i true).getD s.i false = true := by simp [hS.size, hlt]
            rw [h1]
            constructor
            · intro h; cases h
            · rintro (h | h)
              · exact absurd h hnot
              · exact absurd h (hS.apart s hs).1
          · rw [getD_set_ne false hk2, hS.un k hk]
            have : (k ∈ (l1 ++ s :: l2).map (·.i)) ↔ (k ∈ (l1 ++ l2).map (·.i)) := by
              simp only [List.map_append, List.map_cons, List.mem_append, List.mem_cons]
              constructor
              · rintro (h | h | h)
                · exact .inl h
                · exact absurd h.symm hk2
                · exact .inr h
              · rintro (h | h)
                · exact .inl h
                · exact .inr (.inr h)
            rw [this]
        · by_cases hk2 : s.i = k
          · subst hk2
            rw [← (hS.pres s hs).1] at hi
            exact getD_set_true (hpre i hi)
          · rw [getD_set_ne false hk2] at hk
            exact getD_set_true (hS.closed k hk i hi)
        · obtain ⟨k, h1, h2, h3⟩ := hS.tails t ht
          exact ⟨k, h1, h2, h3.imp id fun h u hu => h u (hmem' u hu)⟩
      obtain ⟨S1, who1, hrel, hstep, hdef, hfix⟩ := hL
      refine step_sound hE hC ho (hS.text s hs o ho) hrel hst fun a' w' hL' => ?_
      refine ih (l1 ++ l2) _ σ1 a' w' (by simp at hn ⊢; omega) hS' hr' ?_
      obtain ⟨S2, who2, g1, g2, g3, g4⟩ := hL'
      exact ⟨S2, who2, g1, hstep.trans g2, g3.trans hdef, hfix.trans g4⟩

/-! ### The tail -/
def tailB (ops : Array Oper) : List Nat → Array Bool → Bool
  | [], listed => (Region.ready .any ops listed).isEmpty
  | i :: rest, listed => (match ops[i]? with
    | some o => calmB o
    | none => false) && (Region.ready .any ops listed).contains i && Region.free .any ops listed i && tailB ops rest (listed.setIfInBounds i true)

theorem tail_still (hE : EnvOK P E) (hC : CallOK P E) (hsel : Region.noSelect ops = true) {R : Type} {r : R} {K : List V → Option R} {w : World} : ∀ (l : List Nat) (listed : Array Bool) (σ : List V) (a : Act),
    tailB ops l listed = true → runIdx E ops l σ K = some r → Led E S0 who0 w0 a0 σ a w → wpAnyS P .any ops w (fun a' => ∃ σ', K σ' = some r ∧ Led E S0 who0 w0 a0 σ' a' w) l.length listed a
  | [], listed, σ, a, hB, hs, hL => ⟨by simpa [tailB] using hB, σ, hs, hL⟩
  | i :: l, listed, σ, a, hB, hs, hL => by
    simp only [tailB, Bool.and_eq_true] at hB
    obtain ⟨⟨⟨hc, hr⟩, hf⟩, hB⟩ := hB
    simp only [runIdx, forceAll_eq] at hs
    cases ho : ops[i]? with
    | none => rw [ho] at hs; cases hs
    | some o =>
    rw [ho] at hs hc
    dsimp only at hs hc
    obtain ⟨S1, who1, hrel, hstep, hdef, hfix⟩ := hL
    have hfx0 := gstep_fixed hs
    have fin : ∀ {v : Value}, YieldsAt P ops w o v a → Post E r (fun σ' => runIdx E ops l σ' K) S1 who1 w a (a.put o.dst v) w → wpAnyS P .any ops w (fun a' => ∃ σ', K σ' = some r ∧ Led E S0 who0 w0 a0 σ' a' w) (l.length + 1) listed a := by
      intro v hy hp
      obtain ⟨σ1, g1, g2⟩ := Led.post hstep hdef hfix hp (Fix.put hfx0 rfl)
      have := tail_still hE hC hsel l (listed.setIfInBounds i true) σ1 (a.put o.dst v) hB g1 g2
      exact wpAnyS_first ho (Region.noSelect_spec hsel) l.length listed a (Region.free_spec ho hf) (by simpa using hr) hy this
    rcases gstep_cases hrel hs with ⟨h1, h2⟩ | ⟨h1, h2⟩
    · obtain ⟨v, e1, e2⟩ := oper_still hE hC hrel h2 hc
      exact fin (.inl ⟨h1, .inl e1⟩) e2
    · exact fin (.inr ⟨h1, rfl⟩) (post_unit (K := fun σ' => runIdx E ops l σ' K) hrel h2)

/-! ### What comes first -/
def firstB (ops : Array Oper) : List Nat → Array Bool → Bool
  | [], _ => true
  | i :: rest, listed => (match ops[i]? with
    | some o => (match o.op, o.guard with
      | .move _, none => true
      | _, _ => false)
    | none => false) && (Region.ready .any ops listed).contains i && Region.free .any ops listed i && firstB ops rest (listed.setIfInBounds i true)
def listAll : List Nat → Array Bool → Array Bool
  | [], listed => listed
  | i :: rest, listed => listAll rest (listed.setIfInBounds i true)

theorem first_sound (hE : EnvOK P E) (hC : CallOK P E) (hsel : Region.noSelect ops = true) (hQ : ∀ c a w, ¬ Q (.panic c) a w) {R : Type} {r : R} {K : List V → Option R} {m : Nat} : ∀ (l : List Nat) (listed : Array Bool) (σ : List V) (a : Act) (w : World),
    firstB ops l listed = true → runIdx E ops l σ K = some r → Led E S0 who0 w0 a0 σ a w →
    (∀ σ1 a1 w1, K σ1 = some r → Led E S0 who0 w0 a0 σ1 a1 w1 → wpAny P .any ops Q m (listAll l listed) a1 w1) → wpAny P .any ops Q (l.length + m) listed a w
  | [], listed, σ, a, w, hB, hs, hL, H => by
    simp only [List.length_nil, Nat.zero_add]
    exact H σ a w hs hL
  | i :: l, listed, σ, a, w, hB, hs, hL, H => by
    simp only [firstB, Bool.and_eq_true] at hB
    obtain ⟨⟨⟨hc, hr⟩, hf⟩, hB⟩ := hB
    simp only [runIdx, forceAll_eq] at hs
    cases ho : ops[i]? with
    | none => rw [ho] at hs; cases hs
    | some o =>
    rw [ho] at hs hc
    dsimp only at hs hc
    obtain ⟨S1, who1, hrel, hstep, hdef, hfix⟩ := hL
    have hfx0 := gstep_fixed hs
    split at hc
    · rename_i x hop hg
      have h2 : evOp E o σ (fun σ' => runIdx E ops l σ' K) = some r := by
        unfold gstep at hs
        rw [hfx0, hg] at hs
        simp only [cond_false, evOpF_eq] at hs
        exact hs
      obtain ⟨v, e1, hp⟩ := oper_still hE hC hrel h2 (by unfold calmB; rw [hop])
      obtain ⟨σ1, g1, g2⟩ := Led.post hstep hdef hfix hp (Fix.put hfx0 rfl)
      have hv : v = a.eval x := by
        simp only [execOp, hop] at e1
        cases e1; rfl
      subst hv
      rw [show (i :: l).length + m = (l.length + m) + 1 by simp; omega]
      refine wpAny_take ho hsel hf hr (fun c a' w' hq => absurd hq (hQ _ _ _)) (.inl ⟨by simp [Region.wanted, hg], fun w' => by simp only [execOp, hop]; rfl⟩) ?_
      exact first_sound hE hC hsel hQ l _ σ1 _ w hB g1 g2 H
    · cases hc
end
end Go.Zv
