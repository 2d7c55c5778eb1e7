/- Zv: exchanging what lies in a place, and storing into a container. No condition. -/
import Derived.Test.YtdddbifjkkhpbaaGreatDoorZvRel
namespace Go.Zv
open Go

def pathOf : V → Option (Nat × Path)
  | .ptr r p | .ref r p | .bsl r p _ => some (r, p)
  | _ => none
def isRef : V → Prop
  | .ref _ _ => True
  | _ => False
def CellKeep (w w' : World) (c : Value) (X X' : V) : Prop :=
  (∀ j, InR X j → InR X' j) ∧ ∀ i j b o, Base c X i b o → InR X j → isSlice (cellAt X' i j) → isSlice (cellAt X i j) ∧ w'.cell? ⟨b, o + j, none⟩ = w.cell? ⟨b, o + j, none⟩

theorem Link1.keep {w w' : World} {tm tm' : Array Value} {σ σ' : List V} {u : Value} {x : V} (h : Link1 w tm σ u x)
    (hc : ∀ r q i j c X, pathOf x = some (r, q ++ [(i, j)]) → Follow w (tm.getD r undef) (gt σ r) q c X → Cont X = true →
      ∃ X', Follow w' (tm'.getD r undef) (gt σ' r) q c X' ∧ (∀ i b o, Base c X i b o → Base c X' i b o) ∧ (isRef x → CellKeep w w' c X X'))
    (h0 : ∀ r, x = .ref r [] → (isSlice (gt σ' r) → isSlice (gt σ r)) ∧ tm'.getD r undef = tm.getD r undef) : Link1 w' tm' σ' u x := by
  cases x <;> try trivial
  case ptr r p =>
    obtain ⟨q, i, j, c, X, b, o, e, hf, hb, hu⟩ := h
    obtain ⟨X', hf', hb', _⟩ := hc r q i j c X (by simp [pathOf, e]) hf hb.cont
    exact ⟨q, i, j, c, X', b, o, e, hf', hb' _ _ _ hb, hu⟩
  case bsl r p n =>
    obtain ⟨q, i, j, c, X, b, o, m, e, hf, hb, hu⟩ := h
    obtain ⟨X', hf', hb', _⟩ := hc r q i j c X (by simp [pathOf, e]) hf hb.cont
    exact ⟨q, i, j, c, X', b, o, m, e, hf', hb' _ _ _ hb, hu⟩
  case ref r p =>
    rcases h with ⟨e, h⟩ | ⟨q, i, j, c, X, b, o, e, hf, hb, hj, hu⟩
    · subst e
      obtain ⟨h1, h2⟩ := h0 r rfl
      exact .inl ⟨rfl, fun hs => by rw [h2]; exact h (h1 hs)⟩
    · obtain ⟨X', hf', hb', hk⟩ := hc r q i j c X (by simp [pathOf, e]) hf hb.cont
      obtain ⟨k1, k2⟩ := hk trivial
      exact .inr ⟨q, i, j, c, X', b, o, e, hf', hb' _ _ _ hb, k1 _ hj, fun hs => by
        obtain ⟨s1, s2⟩ := k2 i j b o hb hj hs
        rw [s2]; exact hu s1⟩

/-- The parts of a link: the value itself, or what a function has caught. -/
def links : V → List V
  | .fn _ caps => caps
  | x => [x]
theorem Link.keep {w w' : World} {tm tm' : Array Value} {σ σ' : List V} {u : Value} {x : V} (h : Link w tm σ u x)
    (hc : ∀ y ∈ links x, ∀ r q i j c X, pathOf y = some (r, q ++ [(i, j)]) → Follow w (tm.getD r undef) (gt σ r) q c X → Cont X = true →
      ∃ X', Follow w' (tm'.getD r undef) (gt σ' r) q c X' ∧ (∀ i b o, Base c X i b o → Base c X' i b o) ∧ (isRef y → CellKeep w w' c X X'))
    (h0 : ∀ y ∈ links x, ∀ r, y = .ref r [] → (isSlice (gt σ' r) → isSlice (gt σ r)) ∧ tm'.getD r undef = tm.getD r undef) : Link w' tm' σ' u x := by
  cases x
  case fn f caps =>
    obtain ⟨cs, h1, h2, h3⟩ := h
    refine ⟨cs, h1, h2, fun i => ?_⟩
    by_cases hi : i < caps.length
    · have hm : caps.getD i .undef ∈ links (.fn f caps) := by
        rw [List.getD_eq_getElem?_getD, List.getElem?_eq_getElem hi]; simp [links]
      exact (h3 i).keep (hc _ hm) (h0 _ hm)
    · rw [List.getD_eq_getElem?_getD, List.getElem?_eq_none (by omega)]; trivial
  all_goals (simp only [Link] at h ⊢; exact Link1.keep h (hc _ (by simp [links])) (h0 _ (by simp [links])))

theorem stale_links {r d : Nat} {x : V} (h : stale r d x = false) : ∀ y ∈ links x, stale1 r d y = false := by
  intro y hy
  cases x
  case fn f caps =>
    simp only [stale, List.any_eq_false] at h
    exact by simpa using h y hy
  all_goals (simp only [links, List.mem_singleton] at hy; subst hy; exact h)
theorem stale1_path {r d : Nat} {y : V} {q : Path} {i j : Nat} (h : stale1 r d y = false) (hp : pathOf y = some (r, q ++ [(i, j)])) : q.length < d := by
  cases y <;> simp only [pathOf, reduceCtorEq, Option.some.injEq, Prod.mk.injEq] at hp
  all_goals
    obtain ⟨rfl, rfl⟩ := hp
    simp only [stale1, Nat.beq_refl, Bool.true_and, List.length_append, List.length_singleton] at h
    exact Nat.lt_of_not_le fun hc => by
      rw [show Nat.blt d (q.length + 1) = true by rw [Nat.blt_eq]; omega] at h; cases h

/-- A value without roads of its own. -/
def free : V → Prop
  | .ptr _ _ | .ref _ _ | .bsl _ _ _ | .fn _ _ => False
  | _ => True
theorem free.link {w : World} {tm : Array Value} {σ : List V} {u : Value} {x : V} (h : free x) : Link w tm σ u x := by
  cases x <;> first | trivial | exact h.elim

theorem setP_free {x X' : V} {p : Path} (h : free X') (hx : p ≠ [] → Cont x = true) : free (setP x p X') := by
  cases p with
  | nil => exact h
  | cons a p =>
    have := hx (by simp)
    cases x <;> first | trivial | cases this

theorem Follow.cont {w : World} {v u : Value} {x X : V} {p : Path} (h : Follow w v x p u X) (hp : p ≠ []) : Cont x = true := by
  cases h <;> first | rfl | exact absurd rfl hp

def gone (sl : Bool) (r d : Nat) (x : V) : Bool := stale r d x || (sl && refAt r d x)
theorem gt_stored {sl : Bool} {r d i : Nat} {σ : List V} : gt (stored sl r d σ) i = cond (gone sl r d (gt σ i)) .undef (gt σ i) := by
  cases sl with
  | false =>
    show gt (drop r d σ) i = _
    rw [gt_drop]; simp [gone]
  | true =>
    show gt (dropRef r d (drop r d σ)) i = _
    unfold dropRef
    rw [gt_map (by rfl), gt_drop]
    unfold gone
    cases h : stale r d (gt σ i) with
    | true => simp [refAt, refAt1]
    | false => simp
theorem stored_length {sl : Bool} {r d : Nat} {σ : List V} : (stored sl r d σ).length = σ.length := by
  cases sl <;> simp [stored, dropRef, drop]
theorem gone_free {sl : Bool} {r d : Nat} {x : V} (h : gone sl r d x = true) : Cont x = false ∧ ¬ isSlice x := by
  cases x <;> simp_all [gone, stale, stale1, refAt, refAt1, Cont, isSlice]

theorem refAt_links {r d : Nat} {x : V} (h : refAt r d x = false) : ∀ y ∈ links x, refAt1 r d y = false := by
  intro y hy
  cases x
  case fn f caps =>
    simp only [refAt, List.any_eq_false] at h
    exact by simpa using h y hy
  all_goals (simp only [links, List.mem_singleton] at hy; subst hy; exact h)
theorem gone_stale {sl : Bool} {r d : Nat} {x : V} (h : gone sl r d x = false) : stale r d x = false := by
  unfold gone at h
  cases h2 : stale r d x with
  | false => rfl
  | true => rw [h2] at h; cases h
theorem gone_refAt {sl : Bool} {r d : Nat} {x : V} (hs : sl = true) (h : gone sl r d x = false) : refAt r d x = false := by
  unfold gone at h
  subst hs
  cases h2 : refAt r d x with
  | false => rfl
  | true => rw [h2] at h; simp at h
/-- **What lies in a place is exchanged** (its memory may have changed; roads that lead through it are dropped: all, or those that lead through its cells). -/
theorem Rel.turn {E : Env} {S : Nat → Prop} {who : Nat → Option Nat} {w : World} {tm : Array Value} {σ : List V} (h : Rel E S who w tm σ) {r : Nat} {p : Path} {u : Value} {X : V}
    (hf : Follow w (tm.getD r undef) (gt σ r) p u X) :
    ∃ OX, Rep S w u X OX ∧ OX.Nodup ∧ (∀ b ∈ OX, who b = some r) ∧
      ∀ (sl : Bool) (D : Nat) (S' : Nat → Prop) (w' : World) (X' : V) (OX' : List Nat),
        (D = p.length ∨ D = p.length + 1 ∧ (∀ i b o, Base u X i b o → Base u X' i b o) ∧ (sl = false → CellKeep w w' u X X')) → (∀ b, S b → S' b) → (∀ b, S b → w'.heap[b]? = w.heap[b]?) → (∀ b, who b ≠ none → b ∉ OX → w'.heap[b]? = w.heap[b]?) →
        w.heap.size ≤ w'.heap.size → Rep S' w' u X' OX' → (OX = [] → OX' = []) → OX'.Nodup → (∀ b ∈ OX', b ∈ OX ∨ who b = none) →
        (∀ b, S' b → (who b = none ∨ b ∈ OX) ∧ b ∉ OX' ∧ b < w'.heap.size) → (isSlice X' → isSlice X) → free X' → r < σ.length →
        Rel E S' (fun b => if b ∈ OX' then some r else if b ∈ OX then none else who b) w' tm ((stored sl r D σ).set r (setP (gt σ r) p X')) := by
  obtain ⟨O, hO, hn, ho⟩ := h.rep r
  obtain ⟨A, OX, B, e, hX, hput⟩ := hO.focus hf
  subst e
  have hn' := hn
  rw [List.nodup_append, List.nodup_append] at hn
  obtain ⟨⟨hnA, hnX, hAX⟩, hnB, hAXB⟩ := hn
  refine ⟨OX, hX, hnX, fun b hb => ho b (by simp [hb]), fun sl D S' w' X' OX' hD hS hs hw hsz hX' hne hnX' hfrom hS' hsl hfree hrl => ?_⟩
  have hAB : ∀ b, b ∈ A ∨ b ∈ B → w'.heap[b]? = w.heap[b]? := fun b hb => hw b (by rw [ho b (by rcases hb with h | h <;> simp [h])]; simp) fun hc => by
    rcases hb with hb | hb
    · exact hAX b hb b hc rfl
    · exact hAXB b (by simp [hc]) b hb rfl
  obtain ⟨hrep, hkeep⟩ := hput S' w' X' OX' hS hs hAB
  have hlen : (stored sl r D σ).length = σ.length := stored_length
  generalize hσ' : (stored sl r D σ).set r (setP (gt σ r) p X') = σ'
  have hgt : ∀ i, gt σ' i = if r = i ∧ i < σ.length then setP (gt σ r) p X' else cond (gone sl r D (gt σ i)) .undef (gt σ i) := fun i => by
    rw [← hσ', gt_set, hlen, gt_stored]
  have hgr : gt σ' r = setP (gt σ r) p X' := by rw [hgt, if_pos ⟨rfl, hrl⟩]
  -- roots
  have hroot : ∀ y, stale1 r D y = false → (sl = true → refAt1 r D y = false) → ∀ r0 q i j c Y, pathOf y = some (r0, q ++ [(i, j)]) → Follow w (tm.getD r0 undef) (gt σ r0) q c Y → Cont Y = true →
      ∃ Y', Follow w' (tm.getD r0 undef) (gt σ' r0) q c Y' ∧ (∀ i b o, Base c Y i b o → Base c Y' i b o) ∧ (isRef y → CellKeep w w' c Y Y') := by
    intro y hy hy2 r0 q i j c Y hp hfY hcY
    by_cases hr0 : r0 = r
    · subst hr0
      have hq := stale1_path hy hp
      obtain ⟨Y', hfY', hL | ⟨hq', hY'⟩⟩ := hkeep hsl q c Y hfY (by rcases hD with h | ⟨h, _⟩ <;> omega)
      · refine ⟨Y', by rw [hgr]; exact hfY', fun i b o hb => hb.like hL.1, fun _ => ⟨fun j hj => hj.like hL.1, fun i j b o hb hj hs => ⟨?_, cell?_of_heap (hL.2 _ _ _ hb)⟩⟩⟩
        rcases hL.1 with rfl | ⟨i0, j0, d, rfl, hd⟩
        · exact hs
        · cases hb with
          | own hi =>
            simp only [setCellV, cellAt] at hs hd ⊢
            by_cases hi0 : i0 = i
            · subst hi0
              simp only [List.getD_eq_getElem?_getD, List.getElem?_set_self hi, Option.getD_some] at hs
              by_cases hj0 : j0 = j
              · subst hj0
                rename_i rows
                by_cases hj1 : j0 < (rows[i0]?.getD []).length
                · rw [List.getElem?_set_self hj1] at hs
                  simpa [List.getD_eq_getElem?_getD] using hd hs
                · rw [List.getElem?_eq_none (by simpa using hj1)] at hs
                  exact hs.elim
              · rw [List.getElem?_set_ne hj0] at hs
                simpa [List.getD_eq_getElem?_getD] using hs
            · simp only [List.getD_eq_getElem?_getD, List.getElem?_set_ne hi0] at hs
              simpa [List.getD_eq_getElem?_getD] using hs
          | box =>
            simp only [setCellV, cellAt] at hs hd ⊢
            rename_i cells
            by_cases hj0 : j0 = j
            · subst hj0
              by_cases hj1 : j0 < cells.length
              · simp only [List.getD_eq_getElem?_getD, List.getElem?_set_self hj1] at hs
                simpa [List.getD_eq_getElem?_getD] using hd hs
              · simp only [List.getD_eq_getElem?_getD] at hs
                rw [List.getElem?_eq_none (by simpa using hj1)] at hs
                exact hs.elim
            · simp only [List.getD_eq_getElem?_getD, List.getElem?_set_ne hj0] at hs
              simpa [List.getD_eq_getElem?_getD] using hs
      · subst hq' hY'
        obtain ⟨rfl, rfl⟩ := hfY.fun hf
        rcases hD with hD | ⟨hD, hb', hck⟩
        · omega
        · refine ⟨Y', by rw [hgr]; exact hfY', hb', fun hry => hck ?_⟩
          cases hsl' : sl with
          | false => rfl
          | true =>
            have := hy2 hsl'
            cases y <;> try exact hry.elim
            simp only [pathOf, Option.some.injEq, Prod.mk.injEq] at hp
            obtain ⟨rfl, rfl⟩ := hp
            simp [refAt1, hD] at this
    · obtain ⟨P, hP, _, hoP⟩ := h.rep r0
      have hall : ∀ b ∈ P, w'.heap[b]? = w.heap[b]? := fun b hb => hw b (by rw [hoP b hb]; simp) fun hc => by
        have := ho b (by simp [hc])
        rw [hoP b hb] at this
        exact hr0 (by simpa using this)
      have hg0 : gt σ' r0 = gt σ r0 ∨ gt σ' r0 = .undef ∧ Cont (gt σ r0) = false := by
        rw [hgt, if_neg fun e => hr0 e.1.symm]
        cases e : gone sl r D (gt σ r0) with
        | false => exact .inl rfl
        | true => exact .inr ⟨rfl, (gone_free e).1⟩
      have hf' := hfY.mono hP hall
      refine ⟨Y, hf'.congr (tm' := tm) ⟨rfl, hg0.imp id fun h => ⟨by rw [h.1]; exact fun h => h.elim, h.2⟩⟩ hcY, fun i b o hb => hb, fun _ => ⟨fun j hj => hj, fun i j b o hb hj hs => ⟨hs, ?_⟩⟩⟩
      obtain ⟨A', OX', B', e', hX0, _⟩ := hP.focusA hfY
      exact cell?_of_heap (hall b (by rw [e']; simp [hb.owned hX0]))
  have hroot0 : ∀ r0, (isSlice (gt σ' r0) → isSlice (gt σ r0)) := by
    intro r0 hs
    rw [hgt] at hs
    split at hs
    · rename_i hr0
      obtain ⟨rfl, _⟩ := hr0
      by_cases hp : p = []
      · subst hp
        have := hf.get
        simp only [getP] at this
        rw [← this]
        exact hsl hs
      · exact isSlice_setP hs hp
    · revert hs
      cases gone sl r D (gt σ r0) with
      | false => exact id
      | true => exact fun h => h.elim
  refine ⟨by rw [← hσ']; simp [hlen, h.size], fun i => ?_, fun b hb => ?_, fun b hb => (hS' b hb).2.2, fun b i hb => ?_, fun i => ?_, fun g cs hg => ?_⟩
  · rw [hgt]
    by_cases hi : r = i ∧ i < σ.length
    · rw [if_pos hi]
      obtain ⟨rfl, hi⟩ := hi
      refine ⟨A ++ OX' ++ B, hrep hX' hne, ?_, fun b hb => ?_⟩
      · have hd : ∀ b, b ∈ A ∨ b ∈ B → b ∉ OX' := fun b hb hc => by
          rcases hfrom b hc with h1 | h1
          · rcases hb with hb | hb
            · exact hAX b hb b h1 rfl
            · exact hAXB b (by simp [h1]) b hb rfl
          · rw [ho b (by rcases hb with h | h <;> simp [h])] at h1; cases h1
        rw [List.nodup_append, List.nodup_append]
        refine ⟨⟨hnA, hnX', fun a ha c hc e => ?_⟩, hnB, fun a ha c hc e => ?_⟩
        · subst e; exact hd a (.inl ha) hc
        · subst e
          rcases List.mem_append.1 ha with ha | ha
          · exact hAXB a (by simp [ha]) a hc rfl
          · exact hd a (.inr hc) ha
      · by_cases h1 : b ∈ OX'
        · simp [h1]
        · have h2 : b ∈ A ∨ b ∈ B := by simp only [List.mem_append] at hb; rcases hb with (h | h) | h; exact .inl h; exact absurd h h1; exact .inr h
          have h3 : b ∉ OX := fun hc => by
            rcases h2 with h2 | h2
            · exact hAX b h2 b hc rfl
            · exact hAXB b (by simp [hc]) b h2 rfl
          simp only [h1, h3, if_false]
          exact ho b (by rcases h2 with h | h <;> simp [h])
    · rw [if_neg hi]
      cases e : gone sl r D (gt σ i) with
      | true => exact ⟨[], .undef _, by simp, by simp⟩
      | false =>
        obtain ⟨P, hP, hnP, hoP⟩ := h.rep i
        by_cases hri : r = i
        · subst hri; exact absurd ⟨rfl, hrl⟩ hi
        · have hnot : ∀ b ∈ P, b ∉ OX := fun b hb hc => by
            have h1 := hoP b hb
            rw [ho b (by simp [hc])] at h1
            exact hri (by simpa using h1)
          refine ⟨P, hP.mono hS hs fun b hb => hw b (by rw [hoP b hb]; simp) (hnot b hb), hnP, fun b hb => ?_⟩
          have h1 : b ∉ OX' := fun hc => by
            rcases hfrom b hc with h1 | h1
            · exact hnot b hb h1
            · rw [hoP b hb] at h1; cases h1
          simp only [h1, hnot b hb, if_false]
          exact hoP b hb
  · obtain ⟨h1, h2, _⟩ := hS' b hb
    simp only [h2, if_false]
    by_cases h3 : b ∈ OX
    · simp [h3]
    · simp only [h3, if_false]; exact h1.resolve_right h3
  · change (if b ∈ OX' then some r else if b ∈ OX then none else who b) = some i at hb
    split at hb
    · exact hX'.low b (by assumption)
    · split at hb
      · cases hb
      · exact Nat.lt_of_lt_of_le (h.lowO b i hb) hsz
  · rw [hgt]
    by_cases hi : r = i ∧ i < σ.length
    · rw [if_pos hi]
      exact (setP_free hfree fun hp => hf.cont hp).link
    · rw [if_neg hi]
      cases e : gone sl r D (gt σ i) with
      | true => exact link_undef ..
      | false => exact (h.link i).keep (fun y hy => hroot y (stale_links (gone_stale e) y hy) fun hsl' => refAt_links (gone_refAt hsl' e) y hy) (fun y _ r0 _ => ⟨hroot0 r0, rfl⟩)
  · obtain ⟨h1, h2⟩ := h.glob g cs hg
    exact ⟨hS _ h1, h2.mono hS hs (.inl h1) (by simp)⟩

/-- What lies in a place is exchanged: every road through it is dropped. -/
theorem setPlace_eq (σ : List V) (r : Nat) (p : Path) (v : V) : setPlace σ r p v = (stored false r p.length σ).set r (setP (gt σ r) p v) := rfl

end Go.Zv
