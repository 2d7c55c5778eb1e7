/- Zv: the soundness of stores. No condition. -/
import Derived.Test.YtdddbifjkkhpbaaGreatDoorZvLoad
namespace Go.Zv
open Go

section
variable {R : Type} {P : Program} {E : Env} {r : R} {K : List V → Option R} {S S' : Nat → Prop} {who who' : Nat → Option Nat} {w w' : World} {a : Act} {dst : Option Nat} {res : Result Next} {σ σ' : List V}

/-- Some cells of a block have new values; all else in memory is as it was. -/
structure Poked (w w' : World) (b o : Nat) (vs : List Value) : Prop where
  size : w'.heap.size = w.heap.size
  other : ∀ b', b' ≠ b → w'.heap[b']? = w.heap[b']?
  inside : ∀ j, j < vs.length → w'.cell? ⟨b, o + j, none⟩ = some (vs.getD j undef)
  beside : ∀ j, (j < o ∨ o + vs.length ≤ j) → w'.cell? ⟨b, j, none⟩ = w.cell? ⟨b, j, none⟩
  row : ∀ k n, OpenRow k w b n → OpenRow k w' b n
  out : Same w w'

theorem poke_one {k b o : Nat} {n : Nat} {v : Value} (hop : OpenRow k w b n) (ho : o < n) (hv : v.oneCell' = true) :
    ∃ w', (Go.store ⟨b, o, none⟩ v).run P w = .ok () w' ∧ Poked w w' b o [v] := by
  obtain ⟨cs, e, lo, hi, hb, hn, hz⟩ := hop
  have hc : w.cell? ⟨b, o, none⟩ = some cs[o] := by simp [World.cell?, hb, show o < cs.size by omega]
  have hf : w.frozen? ⟨b, o, none⟩ = false := by
    simp only [World.frozen?, hb]
    rcases hz with rfl | ⟨_, hz⟩
    · simp only [Bool.and_eq_false_imp, decide_eq_true_eq, decide_eq_false_iff_not]; omega
    · simp only [Bool.and_eq_false_imp, decide_eq_true_eq, decide_eq_false_iff_not]; omega
  have hb' : (w.setCell ⟨b, o, none⟩ v).heap[b]? = some (.cells (cs.setIfInBounds o v) e (lo, hi)) := by
    simp [World.setCell, Array.getElem?_modify, hb]
  refine ⟨w.setCell ⟨b, o, none⟩ v, by rw [run_store P w _ _ _ hv, hc]; simp [hf], by simp, fun b' hne => ?_, fun j hj => ?_, fun j hj => ?_, fun k' m hm => ?_, ⟨rfl, rfl, rfl⟩⟩
  · simp [World.setCell, Array.getElem?_modify, Ne.symm hne]
  · have : j = 0 := by simpa using hj
    subst this
    simpa using World.cell?_setCell_same w ⟨b, o, none⟩ v hc
  · exact World.cell?_setCell_other w ⟨b, o, none⟩ ⟨b, j, none⟩ v (by intro e; cases e; simp only [List.length_singleton] at hj; omega)
  · obtain ⟨cs2, e2, lo2, hi2, h1, h2, h3⟩ := hm
    rw [hb] at h1; cases h1
    exact ⟨_, _, lo, hi, hb', by simpa using h2, by simpa using h3⟩

theorem poke_many {k b : Nat} : ∀ {vs : List Value} {w : World} {o i n : Nat}, OpenRow k w b n → o + i + vs.length ≤ n → (∀ v ∈ vs, v.oneCell' = true) →
    ∃ w', (storeCells ⟨b, o, none⟩ vs i).run P w = .ok () w' ∧ Poked w w' b (o + i) vs
  | [], w, o, i, n, hop, _, _ => ⟨w, by simp [storeCells], rfl, fun _ _ => rfl, fun j hj => by simp at hj, fun _ _ => rfl, fun _ _ h => h, Same.refl _⟩
  | v :: vs, w, o, i, n, hop, hle, hv => by
    simp only [List.length_cons] at hle
    obtain ⟨w1, hr1, p1⟩ := poke_one (P := P) (o := o + i) hop (by omega) (hv v (by simp))
    obtain ⟨w2, hr2, p2⟩ := poke_many (vs := vs) (w := w1) (o := o) (i := i + 1) (p1.row _ _ hop) (by omega) (fun v' h' => hv v' (by simp [h']))
    refine ⟨w2, ?_, by rw [p2.size, p1.size], fun b' hb' => by rw [p2.other b' hb', p1.other b' hb'], fun j hj => ?_, fun j hj => ?_, fun k' m hm => p2.row _ _ (p1.row _ _ hm), p1.out.trans p2.out⟩
    · simp only [storeCells, Sem.run_bind, add_none, hr1, Result.andThen_ok]
      exact hr2
    · cases j with
      | zero =>
        rw [p2.beside _ (.inl (by omega))]
        simpa using p1.inside 0 (by simp)
      | succ j =>
        have := p2.inside j (by simpa using hj)
        rw [show o + i + (j + 1) = o + (i + 1) + j by omega]
        simpa using this
    · simp only [List.length_cons] at hj
      rw [p2.beside j (by omega), p1.beside j (by simp; omega)]

/-- A row whose cells stay. -/
theorem Mem.other (hS : ∀ b, S b → S' b) (hs : ∀ b, S b → w'.heap[b]? = w.heap[b]?) : ∀ {b o : Nat} {xs : List V} {O : List Nat}, Mem S w b o xs O →
    (∀ j, j < xs.length → w'.cell? ⟨b, o + j, none⟩ = w.cell? ⟨b, o + j, none⟩) → (∀ b ∈ O, w'.heap[b]? = w.heap[b]?) → Mem S' w' b o xs O
  | _, _, _, _, .nil _ _, _, _ => .nil _ _
  | b, o, x :: xs, _, .cons h1 h0 h2 h3, hc, ho =>
    .cons (by have := hc 0 (by simp); simp only [Nat.add_zero] at this; rw [this]; exact h1) h0 (h2.mono hS hs fun b hb => ho b (by simp [hb]))
      (Mem.other hS hs h3 (fun j hj => by have := hc (j + 1) (by simpa using hj); rw [Nat.add_assoc, Nat.add_comm 1 j]; exact this) fun b hb => ho b (by simp [hb]))
/-- A row of new cells. -/
theorem Mem.fresh {b : Nat} : ∀ {o : Nat} {vs : List Value} {xs : List V} {O : List Nat}, Reps S w vs xs O → (∀ v ∈ vs, v.oneCell' = true) →
    (∀ j, j < vs.length → w.cell? ⟨b, o + j, none⟩ = some (vs.getD j undef)) → Mem S w b o xs O
  | _, _, _, _, .nil, _, _ => .nil _ _
  | o, v :: vs, x :: xs, _, .cons h1 h2, h0, hc =>
    .cons (by simpa using hc 0 (by simp)) (h0 v (by simp)) h1 (Mem.fresh h2 (fun v' h' => h0 v' (by simp [h'])) fun j hj => by
      have := hc (j + 1) (by simpa using hj)
      rw [Nat.add_assoc, Nat.add_comm 1 j]; simpa using this)

/-- Some cells of a row stored into. -/
theorem Mem.store {b o off : Nat} {xs cs : List V} {vs : List Value} {O Oc : List Nat} (hS : ∀ b, S b → S' b) (h : Mem S w b o xs O) (hp : Poked w w' b (o + off) vs) (hnb : ∀ b', S b' → b' ≠ b) (hnO : b ∉ O)
    (hle : off + vs.length ≤ xs.length) (hr : Reps S' w' vs cs Oc) (h0 : ∀ v ∈ vs, v.oneCell' = true) :
    ∃ O1 O2 O3, O = O1 ++ O2 ++ O3 ∧ Mem S' w' b o (setRange xs off cs) (O1 ++ Oc ++ O3) := by
  have hlen : vs.length = cs.length := hr.len
  obtain ⟨O1, O2, O3, e, m1, m2, m3⟩ := h.sub off vs.length hle
  have hs : ∀ b', S b' → w'.heap[b']? = w.heap[b']? := fun b' hb' => hp.other b' (hnb b' hb')
  have ho : ∀ b' ∈ O, w'.heap[b']? = w.heap[b']? := fun b' hb' => hp.other b' fun e => hnO (e ▸ hb')
  refine ⟨O1, O2, O3, e, ?_⟩
  unfold setRange
  have hl1 : (xs.take off).length = off := by simp; omega
  refine ((m1.other hS hs (fun j hj => hp.beside _ (.inl (by simp at hj; omega))) fun b' hb' => ho b' (by simp [e, hb'])).append ?_).append ?_
  · rw [hl1]
    exact Mem.fresh hr h0 fun j hj => hp.inside j hj
  · simp only [List.length_append, hl1]
    rw [← hlen]
    exact (by rw [← Nat.add_assoc]; exact m3.other hS hs (fun j hj => hp.beside _ (.inr (by omega))) fun b' hb' => ho b' (by simp [e, hb']))

theorem isSliceB_iff {c : V} : isSliceB c = true ↔ isSlice c := by cases c <;> simp [isSliceB, isSlice]

theorem flatten_setRange {k : Nat} : ∀ {rows : List (List V)} {i j : Nat} {cs : List V}, (∀ r ∈ rows, r.length = k) → i < rows.length → j + cs.length ≤ k →
    (rows.set i (setRange (rows.getD i []) j cs)).flatten = setRange rows.flatten (i * k + j) cs
  | [], i, j, cs, _, hi, _ => by simp at hi
  | r :: rows, 0, j, cs, h, _, hj => by
    have hr : r.length = k := h r (by simp)
    simp only [List.set_cons_zero, List.flatten_cons, Nat.zero_mul, Nat.zero_add, List.getD_cons_zero, setRange]
    rw [List.take_append_of_le_length (by omega), List.drop_append_of_le_length (by omega)]
    simp
  | r :: rows, i + 1, j, cs, h, hi, hj => by
    have hr : r.length = k := h r (by simp)
    have e : (i + 1) * k + j = r.length + (i * k + j) := by rw [hr, Nat.add_mul]; omega
    have := flatten_setRange (rows := rows) (i := i) (j := j) (cs := cs) (fun r hr => h r (by simp [hr])) (by simpa using hi) hj
    simp only [List.getD_cons_succ, List.set_cons_succ, List.flatten_cons]
    rw [this, e]
    simp only [setRange]
    rw [show r.length + (i * k + j) + cs.length = r.length + (i * k + j + cs.length) by omega, List.take_length_add_append, List.drop_length_add_append]
    simp

/-- A container with some cells of a row exchanged. -/
def withCells : V → Nat → Nat → List V → V
  | .own n k rows, i, j, cs => .own n k (rows.set i (setRange (rows.getD i []) j cs))
  | .obox cells, _, j, cs => .obox (setRange cells j cs)
  | v, _, _, _ => v
def rowLen : V → Nat
  | .own _ k _ => k
  | .obox cells => cells.length
  | _ => 0

/-- **Cells of a container are stored into.** -/
theorem poke_sem {tm : Array Value} (h : Rel E S who w tm σ) {r0 : Nat} {q : Path} {c : Value} {X : V} {i j b o : Nat} (hf : Follow w (tm.getD r0 undef) (gt σ r0) q c X) (hb : Base c X i b o)
    {vs : List Value} {cs : List V} {Oc : List Nat} (hr : Reps S w vs cs Oc) (hn : Oc.Nodup) (hO : ∀ b ∈ Oc, who b = none ∧ ¬ S b) (h0 : ∀ v ∈ vs, v.oneCell' = true) (hj : j + cs.length ≤ rowLen X)
    (hnest : ∀ n k rows, X = .own n k rows → n = false → Oc = []) {sl : Bool} (hsl : sl = false → ∀ y ∈ cs, ¬ isSlice y) :
    ∃ w' who', (storeCells ⟨b, o + j, none⟩ vs 0).run P w = .ok () w' ∧ Rel E S who' w' tm ((stored sl r0 (q.length + 1) σ).set r0 (setP (gt σ r0) q (withCells X i j cs))) ∧
      (∀ b', who' b' ≠ none → who b' ≠ none ∨ b' ∈ Oc) ∧ w.heap.size ≤ w'.heap.size ∧ (∀ b', who b' = none → w'.heap[b']? = w.heap[b']?) ∧ Same w w' := by
  obtain ⟨OX, hrX, hnX, hwX, hturn⟩ := h.turn hf
  have hlen : vs.length = cs.length := hr.len
  have hbX : b ∈ OX := hb.owned hrX
  have hbS : ¬ S b := fun hs => by have := h.sep b hs; rw [hwX b hbX] at this; cases this
  have hnb : ∀ b', S b' → b' ≠ b := fun b' hs e => hbS (e ▸ hs)
  have hbOc : b ∉ Oc := fun hc => by have := (hO b hc).1; rw [hwX b hbX] at this; cases this
  -- the poke, and what it leaves of the container
  obtain ⟨w', OX', hrun, hp, hrep, hsub, hnd⟩ : ∃ w' OX', (storeCells ⟨b, o + j, none⟩ vs 0).run P w = .ok () w' ∧ Poked w w' b (o + j) vs ∧ Rep S w' c (withCells X i j cs) OX' ∧ (∀ b' ∈ OX', b' ∈ OX ∨ b' ∈ Oc) ∧ OX'.Nodup := by
    have hreps : ∀ {w' : World}, Poked w w' b (o + j) vs → Reps S w' vs cs Oc := fun hp => hr.mono (fun _ h => h) (fun b' hs => hp.other b' (hnb b' hs)) fun b' hb' => hp.other b' fun e => hbOc (e ▸ hb')
    cases hb with
    | @own _ o0 _ _ k _ n rows hi =>
      cases hrX with
      | own0 => simp at hi
      | @own _ _ c0 _ _ _ O h1 h2 h3 h4 h5 h6 =>
        simp only [rowLen] at hj
        have hfl : i * k + j + cs.length ≤ rows.flatten.length := by
          rw [flatten_length h2]
          have := Nat.mul_le_mul_right k (show i + 1 ≤ rows.length by omega)
          rw [Nat.add_mul] at this; omega
        have hcap := Nat.mul_le_mul_right k h4
        rw [flatten_length h2] at hfl
        obtain ⟨w', hrun, hp⟩ := poke_many (P := P) (o := o0 + i * k + j) (i := 0) (vs := vs) h3 (by omega) h0
        simp only [Nat.add_zero] at hp
        simp only [List.nodup_cons] at hnX
        obtain ⟨O1, O2, O3, e, hm⟩ := h6.store (off := i * k + j) (fun _ h => h) (by rw [← Nat.add_assoc]; exact hp) hnb hnX.1 (by rw [flatten_length h2]; omega) (hreps hp) h0
        rw [← flatten_setRange h2 hi hj] at hm
        have hl' : (rows.set i (setRange (rows.getD i []) j cs)).length = rows.length := by simp
        subst e
        refine ⟨w', b :: (O1 ++ Oc ++ O3), hrun, hp, ?_, ?_, ?_⟩
        · have := Rep.own (S := S) (n := n) h1 (set_uniform h2 fun _ => by
              have := h2 _ (getD_mem hi)
              rw [setRange_length (by omega)]; exact this) (hp.row _ _ h3) (by rw [hl']; exact h4) (fun hn' => by
              have := h5 hn'
              simp only [List.append_eq_nil_iff] at this
              obtain ⟨⟨rfl, _⟩, rfl⟩ := this
              simp [hnest n k rows rfl hn']) hm
          rw [hl'] at this
          exact this
        · intro b' hb'
          simp only [List.mem_cons, List.mem_append] at hb' ⊢
          rcases hb' with h | (h | h) | h
          · exact .inl (.inl h)
          · exact .inl (.inr (.inl (.inl h)))
          · exact .inr h
          · exact .inl (.inr (.inr h))
        · have hdis : ∀ b', b' ∈ O1 ∨ b' ∈ O3 → b' ∉ Oc := fun b' hb' hc => by
            have := (hO b' hc).1
            rw [hwX b' (by rcases hb' with h | h <;> simp [h])] at this; cases this
          simp only [List.nodup_append, List.mem_append, not_or] at hnX
          simp only [List.nodup_cons, List.nodup_append, List.mem_append, not_or]
          exact ⟨⟨⟨hnX.1.1.1, hbOc⟩, hnX.1.2⟩, ⟨hnX.2.1.1, hn, fun x hx y hy e => hdis x (.inl hx) (e ▸ hy)⟩, hnX.2.2.1, fun x hx y hy e => by
            rcases hx with hx | hx
            · exact hnX.2.2.2 x (.inl hx) y hy e
            · exact hdis y (.inr hy) (e ▸ hx)⟩
    | @box _ cells =>
      cases hrX with
      | @obox _ _ O h1 h2 =>
        simp only [rowLen] at hj
        obtain ⟨w', hrun, hp⟩ := poke_many (P := P) (o := 0 + j) (i := 0) (vs := vs) h1 (by omega) h0
        simp only [Nat.add_zero] at hp
        simp only [List.nodup_cons] at hnX
        obtain ⟨O1, O2, O3, e, hm⟩ := h2.store (off := j) (fun _ h => h) hp hnb hnX.1 (by omega) (hreps hp) h0
        subst e
        refine ⟨w', b :: (O1 ++ Oc ++ O3), hrun, hp, .obox (by rw [setRange_length hj]; exact hp.row _ _ h1) hm, ?_, ?_⟩
        · intro b' hb'
          simp only [List.mem_cons, List.mem_append] at hb' ⊢
          rcases hb' with h | (h | h) | h
          · exact .inl (.inl h)
          · exact .inl (.inr (.inl (.inl h)))
          · exact .inr h
          · exact .inl (.inr (.inr h))
        · have hdis : ∀ b', b' ∈ O1 ∨ b' ∈ O3 → b' ∉ Oc := fun b' hb' hc => by
            have := (hO b' hc).1
            rw [hwX b' (by rcases hb' with h | h <;> simp [h])] at this; cases this
          simp only [List.nodup_append, List.mem_append, not_or] at hnX
          simp only [List.nodup_cons, List.nodup_append, List.mem_append, not_or]
          exact ⟨⟨⟨hnX.1.1.1, hbOc⟩, hnX.1.2⟩, ⟨hnX.2.1.1, hn, fun x hx y hy e => hdis x (.inl hx) (e ▸ hy)⟩, hnX.2.2.1, fun x hx y hy e => by
            rcases hx with hx | hx
            · exact hnX.2.2.2 x (.inl hx) y hy e
            · exact hdis y (.inr hy) (e ▸ hx)⟩
  have hcs : ∀ j', j ≤ j' → j' < j + cs.length → (cs.getD (j' - j) .undef) ∈ cs := fun j' h1 h2 => by
    rw [List.getD_eq_getElem?_getD, List.getElem?_eq_getElem (show j' - j < cs.length by omega)]; simp
  have hfin := hturn sl (q.length + 1) S w' (withCells X i j cs) OX'
    (.inr ⟨rfl, fun i' b' o' hb' => ?_, fun hsl' => ⟨fun j' hj' => ?_, fun i' j' b' o' hb' hj' his => ?_⟩⟩)
    (fun _ h => h) (fun b' hs => hp.other b' (hnb b' hs)) (fun b' _ hb' => hp.other b' fun e => hb' (e ▸ hbX)) (by rw [hp.size]; exact Nat.le_refl _) hrep (fun e => by rw [e] at hbX; cases hbX) hnd
    (fun b' hb' => (hsub b' hb').imp id fun h => (hO b' h).1) (fun b' hs => ⟨.inl (h.sep b' hs), fun hc => ?_, by rw [hp.size]; exact h.low b' hs⟩) (fun his => ?_) ?_ (hf.lt fun e => by subst e; cases hb)
  · refine ⟨w', _, hrun, hfin, fun b' hb' => ?_, by rw [hp.size]; exact Nat.le_refl _, (fun b' hb' => hp.other b' fun e => by rw [e, hwX b hbX] at hb'; cases hb'), hp.out⟩
    by_cases h1 : b' ∈ OX'
    · exact (hsub b' h1).imp (fun h => by rw [hwX b' h]; simp) id
    · simp only [h1, if_false] at hb'
      split at hb'
      · exact absurd rfl hb'
      · exact .inl hb'
  · cases hb' with
    | own hi => exact .own (by simpa using hi)
    | box => exact .box
  · cases hb with
    | own hi => exact hj'
    | box =>
      simp only [rowLen, withCells, InR] at hj hj' ⊢
      rw [setRange_length hj]; exact hj'
  · cases hb with
    | @own _ o0 _ _ k _ n rows hi =>
      simp only [rowLen, withCells, InR] at hj hj' his ⊢
      cases hb' with
      | own hi' =>
        simp only [cellAt] at his ⊢
        by_cases hii : i = i'
        · subst hii
          rw [show (rows.set i (setRange (rows.getD i []) j cs)).getD i [] = setRange (rows.getD i []) j cs by
            rw [List.getD_eq_getElem?_getD, List.getElem?_set_self (by simpa using hi)]; rfl] at his
          have hrl : (rows.getD i []).length = k := by
            cases hrX with
            | own0 => simp at hi
            | own h1 h2 => exact h2 _ (getD_mem hi)
          rw [setRange_getD (by omega)] at his
          split at his
          · rename_i hr'
            exact absurd his (hsl hsl' _ (hcs j' hr'.1 hr'.2))
          · exact ⟨his, hp.beside _ (by omega)⟩
        · rw [show (rows.set i (setRange (rows.getD i []) j cs)).getD i' [] = rows.getD i' [] by
            rw [List.getD_eq_getElem?_getD, List.getElem?_set_ne hii, ← List.getD_eq_getElem?_getD]] at his
          refine ⟨his, hp.beside _ ?_⟩
          rcases Nat.lt_or_gt_of_ne hii with h1 | h1
          · have := Nat.mul_le_mul_right k (show i + 1 ≤ i' by omega)
            rw [Nat.add_mul] at this; omega
          · have := Nat.mul_le_mul_right k (show i' + 1 ≤ i by omega)
            rw [Nat.add_mul] at this; omega
    | @box _ cells =>
      cases hb' with
      | box =>
        simp only [rowLen, withCells, InR, cellAt] at hj hj' his ⊢
        rw [setRange_getD hj] at his
        split at his
        · rename_i hr'
          exact absurd his (hsl hsl' _ (hcs j' hr'.1 hr'.2))
        · exact ⟨his, hp.beside _ (by omega)⟩
  · rcases hsub b' hc with h1 | h1
    · have := h.sep b' hs; rw [hwX b' h1] at this; cases this
    · exact (hO b' h1).2 hs
  · cases hb <;> exact his
  · cases hb <;> trivial

end
end Go.Zv
