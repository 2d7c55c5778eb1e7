/- Zv: the soundness of operations that make memory or aggregates: alloc, box, build, buildSlice, makeSlice. No condition. -/
import Derived.Test.YtdddbifjkkhpbaaGreatDoorZvStore2
import Derived.Laws.Tables
namespace Go.Zv
open Go

section
variable {R : Type} {P : Program} {E : Env} {r : R} {K : List V → Option R} {S S' : Nat → Prop} {who who' : Nat → Option Nat} {w w' : World} {a : Act} {dst : Option Nat} {res : Result Next} {σ σ' : List V}

theorem heap_alloc (w : World) (o : Obj) {b : Nat} (h : b < w.heap.size) : (w.alloc o).heap[b]? = w.heap[b]? := by
  show (w.heap.push o)[b]? = _
  simp [Array.getElem?_push, Nat.ne_of_lt h]
theorem heap_new (w : World) (o : Obj) : (w.alloc o).heap[w.heap.size]? = some o := by
  show (w.heap.push o)[w.heap.size]? = _
  simp
theorem heap_drew (w : World) (b : Nat) : w.drew.heap[b]? = w.heap[b]? := rfl

/-- Worlds that differ in nothing that is there. -/
structure Grows (w w' : World) : Prop where
  size : w.heap.size ≤ w'.heap.size
  keep : ∀ b, b < w.heap.size → w'.heap[b]? = w.heap[b]?
  out : Same w w'
theorem Grows.refl (w : World) : Grows w w := ⟨Nat.le_refl _, fun _ _ => rfl, Same.refl _⟩
theorem Grows.trans {w1 w2 w3 : World} (h : Grows w1 w2) (h' : Grows w2 w3) : Grows w1 w3 :=
  ⟨Nat.le_trans h.1 h'.1, fun b hb => by rw [h'.2 b (Nat.lt_of_lt_of_le hb h.1), h.2 b hb], h.out.trans h'.out⟩
theorem Grows.alloc (w : World) (o : Obj) : Grows w (w.alloc o) := ⟨by simp, fun _ hb => heap_alloc w o hb, ⟨rfl, rfl, rfl⟩⟩
theorem Grows.drew (w : World) : Grows w w.drew := ⟨Nat.le_refl _, fun _ _ => rfl, ⟨rfl, rfl, rfl⟩⟩

theorem Rel.grow {tm : Array Value} (h : Rel E S who w tm σ) (hg : Grows w w') : Rel E S who w' tm σ :=
  h.world (fun b hb => hg.2 b (h.low b hb)) (fun b hb => by
    obtain ⟨x, e⟩ := Option.ne_none_iff_exists'.1 hb
    exact hg.2 b (h.lowO b x e)) hg.1 (fun _ h => h) h.sep (fun b hb => Nat.lt_of_lt_of_le (h.low b hb) hg.1)
theorem Step.grow {S1 : Nat → Prop} {who1 : Nat → Option Nat} (h : Step S who w S1 who1 w) (hg : Grows w w') : Step S who w S1 who1 w' :=
  ⟨hg.1, fun b hb _ => hg.2 b hb, h.sub, h.new, h.own, hg.out⟩
theorem Rep.grow {u : Value} {x : V} {O : List Nat} {tm : Array Value} (h : Rel E S who w tm σ) (hr : Rep S w u x O) (hg : Grows w w') : Rep S w' u x O :=
  hr.mono (fun _ h => h) (fun b hb => hg.2 b (h.low b hb)) fun b hb => hg.2 b (hr.low b hb)
theorem Reps.grow {us : List Value} {xs : List V} {O : List Nat} {tm : Array Value} (h : Rel E S who w tm σ) (hr : Reps S w us xs O) (hg : Grows w w') : Reps S w' us xs O :=
  hr.mono (fun _ h => h) (fun b hb => hg.2 b (h.low b hb)) fun b hb => hg.2 b (hr.low b hb)

/-- A new row. -/
theorem alloc_sem {tm : Array Value} (h : Rel E S who w tm σ) {vs : List Value} {xs : List V} {O : List Nat} (hr : Reps S w vs xs O) (h0 : ∀ v ∈ vs, v.oneCell' = true) (cells : Array Value) (e : TypeId)
    (hc : ∃ l, cells.toList = vs ++ l) :
    Mem S (w.alloc (.cells cells e)) w.heap.size 0 xs O ∧ (∀ k, OpenRow k (w.alloc (.cells cells e)) w.heap.size cells.size) ∧ w.heap.size ∉ O ∧ who w.heap.size = none ∧ ¬ S w.heap.size := by
  obtain ⟨l, hl⟩ := hc
  refine ⟨Mem.fresh (hr.grow h (Grows.alloc w _)) h0 fun j hj => ?_, fun _ => ⟨cells, e, 0, 0, heap_new w _, Nat.le_refl _, .inl rfl⟩, fun hc => absurd (hr.low _ hc) (by omega), ?_, fun hs => absurd (h.low _ hs) (by omega)⟩
  · rw [Nat.zero_add, World.cell?_alloc_new, ← Array.getElem?_toList, hl, List.getElem?_append_left hj, List.getD_eq_getElem?_getD, List.getElem?_eq_getElem hj]; rfl
  · cases e : who w.heap.size with
    | none => rfl
    | some x => have := h.lowO _ x e; omega

/-- What was loose stays so. -/
theorem Loose.step {who0 : Nat → Option Nat} {O : List Nat} (hL : Loose S who0 who O) (hst : Step S who w S' who' w') (hlow : ∀ b ∈ O, b < w.heap.size) : Loose S' who0 who' O := by
  refine ⟨hL.1, fun b hb => ?_⟩
  obtain ⟨h1, h2, h3⟩ := hL.2 b hb
  refine ⟨?_, fun hs => ?_, h3⟩
  · cases e : who' b with
    | none => rfl
    | some x => rcases hst.own b (by simp [e]) with h4 | h4
                · exact absurd h1 h4
                · have := hlow b hb; omega
  · rcases hst.new b hs with h4 | h4 | h4
    · exact h2 h4
    · exact h4 h1
    · have := hlow b hb; omega

theorem strip_repsO : ∀ {us : List Value} {cs : List V} {O : List Nat}, Reps S w us cs O → Reps S w us (stripAll cs) O
  | _, _, _, .nil => .nil
  | _, _, _, .cons (x := c) h1 h2 => by
    have : ∀ {v : Value} {O : List Nat}, Rep S w v c O → Rep S w v c.strip O := fun h1 => by
      cases c <;> first | exact h1 | (cases h1 with | cl h => exact h)
    simpa [stripAll] using Reps.cons (this h1) (strip_repsO h2)
theorem strip_len (cs : List V) : (stripAll cs).length = cs.length := by simp [stripAll]

theorem chunks_flatten {k : Nat} : ∀ {n : Nat} {cs : List V}, cs.length = n * k → (chunks n k cs).flatten = cs ∧ (∀ r ∈ chunks n k cs, r.length = k) ∧ (chunks n k cs).length = n := by
  intro n
  induction n with
  | zero => intro cs h; simp at h; subst h; simp [chunks]
  | succ n ih =>
    intro cs h
    rw [Nat.add_mul, Nat.one_mul] at h
    have e : chunks (n + 1) k cs = cs.take k :: chunks n k (cs.drop k) := by
      simp only [chunks, List.range_succ_eq_map, List.map_cons, List.map_map, Nat.zero_mul, List.drop_zero]
      congr 1
      apply List.map_congr_left
      intro i _
      simp [Function.comp, List.drop_drop, Nat.add_mul, Nat.add_comm]
    obtain ⟨h1, h2, h3⟩ := ih (cs := cs.drop k) (by simp; omega)
    rw [e]
    refine ⟨by simp [h1], fun r hr => ?_, by simp [h3]⟩
    rcases List.mem_cons.1 hr with rfl | hr
    · simp; omega
    · exact h2 r hr

theorem getP_snoc (x : V) (q : Path) (i j : Nat) : getP x (q ++ [(i, j)]) = cellAt (getP x q) i j := by
  induction q generalizing x with
  | nil => rfl
  | cons a q ih => obtain ⟨a1, a2⟩ := a; simpa [getP] using ih _

def PartOut (E : Env) (r : R) (G : List V → List V → Option R) (S : Nat → Prop) (who : Nat → Option Nat) (w : World) (tm : Array Value) (us : List Value) (nest : Bool) : Prop :=
  ∃ cs σ' S' who' O, G cs σ' = some r ∧ Rel E S' who' w tm σ' ∧ Reps S' w us cs O ∧ Loose S' who who' O ∧ (nest = false → O = []) ∧ (∀ v ∈ us, v.oneCell' = true) ∧ Step S who w S' who' w

/-- A part of an aggregate or of a literal. -/
theorem partCells_sem {nest : Bool} {tm : Array Value} {x : V} {u : Value} {G : List V → List V → Option R} (h : Rel E S who w tm σ) (hr : Rep S w u x []) (hl : Link w tm σ u x) (hs : partCells nest σ x G = some r) :
    PartOut E r G S who w tm u.cells.toList nest := by
  have one : ∀ c O σ' S' who', Rep S' w u c O → u.oneCell' = true → G [c] σ' = some r → Rel E S' who' w tm σ' → Loose S' who who' O → (nest = false → O = []) → Step S who w S' who' w →
      PartOut E r G S who w tm u.cells.toList nest := by
    intro c O σ' S' who' h1 h2 h3 h4 h5 h6 h7
    have e : u.cells.toList = [u] := by cases u <;> first | rfl | cases h2
    exact ⟨[c], σ', S', who', O, h3, h4, by rw [e]; simpa using Reps.cons h1 .nil, h5, h6, by rw [e]; simpa using h2, h7⟩
  have plain : ∀ c, Rep S w u c [] → u.oneCell' = true → G [c] σ = some r → PartOut E r G S who w tm u.cells.toList nest := fun c h1 h2 h3 => one c [] σ S who h1 h2 h3 h ⟨by simp, by simp⟩ (fun _ => rfl) (Step.refl _ _ _)
  have shared : ∀ {k : Nat}, share k σ x (fun f rows σ' => G [.sl k f rows] σ') = some r → PartOut E r G S who w tm u.cells.toList nest := fun hs => by
    obtain ⟨f, rows, σ', S', who', h1, h2, h3, h4⟩ := share_sem h hr hl hs
    exact one _ [] σ' S' who' h3 (oneCell_of_rep h3 trivial) h1 h2 ⟨by simp, by simp⟩ (fun _ => rfl) h4
  unfold partCells at hs
  split at hs
  · exact plain _ hr (oneCell_of_rep hr trivial) hs
  · exact plain _ hr (oneCell_of_rep hr trivial) hs
  · exact plain _ hr (oneCell_of_rep hr trivial) hs
  · exact plain _ hr (oneCell_of_rep hr trivial) hs
  · exact plain _ hr (oneCell_of_rep hr trivial) hs
  · rename_i cs
    cases hg : goodCells cs with
    | false => rw [hg] at hs; cases hs
    | true =>
      rw [hg] at hs
      cases hr with
      | agg h0 h1 => exact ⟨cs, σ, S, who, [], hs, h, h1, ⟨by simp, by simp⟩, fun _ => rfl, h0, Step.refl _ _ _⟩
  · rename_i f caps
    cases e : caps.all isIptr with
    | false => rw [e] at hs; cases hs
    | true => rw [e] at hs; exact plain _ hr (oneCell_of_rep hr trivial) hs
  · rename_i r0 p
    split at hs
    · rename_i n k rows hX
      cases nest with
      | false => exact shared hs
      | true =>
        simp only [cond_true] at hs
        have hf : Follow w (tm.getD r0 undef) (gt σ r0) [] u (.own n k rows) := by
          rcases hl with ⟨_, hu⟩ | ⟨q, i, j, c, X, b, o, e, _⟩
          · rw [hu (by rw [hX]; trivial), hX]; exact .nil _ _
          · simp at e
        obtain ⟨OX, who', h1, h2, h3, h4, h5⟩ := take_sem h hf (by simp)
        exact one _ OX _ S who' h1 (oneCell_of_rep h1 trivial) hs h4 ⟨h2, fun b hb => ⟨(h3 b hb).2.1, (h3 b hb).2.2, (h3 b hb).1⟩⟩ (fun e => by cases e) h5
    · rename_i k f rows hX
      have hf : Follow w (tm.getD r0 undef) (gt σ r0) [] u (.sl k f rows) := by
        rcases hl with ⟨_, hu⟩ | ⟨q, i, j, c, X, b, o, e, _⟩
        · rw [hu (by rw [hX]; trivial), hX]; exact .nil _ _
        · simp at e
      obtain ⟨O, hO, _⟩ := hf.rep h
      have := (hO.plain rfl (by simp)) ▸ hO
      exact plain _ this (oneCell_of_rep this trivial) hs
    · split at hs
      · exact shared hs
      · rename_i cells k f rows hq hX
        rcases hl with ⟨e, hu⟩ | ⟨q, i, j, c, X, b, o, e, hf, hb, hj, hu⟩
        · subst e
          simp only [getP] at hX
          have hf : Follow w (tm.getD r0 undef) (gt σ r0) [] u (.sl k f rows) := by
            rw [hu (by rw [hX]; trivial), hX]; exact .nil _ _
          obtain ⟨O, hO, _⟩ := hf.rep h
          have := (hO.plain rfl (by simp)) ▸ hO
          exact plain _ this (oneCell_of_rep this trivial) hs
        · subst e
          have hg : cellAt X i j = getP (gt σ r0) (q ++ [(i, j)]) := by rw [getP_snoc, hf.get]
          rw [hX] at hg
          have hf' := hf.snoc hb hj (hu (by rw [hg]; trivial))
          rw [hg] at hf'
          obtain ⟨O, hO, _⟩ := hf'.rep h
          have := (hO.plain rfl (by simp)) ▸ hO
          exact plain _ this (oneCell_of_rep this trivial) hs
      · cases hs
  · cases hs

theorem Reps.append : ∀ {us : List Value} {xs : List V} {us' : List Value} {xs' : List V} {O1 O2 : List Nat}, Reps S w us xs O1 → Reps S w us' xs' O2 → Reps S w (us ++ us') (xs ++ xs') (O1 ++ O2)
  | _, _, _, _, _, _, .nil, h => by simpa using h
  | _, _, _, _, _, _, .cons h1 h2, h => by simpa using Reps.cons h1 (Reps.append h2 h)
theorem Reps.split : ∀ {us us' : List Value} {xs xs' : List V} {O : List Nat}, us.length = xs.length → Reps S w (us ++ us') (xs ++ xs') O → ∃ O1 O2, O = O1 ++ O2 ∧ Reps S w us xs O1 ∧ Reps S w us' xs' O2
  | [], us', [], xs', O, _, h => ⟨[], O, rfl, .nil, by simpa using h⟩
  | u :: us, us', x :: xs, xs', O, hl, h => by
    cases h with
    | cons h1 h2 =>
      obtain ⟨P1, P2, rfl, h3, h4⟩ := Reps.split (by simpa using hl) h2
      exact ⟨_ ++ P1, P2, by simp, .cons h1 h3, h4⟩
  | [], _, _ :: _, _, _, hl, _ => by simp at hl
  | _ :: _, _, [], _, _, hl, _ => by simp at hl
/-- Some of the values exchanged. -/
theorem Reps.range {us vs : List Value} {xs cs : List V} {O Oc : List Nat} {off : Nat} (h : Reps S w us xs O) (hc : Reps S w vs cs Oc) (hle : off + vs.length ≤ us.length) :
    ∃ O1 O2 O3, O = O1 ++ O2 ++ O3 ∧ Reps S w (us.take off ++ vs ++ us.drop (off + vs.length)) (setRange xs off cs) (O1 ++ Oc ++ O3) := by
  have hl := h.len
  have hlc := hc.len
  have e1 : us = us.take off ++ ((us.drop off).take vs.length ++ us.drop (off + vs.length)) := by rw [← List.drop_drop, List.take_append_drop, List.take_append_drop]
  have e2 : xs = xs.take off ++ ((xs.drop off).take vs.length ++ xs.drop (off + vs.length)) := by rw [← List.drop_drop, List.take_append_drop, List.take_append_drop]
  rw [e1, e2] at h
  obtain ⟨O1, P, rfl, h1, h2⟩ := Reps.split (by simp; omega) h
  obtain ⟨O2, O3, rfl, _, h3⟩ := Reps.split (by simp; omega) h2
  refine ⟨O1, O2, O3, by simp, ?_⟩
  unfold setRange
  rw [← hlc]
  exact (h1.append hc).append h3

theorem foldl_set : ∀ (l : List Value) (cells : Array Value) (off j0 : Nat), off + j0 + l.length ≤ cells.size →
    ((l.zipIdx j0).foldl (fun cs (x : Value × Nat) => cs.setIfInBounds (off + x.2) x.1) cells).toList = cells.toList.take (off + j0) ++ l ++ cells.toList.drop (off + j0 + l.length)
  | [], cells, off, j0, _ => by simp
  | v :: l, cells, off, j0, h => by
    simp only [List.length_cons] at h
    simp only [List.zipIdx_cons, List.foldl_cons]
    rw [foldl_set l _ off (j0 + 1) (by simp; omega)]
    simp only [Array.toList_setIfInBounds, List.length_cons]
    have hlt : off + j0 < cells.toList.length := by simp; omega
    rw [List.take_set, List.drop_set, if_pos (by omega)]
    rw [show off + (j0 + 1) = off + j0 + 1 by omega, show off + j0 + 1 + l.length = off + j0 + (l.length + 1) by omega]
    rw [List.take_add_one, List.getElem?_eq_getElem hlt]
    simp only [Option.toList_some]
    rw [List.set_append_right _ _ (by simp; omega)]
    simp [show (off + j0 - min (off + j0) cells.size) = 0 by omega]

theorem fill_sem (places : Nat → Option (Nat × Nat)) (nest : Bool) {who0 : Nat → Option Nat} {G : List V → List V → Option R} :
    ∀ (parts : List (Nat × Operand)) {S : Nat → Prop} {who : Nat → Option Nat} {σ cells : List V} {acc : Array Value} {Oacc : List Nat}, Rel E S who w a.tmps σ → Reps S w acc.toList cells Oacc → Loose S who0 who Oacc →
      (∀ v ∈ acc.toList, v.oneCell' = true) → (nest = false → Oacc = []) → (∀ b, who b ≠ none → who0 b ≠ none) → fillCells places nest E parts cells σ G = some r →
      ∃ cs σ' S' who' O acc', Instr.fill places acc (parts.map fun x => (x.1, a.eval x.2)) = some acc' ∧ G cs σ' = some r ∧ Rel E S' who' w a.tmps σ' ∧ Reps S' w acc'.toList cs O ∧ Loose S' who0 who' O ∧
        (∀ v ∈ acc'.toList, v.oneCell' = true) ∧ (nest = false → O = []) ∧ Step S who w S' who' w ∧ cs.length = cells.length
  | [], S, who, σ, cells, acc, Oacc, h, hr, hL, h1, hn, _, hs => ⟨cells, σ, S, who, Oacc, acc, rfl, hs, h, hr, hL, h1, hn, Step.refl _ _ _, rfl⟩
  | (i, x) :: rest, S, who, σ, cells, acc, Oacc, h, hr, hL, h1, hn, hw0, hs => by
    simp only [fillCells] at hs
    cases hp : places i with
    | none => rw [hp] at hs; cases hs
    | some os =>
      obtain ⟨off, size⟩ := os
      rw [hp] at hs
      simp only at hs
      obtain ⟨hrx, hlx⟩ := opnd_spec h x
      obtain ⟨cs, σ1, S1, who1, Op, hK, h2, hr2, hL2, hn2, hone2, hst⟩ := partCells_sem h hrx hlx hs
      dsimp only at hK
      split at hK
      · rename_i hlen
        split at hK
        · rename_i hle
          have hus : (a.eval x).cells.toList.length = size := by rw [hr2.len, hlen]
          have hacc := hr.mono hst.sub (fun _ _ => rfl) (fun _ _ => rfl)
          have hal : acc.toList.length = cells.length := hr.len
          obtain ⟨O1, O2, O3, e, hr3⟩ := hacc.range (off := off) hr2 (by omega)
          have hL1 := hL.step hst hr.low
          have hdis : ∀ b, b ∈ Oacc → b ∉ Op := fun b hb hc => (hL2.2 b hc).2.2 (hL.2 b hb).1
          have hback : ∀ b, who1 b ≠ none → who0 b ≠ none := fun b hb => by
            rcases hst.own b hb with h4 | h4
            · exact hw0 b h4
            · obtain ⟨y, ey⟩ := Option.ne_none_iff_exists'.1 hb
              have := h2.lowO b y ey; omega
          have hL3 : Loose S1 who0 who1 (O1 ++ Op ++ O3) := by
            have hN := hL1.1
            subst e
            simp only [List.nodup_append, List.mem_append] at hN
            refine ⟨?_, fun b hb => ?_⟩
            · simp only [List.nodup_append, List.mem_append]
              exact ⟨⟨hN.1.1, hL2.1, fun p hp q hq e => hdis p (by simp [hp]) (e ▸ hq)⟩, hN.2.1, fun p hp q hq e => by
                rcases hp with hp | hp
                · exact hN.2.2 p (.inl hp) q hq e
                · exact hdis q (by simp [hq]) (e ▸ hp)⟩
            · simp only [List.mem_append] at hb
              rcases hb with (hb | hb) | hb
              · exact hL1.2 b (by simp [hb])
              · obtain ⟨g1, g2, g3⟩ := hL2.2 b hb
                exact ⟨g1, g2, hw0 b g3⟩
              · exact hL1.2 b (by simp [hb])
          have hsz : (a.eval x).cells.size = size := by simpa using hus
          have hofl : off + (a.eval x).cells.size ≤ acc.size := by
            have : acc.size = cells.length := by simpa using hal
            omega
          have hfl := foldl_set (a.eval x).cells.toList acc off 0 (by simpa using hofl)
          have efold : ((a.eval x).cells.zipIdx.foldl (fun cs (c, j) => cs.setIfInBounds (off + j) c) acc).toList = acc.toList.take off ++ (a.eval x).cells.toList ++ acc.toList.drop (off + (a.eval x).cells.toList.length) := by
            rw [← Array.foldl_toList, Array.toList_zipIdx]
            simpa using hfl
          obtain ⟨cs', σ', S', who', O, acc', g1, g2, g3, g4, g5, g6, g7, g8, g9⟩ := fill_sem places nest (who0 := who0) rest (acc := (a.eval x).cells.zipIdx.foldl (fun cs (c, j) => cs.setIfInBounds (off + j) c) acc) h2 (by rw [efold]; exact hr3) hL3
            (by
              intro v hv
              rw [efold] at hv
              simp only [List.mem_append] at hv
              rcases hv with (hv | hv) | hv
              · exact h1 v (List.mem_of_mem_take hv)
              · exact hone2 v hv
              · exact h1 v (List.mem_of_mem_drop hv)) (fun hf => by
                have := hn hf
                rw [e] at this
                simp only [List.append_eq_nil_iff] at this
                simp [this.1.1, this.2, hn2 hf]) hback hK
          refine ⟨cs', σ', S', who', O, acc', ?_, g2, g3, g4, g5, g6, g7, hst.trans g8, by rw [g9, setRange_length (by omega)]⟩
          simp only [List.map_cons, Instr.fill, hp]
          rw [if_neg (by simp [hsz]; omega)]
          exact g1
        · cases hK
      · cases hK

end
end Go.Zv
