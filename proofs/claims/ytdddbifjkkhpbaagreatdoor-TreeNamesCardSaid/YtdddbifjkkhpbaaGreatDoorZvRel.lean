/- Zv: how a frame's temporaries stand for the pure state, who owns which block, and the moves that keep it so. No condition. -/
import Derived.Test.YtdddbifjkkhpbaaGreatDoorZvFocus
namespace Go.Zv
open Go

def Link1 (w : World) (tm : Array Value) (σ : List V) (u : Value) : V → Prop
  | .ptr r p => ∃ q i j c X b o, p = q ++ [(i, j)] ∧ Follow w (tm.getD r undef) (gt σ r) q c X ∧ Base c X i b o ∧ u = .pointer (some ⟨b, o + j, none⟩)
  | .ref r p => (p = [] ∧ (isSlice (gt σ r) → u = tm.getD r undef)) ∨
      ∃ q i j c X b o, p = q ++ [(i, j)] ∧ Follow w (tm.getD r undef) (gt σ r) q c X ∧ Base c X i b o ∧ InR X j ∧ (isSlice (cellAt X i j) → w.cell? ⟨b, o + j, none⟩ = some u)
  | .bsl r p n => ∃ q i j c X b o m, p = q ++ [(i, j)] ∧ Follow w (tm.getD r undef) (gt σ r) q c X ∧ Base c X i b o ∧ u = .slice (some ⟨b, o + j, none⟩) n m
  | _ => True
def Link (w : World) (tm : Array Value) (σ : List V) (u : Value) : V → Prop
  | .fn f caps => ∃ cs : Array Value, u = .func (.func f) #[] cs ∧ cs.size = caps.length ∧ ∀ i, Link1 w tm σ (cs.getD i undef) (caps.getD i .undef)
  | x => Link1 w tm σ u x

structure Rel (E : Env) (S : Nat → Prop) (who : Nat → Option Nat) (w : World) (tm : Array Value) (σ : List V) : Prop where
  size : tm.size = σ.length
  rep : ∀ i, ∃ O, Rep S w (tm.getD i undef) (gt σ i) O ∧ O.Nodup ∧ ∀ b ∈ O, who b = some i
  sep : ∀ b, S b → who b = none
  low : ∀ b, S b → b < w.heap.size
  lowO : ∀ b i, who b = some i → b < w.heap.size
  link : ∀ i, Link w tm σ (tm.getD i undef) (gt σ i)
  glob : ∀ g cs, E.glob g = some cs → S g ∧ Mem S w g 0 cs []

/-- What lies outside of memory is as it was. -/
structure Same (w w' : World) : Prop where
  os : w'.os = w.os
  tape : w'.tape = w.tape
  output : w'.output = w.output
theorem Same.refl (w : World) : Same w w := ⟨rfl, rfl, rfl⟩
theorem Same.trans {w w1 w2 : World} (h : Same w w1) (h' : Same w1 w2) : Same w w2 := ⟨h'.os.trans h.os, h'.tape.trans h.tape, h'.output.trans h.output⟩
/-- What a move may do to memory: blocks that nobody here owned stay. -/
structure Step (S : Nat → Prop) (who : Nat → Option Nat) (w : World) (S' : Nat → Prop) (who' : Nat → Option Nat) (w' : World) : Prop where
  size : w.heap.size ≤ w'.heap.size
  keep : ∀ b, b < w.heap.size → who b = none → w'.heap[b]? = w.heap[b]?
  sub : ∀ b, S b → S' b
  new : ∀ b, S' b → S b ∨ who b ≠ none ∨ w.heap.size ≤ b
  own : ∀ b, who' b ≠ none → who b ≠ none ∨ w.heap.size ≤ b
  out : Same w w'

theorem Step.refl (S : Nat → Prop) (who : Nat → Option Nat) (w : World) : Step S who w S who w :=
  ⟨Nat.le_refl _, fun _ _ _ => rfl, fun _ h => h, fun _ h => .inl h, fun _ h => .inl h, Same.refl _⟩
theorem Step.trans {S S1 S2 : Nat → Prop} {who who1 who2 : Nat → Option Nat} {w w1 w2 : World} (h : Step S who w S1 who1 w1) (h' : Step S1 who1 w1 S2 who2 w2) : Step S who w S2 who2 w2 := by
  refine ⟨Nat.le_trans h.size h'.size, fun b hb hn => ?_, fun b hb => h'.sub b (h.sub b hb), fun b hb => ?_, fun b hb => ?_, h.out.trans h'.out⟩
  · have h1 : who1 b = none := by
      cases e : who1 b with
      | none => rfl
      | some x => rcases h.own b (by simp [e]) with h2 | h2
                  · exact absurd hn h2
                  · omega
    rw [h'.keep b (Nat.lt_of_lt_of_le hb h.size) h1, h.keep b hb hn]
  · rcases h'.new b hb with h1 | h1 | h1
    · exact h.new b h1
    · rcases h.own b h1 with h2 | h2
      · exact .inr (.inl h2)
      · exact .inr (.inr h2)
    · exact .inr (.inr (Nat.le_trans h.size h1))
  · rcases h'.own b hb with h1 | h1
    · exact h.own b h1
    · exact .inr (Nat.le_trans h.size h1)

/-! ### Temporaries -/
theorem gt_set {σ : List V} {d i : Nat} {v : V} : gt (σ.set d v) i = if d = i ∧ i < σ.length then v else gt σ i := by
  unfold gt
  simp only [List.getD_eq_getElem?_getD]
  by_cases h : d = i
  · subst h
    by_cases h2 : d < σ.length
    · simp [h2]
    · simp [h2, List.getElem?_eq_none (Nat.le_of_not_lt h2)]
  · simp [h, List.getElem?_set_ne h]
theorem gt_map {σ : List V} {i : Nat} {f : V → V} (hf : f .undef = .undef) : gt (σ.map f) i = f (gt σ i) := by
  unfold gt
  simp only [List.getD_eq_getElem?_getD, List.getElem?_map]
  cases h : σ[i]? <;> simp [hf]
theorem getD_setIfInBounds {tm : Array Value} {d i : Nat} {v : Value} : (tm.setIfInBounds d v).getD i undef = if d = i ∧ i < tm.size then v else tm.getD i undef := by
  simp only [Array.getD_eq_getD_getElem?]
  by_cases h : d = i
  · subst h
    by_cases h2 : d < tm.size
    · simp [h2, Array.getElem?_setIfInBounds_self_of_lt h2]
    · simp [h2]
  · simp [h, Array.getElem?_setIfInBounds_ne h]
theorem gt_len {σ : List V} {i : Nat} (h : σ.length ≤ i) : gt σ i = .undef := by
  unfold gt; simp [List.getD_eq_getElem?_getD, List.getElem?_eq_none h]
theorem gt_dropRoot {σ : List V} {d i : Nat} : gt (dropRoot d σ) i = cond (into d (gt σ i)) .undef (gt σ i) := by
  unfold dropRoot; rw [gt_map (by rfl)]
theorem gt_drop {σ : List V} {r d i : Nat} : gt (drop r d σ) i = cond (stale r d (gt σ i)) .undef (gt σ i) := by
  unfold drop; rw [gt_map (by rfl)]

/-- A value that is no container is a road's end. -/
theorem Follow.stop {w : World} {v u : Value} {x X : V} {p : Path} (h : Follow w v x p u X) (h1 : ∀ n k rows, x ≠ .own n k rows) (h2 : ∀ cells, x ≠ .obox cells) : p = [] ∧ u = v ∧ X = x := by
  cases h with
  | nil => exact ⟨rfl, rfl, rfl⟩
  | own => exact absurd rfl (h1 _ _ _)
  | box => exact absurd rfl (h2 _)

def Cont : V → Bool
  | .own _ _ _ | .obox _ => true
  | _ => false
theorem Follow.stop' {w : World} {v u : Value} {x X : V} {p : Path} (h : Follow w v x p u X) (h1 : Cont x = false) : p = [] ∧ u = v ∧ X = x :=
  h.stop (fun n k rows e => by subst e; cases h1) (fun c e => by subst e; cases h1)
theorem Base.cont {c : Value} {X : V} {i b o : Nat} (h : Base c X i b o) : Cont X = true := by cases h <;> rfl

/-- One root as it was, or a root that held no container forgotten. -/
def SameRoot (tm tm' : Array Value) (σ σ' : List V) (r : Nat) : Prop :=
  tm'.getD r undef = tm.getD r undef ∧ (gt σ' r = gt σ r ∨ ¬ isSlice (gt σ' r) ∧ Cont (gt σ r) = false)
theorem Follow.congr {w : World} {tm tm' : Array Value} {σ σ' : List V} {r : Nat} {q : Path} {c : Value} {X : V} (hr : SameRoot tm tm' σ σ' r)
    (h : Follow w (tm.getD r undef) (gt σ r) q c X) (hX : Cont X = true) : Follow w (tm'.getD r undef) (gt σ' r) q c X := by
  obtain ⟨h1, h2 | ⟨h2, h3⟩⟩ := hr
  · rw [h1, h2]; exact h
  · obtain ⟨rfl, rfl, rfl⟩ := h.stop' h3
    rw [h3] at hX; cases hX
theorem Link1.congr {w : World} {tm tm' : Array Value} {σ σ' : List V} {u : Value} {x : V} (h : Link1 w tm σ u x) (hr : ∀ r, into1 r x = true → SameRoot tm tm' σ σ' r) :
    Link1 w tm' σ' u x := by
  cases x <;> try trivial
  case ptr r p =>
    obtain ⟨q, i, j, c, X, b, o, e, hf, hb, hu⟩ := h
    exact ⟨q, i, j, c, X, b, o, e, hf.congr (hr r (by simp [into1])) hb.cont, hb, hu⟩
  case bsl r p n =>
    obtain ⟨q, i, j, c, X, b, o, m, e, hf, hb, hu⟩ := h
    exact ⟨q, i, j, c, X, b, o, m, e, hf.congr (hr r (by simp [into1])) hb.cont, hb, hu⟩
  case ref r p =>
    have hs := hr r (by simp [into1])
    rcases h with ⟨e, h⟩ | ⟨q, i, j, c, X, b, o, e, hf, hb, hj, hu⟩
    · refine .inl ⟨e, ?_⟩
      obtain ⟨h1, h2 | ⟨h2, h3⟩⟩ := hs
      · rw [h1, h2]; exact h
      · exact fun h => (h2 h).elim
    · exact .inr ⟨q, i, j, c, X, b, o, e, hf.congr hs hb.cont, hb, hj, hu⟩
theorem into_fn {r f : Nat} {caps : List V} : into r (.fn f caps) = caps.any (into1 r) := rfl
theorem getD_any {caps : List V} {i : Nat} {g : V → Bool} (hg : g .undef = false) (h : g (caps.getD i .undef) = true) : caps.any g = true := by
  rw [List.getD_eq_getElem?_getD] at h
  cases e : caps[i]? with
  | none => rw [e] at h; simp [hg] at h
  | some x => rw [e] at h; exact List.any_eq_true.2 ⟨x, List.mem_of_getElem? e, by simpa using h⟩
theorem Link.congr {w : World} {tm tm' : Array Value} {σ σ' : List V} {u : Value} {x : V} (h : Link w tm σ u x) (hr : ∀ r, into r x = true → SameRoot tm tm' σ σ' r) :
    Link w tm' σ' u x := by
  cases x
  case fn f caps =>
    obtain ⟨cs, h1, h2, h3⟩ := h
    exact ⟨cs, h1, h2, fun i => (h3 i).congr fun r hr' => hr r (by rw [into_fn]; exact getD_any (by rfl) hr')⟩
  all_goals (simp only [Link] at h ⊢; exact Link1.congr h hr)
theorem link_undef (w : World) (tm : Array Value) (σ : List V) (u : Value) : Link w tm σ u .undef := trivial

/-- Links where the memory changes outside what the roots own. -/
theorem Link1.world {S : Nat → Prop} {who : Nat → Option Nat} {w w' : World} {tm : Array Value} {σ : List V} {u : Value} {x : V}
    (hrep : ∀ i, ∃ O, Rep S w (tm.getD i undef) (gt σ i) O ∧ O.Nodup ∧ ∀ b ∈ O, who b = some i) (hw : ∀ b, who b ≠ none → w'.heap[b]? = w.heap[b]?) (h : Link1 w tm σ u x) : Link1 w' tm σ u x := by
  cases x <;> try trivial
  case ptr r p =>
    obtain ⟨q, i, j, c, X, b, o, e, hf, hb, hu⟩ := h
    obtain ⟨O, hO, _, ho⟩ := hrep r
    exact ⟨q, i, j, c, X, b, o, e, hf.mono hO fun b hb => hw b (by rw [ho b hb]; simp), hb, hu⟩
  case bsl r p n =>
    obtain ⟨q, i, j, c, X, b, o, m, e, hf, hb, hu⟩ := h
    obtain ⟨O, hO, _, ho⟩ := hrep r
    exact ⟨q, i, j, c, X, b, o, m, e, hf.mono hO fun b hb => hw b (by rw [ho b hb]; simp), hb, hu⟩
  case ref r p =>
    rcases h with h | ⟨q, i, j, c, X, b, o, e, hf, hb, hj, hu⟩
    · exact .inl h
    · obtain ⟨O, hO, _, ho⟩ := hrep r
      have hall : ∀ b ∈ O, w'.heap[b]? = w.heap[b]? := fun b hb => hw b (by rw [ho b hb]; simp)
      refine .inr ⟨q, i, j, c, X, b, o, e, hf.mono hO hall, hb, hj, fun hs => ?_⟩
      obtain ⟨A, OX, B, eO, hX, _⟩ := hO.focus hf
      have hbO : b ∈ O := by
        rw [eO]
        cases hb with
        | own hi => cases hX with
          | own0 => simp at hi
          | own => simp
        | box => cases hX with
          | obox => simp
      rw [cell?_of_heap (hall b hbO)]
      exact hu hs
theorem Link.world {S : Nat → Prop} {who : Nat → Option Nat} {w w' : World} {tm : Array Value} {σ : List V} {u : Value} {x : V}
    (hrep : ∀ i, ∃ O, Rep S w (tm.getD i undef) (gt σ i) O ∧ O.Nodup ∧ ∀ b ∈ O, who b = some i) (hw : ∀ b, who b ≠ none → w'.heap[b]? = w.heap[b]?) (h : Link w tm σ u x) : Link w' tm σ u x := by
  cases x
  case fn f caps =>
    obtain ⟨cs, h1, h2, h3⟩ := h
    exact ⟨cs, h1, h2, fun i => (h3 i).world hrep hw⟩
  all_goals (simp only [Link] at h ⊢; exact Link1.world hrep hw h)

/-- Memory that nobody of the frame owns, and that is not stable, may change; the stable part may grow. -/
theorem Rel.world {E : Env} {S S' : Nat → Prop} {who : Nat → Option Nat} {w w' : World} {tm : Array Value} {σ : List V} (h : Rel E S who w tm σ)
    (hs : ∀ b, S b → w'.heap[b]? = w.heap[b]?) (hw : ∀ b, who b ≠ none → w'.heap[b]? = w.heap[b]?) (hsz : w.heap.size ≤ w'.heap.size)
    (hS : ∀ b, S b → S' b) (hsep : ∀ b, S' b → who b = none) (hlow : ∀ b, S' b → b < w'.heap.size) : Rel E S' who w' tm σ where
  size := h.size
  rep i := by
    obtain ⟨O, hO, hn, ho⟩ := h.rep i
    exact ⟨O, hO.mono hS hs fun b hb => hw b (by rw [ho b hb]; simp), hn, ho⟩
  sep := hsep
  low := hlow
  lowO b i hb := Nat.lt_of_lt_of_le (h.lowO b i hb) hsz
  link i := (h.link i).world h.rep hw
  glob g cs hg := by
    obtain ⟨h1, h2⟩ := h.glob g cs hg
    exact ⟨hS _ h1, h2.mono hS hs (.inl h1) (by simp)⟩

/-- **A temporary gets a value** whose blocks nobody owned. -/
theorem Rel.put {E : Env} {S : Nat → Prop} {who : Nat → Option Nat} {w : World} {tm : Array Value} {σ : List V} (h : Rel E S who w tm σ) {d : Nat} {u : Value} {v : V} {O : List Nat}
    (hr : Rep S w u v O) (hn : O.Nodup) (hO : ∀ b ∈ O, who b = none ∧ ¬ S b) (hl : Link w tm σ u v) :
    ∃ who', Rel E S who' w (tm.setIfInBounds d u) (setT σ d v) ∧ ∀ b, who' b ≠ none → who b ≠ none ∨ b ∈ O := by
  have hlen : (dropRoot d σ).length = σ.length := by simp [dropRoot]
  have hgt : ∀ i, gt (setT σ d v) i = if d = i ∧ i < σ.length then cond (into d v) .undef v else cond (into d (gt σ i)) .undef (gt σ i) := fun i => by
    unfold setT; rw [gt_set, hlen, gt_dropRoot]
  have hroot : ∀ r, r ≠ d → SameRoot tm (tm.setIfInBounds d u) σ (setT σ d v) r := fun r hrd => by
    refine ⟨by rw [getD_setIfInBounds, if_neg (fun e => hrd e.1.symm)], ?_⟩
    rw [hgt, if_neg (fun e => hrd e.1.symm)]
    cases e : into d (gt σ r) with
    | false => exact .inl rfl
    | true => exact .inr ⟨fun h => h.elim, by cases e2 : gt σ r <;> rw [e2] at e <;> first | rfl | cases e⟩
  have hroots : ∀ x, into d x = false → ∀ r, into r x = true → SameRoot tm (tm.setIfInBounds d u) σ (setT σ d v) r := fun x hx r hr => hroot r fun e => by rw [e] at hr; rw [hr] at hx; cases hx
  refine ⟨fun b => if b ∈ O then (if d < σ.length then some d else none) else if who b = some d then none else who b, ?_, ?_⟩
  · refine ⟨by simp [setT, hlen, h.size], fun i => ?_, fun b hb => ?_, h.low, fun b i hb => ?_, fun i => ?_, h.glob⟩
    · rw [getD_setIfInBounds, hgt, h.size]
      by_cases hi : d = i ∧ i < σ.length
      · rw [if_pos hi, if_pos hi]
        obtain ⟨rfl, hi⟩ := hi
        cases into d v with
        | true => exact ⟨[], .undef _, by simp, by simp⟩
        | false => exact ⟨O, hr, hn, fun b hb => by simp [hb, hi]⟩
      · rw [if_neg hi, if_neg hi]
        cases e : into d (gt σ i) with
        | true => exact ⟨[], .undef _, by simp, by simp⟩
        | false =>
          obtain ⟨P, hP, hnP, hoP⟩ := h.rep i
          by_cases hdi : d = i
          · subst hdi
            rw [gt_len (by omega)] at hP ⊢
            exact ⟨[], .undef _, by simp, by simp⟩
          · refine ⟨P, hP, hnP, fun b hb => ?_⟩
            have h1 := hoP b hb
            have h2 : b ∉ O := fun hc => by rw [(hO b hc).1] at h1; cases h1
            simp [h2, h1, Ne.symm hdi]
    · have h1 := h.sep b hb
      have h2 : b ∉ O := fun hc => (hO b hc).2 hb
      simp [h2, h1]
    · by_cases h2 : b ∈ O
      · exact hr.low b h2
      · simp only [h2, if_false] at hb
        split at hb
        · cases hb
        · exact h.lowO b i hb
    · rw [getD_setIfInBounds, hgt, h.size]
      by_cases hi : d = i ∧ i < σ.length
      · rw [if_pos hi, if_pos hi]
        cases e : into d v with
        | true => exact link_undef ..
        | false => exact hl.congr (hroots v e)
      · rw [if_neg hi, if_neg hi]
        cases e : into d (gt σ i) with
        | true => exact link_undef ..
        | false => exact (h.link i).congr (hroots _ e)
  · intro b hb
    by_cases h2 : b ∈ O
    · exact .inr h2
    · simp only [h2, if_false] at hb
      split at hb
      · exact absurd rfl hb
      · exact .inl hb

end Go.Zv
