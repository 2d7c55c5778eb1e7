/- Zv: the soundness of single operations (first part): places, shares, operands. No condition. -/
import Derived.Test.YtdddbifjkkhpbaaGreatDoorZvTy
namespace Go.Zv
open Go

/-- What an operation has to come to: a value (or nothing) for its temporary, and a pure state with which one goes on. -/
def Out {R : Type} (E : Env) (r : R) (K : List V → Option R) (S : Nat → Prop) (who : Nat → Option Nat) (w : World) (a : Act) (dst : Option Nat) (res : Result Next) : Prop :=
  ∃ u w' σ' S' who', (res = .ok (.value u) w' ∨ (res = .ok .skip w' ∧ u = undef)) ∧ K σ' = some r ∧ Rel E S' who' w' (a.put dst u).tmps σ' ∧ Step S who w S' who' w'

section
variable {R : Type} {E : Env} {r : R} {K : List V → Option R} {S S' : Nat → Prop} {who who' : Nat → Option Nat} {w w' : World} {a : Act} {dst : Option Nat} {res : Result Next} {σ σ' : List V}

theorem out_put {u : Value} {v : V} {O : List Nat} (hres : res = .ok (.value u) w' ∨ (res = .ok .skip w' ∧ u = undef)) (h : Rel E S' who' w' a.tmps σ') (hst : Step S who w S' who' w')
    (hr : Rep S' w' u v O) (hn : O.Nodup) (hO : ∀ b ∈ O, (who' b = none ∧ ¬ S' b) ∧ (who b ≠ none ∨ w.heap.size ≤ b)) (hl : Link w' a.tmps σ' u v) (hK : K (put dst v σ') = some r) :
    Out E r K S who w a dst res := by
  cases dst with
  | none => exact ⟨u, w', σ', S', who', hres, hK, h, hst⟩
  | some d =>
    obtain ⟨who2, h2, h3⟩ := h.put (d := d) hr hn (fun b hb => (hO b hb).1) hl
    refine ⟨u, w', _, S', who2, hres, hK, h2, ⟨hst.size, hst.keep, hst.sub, hst.new, fun b hb => ?_, hst.out⟩⟩
    rcases h3 b hb with h4 | h4
    · exact hst.own b h4
    · exact (hO b h4).2
/-- A value that owns nothing; the world stays. -/
theorem out_val {u : Value} {v : V} (hres : res = .ok (.value u) w) (h : Rel E S who w a.tmps σ) (hr : Rep S w u v []) (hl : Link w a.tmps σ u v) (hK : K (put dst v σ) = some r) :
    Out E r K S who w a dst res :=
  out_put (.inl hres) h (Step.refl _ _ _) hr (by simp) (by simp) hl hK

theorem Follow.snoc {v c u : Value} {x X : V} {q : Path} {i j b o : Nat} (h : Follow w v x q c X) (hb : Base c X i b o) (hj : InR X j) (hc : w.cell? ⟨b, o + j, none⟩ = some u) :
    Follow w v x (q ++ [(i, j)]) u (cellAt X i j) := by
  induction h with
  | nil =>
    cases hb with
    | own hi => exact .own hi hj (by rw [← Nat.add_assoc]; exact hc) (.nil _ _)
    | box => exact .box hj (by simpa using hc) (.nil _ _)
  | own hi hj' hc' _ ih => exact .own hi hj' hc' (ih hb hj)
  | box hj' hc' _ ih => exact .box hj' hc' (ih hb hj)

theorem dropLast_snoc (q : Path) (x : Nat × Nat) : (q ++ [x]).dropLast = q := by simp
theorem getLast_snoc (q : Path) (x : Nat × Nat) : (q ++ [x]).getLast? = some x := by simp

/-- A slice in a place that is referred to. -/
theorem place_sem {k : Nat} {σ : List V} {r0 : Nat} {p : Path} {K : Bool → List (List V) → Option R} {I : Bool → List (List V) → Option R} {tm : Array Value} {u : Value}
    (hl : Link w tm σ u (.ref r0 p)) (hp : place k σ r0 p K I = some r) :
    (∃ n rows X, K n rows = some r ∧ Follow w (tm.getD r0 undef) (gt σ r0) p u X ∧ (X = .own n k rows ∨ X = .nilsl ∧ n = false ∧ rows = [])) ∨
    (∃ f rows, I f rows = some r ∧ Follow w (tm.getD r0 undef) (gt σ r0) p u (.sl k f rows)) := by
  have byHead : ∀ X : V, (isSlice X → Follow w (tm.getD r0 undef) (gt σ r0) p u X) →
      (match X with
        | .own n k' rows => if k' = k then K n rows else none
        | .sl k' f rows => if k' = k then I f rows else none
        | _ => none) = some r →
      (∃ n rows X, K n rows = some r ∧ Follow w (tm.getD r0 undef) (gt σ r0) p u X ∧ (X = .own n k rows ∨ X = .nilsl ∧ n = false ∧ rows = [])) ∨
      (∃ f rows, I f rows = some r ∧ Follow w (tm.getD r0 undef) (gt σ r0) p u (.sl k f rows)) := by
    intro X hf hm
    cases X <;> try (cases hm; done)
    case own n k' rows =>
      dsimp only at hm
      split at hm
      · rename_i e; subst e; exact .inl ⟨n, rows, _, hm, hf trivial, .inl rfl⟩
      · cases hm
    case sl k' f rows =>
      dsimp only at hm
      split at hm
      · rename_i e; subst e; exact .inr ⟨f, rows, hm, hf trivial⟩
      · cases hm
  simp only [Link, Link1] at hl
  rcases hl with ⟨rfl, hu⟩ | ⟨q, i, j, c, X, b, o, rfl, hf, hb, hj, hu⟩
  · exact byHead _ (fun hs => by rw [← hu hs]; exact .nil _ _) hp
  · have hX : X = getP (gt σ r0) q := hf.get
    have hcell : ∀ Y, Y = getP (gt σ r0) (q ++ [(i, j)]) → isSlice Y → Follow w (tm.getD r0 undef) (gt σ r0) (q ++ [(i, j)]) u Y := fun Y hY hs => by
      have hg : cellAt X i j = getP (gt σ r0) (q ++ [(i, j)]) := by
        rw [hX]
        generalize gt σ r0 = x
        clear hp hu hf hb hj hX hY hs byHead
        induction q generalizing x with
        | nil => rfl
        | cons a q ih => obtain ⟨a1, a2⟩ := a; simpa [getP] using ih _
      rw [hY, ← hg]
      rw [hY, ← hg] at hs
      exact hf.snoc hb hj (hu hs)
    unfold place at hp
    dsimp only at hp
    split at hp
    · rename_i h; simp at h
    · rw [dropLast_snoc, ← hX] at hp
      split at hp
      · exact byHead _ (hcell _ rfl) hp
      · rename_i k1 rows1
        cases e : asOwn k (getP (gt σ r0) (q ++ [(i, j)])) with
        | none => rw [e] at hp; cases hp
        | some rows =>
          rw [e] at hp
          simp only [Option.bind_some] at hp
          unfold asOwn at e
          split at e
          · rename_i k' rows' he
            split at e
            · rename_i hk; subst hk; cases e
              exact .inl ⟨false, rows, _, hp, hcell _ he.symm trivial, .inl rfl⟩
            · cases e
          · rename_i he
            cases e
            exact .inl ⟨false, [], _, hp, hcell _ he.symm trivial, .inr ⟨rfl, rfl, rfl⟩⟩
          · cases e
      · cases hp

/-- Made immutable. -/
theorem froz_mem {d : Nat} (hS : ∀ b, S b → S' b) (ih : ∀ {v : Value} {x : V} {O : List Nat}, Rep S w v x O → (∀ b ∈ O, S' b) → Rep S' w v (froz d x) []) :
    ∀ {b o : Nat} {xs : List V} {O : List Nat}, Mem S w b o xs O → (∀ b ∈ O, S' b) → Mem S' w b o (xs.map (froz d)) []
  | _, _, _, _, .nil b o, _ => .nil b o
  | _, _, _, _, .cons h1 h0 h2 h3, hO => by
    simpa using Mem.cons h1 h0 (ih h2 fun b hb => hO b (by simp [hb])) (froz_mem hS ih h3 fun b hb => hO b (by simp [hb]))
theorem froz_rep (hS : ∀ b, S b → S' b) : ∀ {d : Nat} {v : Value} {x : V} {O : List Nat}, Rep S w v x O → (∀ b ∈ O, S' b) → Rep S' w v (froz d x) []
  | 0, v, _, _, _, _ => .undef v
  | d + 1, v, x, O, h, hO => by
    have hm : ∀ {v : Value} {x : V}, Rep S w v x [] → Rep S' w v x [] := fun h => h.mono hS (fun _ _ => rfl) (by simp)
    cases x
    case own n k rows =>
      cases h with
      | own0 => exact .sl0 _ _ _ _ (by simp) |> fun (h : Rep S' w _ (.sl k false []) []) => by cases n <;> simpa [froz] using h
      | @own b o c _ _ _ O h1 h2 h3 h4 h5 h6 =>
        by_cases hr : rows = []
        · subst hr
          have := Rep.sl0 (S := S') (w := w) (some ⟨b, o, none⟩) c k false (by simp)
          cases n <;> simpa [froz] using this
        · cases n with
          | false =>
            have := h5 rfl
            subst this
            exact .sl h1 hr h2 (hO b (by simp)) ⟨h4, by simp⟩ (h6.mono hS (fun _ _ => rfl) (.inr rfl) (by simp))
          | true =>
            have hf := froz_mem hS (fun h' hO' => froz_rep (d := d) hS h' hO') h6 (fun b hb => hO b (by simp [hb]))
            have e : (rows.map fun r => r.map (froz d)).flatten = rows.flatten.map (froz d) := by
              rw [List.map_flatten]
            rw [← e] at hf
            have := Rep.sl (S := S') (w := w) (c := c) (f := false) h1 (rows := rows.map fun r => r.map (froz d)) (by simpa using hr)
              (by intro r hr; obtain ⟨r', h', rfl⟩ := List.mem_map.1 hr; simpa using h2 r' h') (hO b (by simp)) ⟨by simpa using h4, by simp⟩ hf
            simpa [froz] using this
    case obox => exact .undef v
    case tup => exact .undef v
    all_goals exact hm ((h.plain rfl (by simp)) ▸ h)

theorem Follow.lt {tm : Array Value} {r0 : Nat} {p : Path} {u : Value} {X : V} (h : Follow w (tm.getD r0 undef) (gt σ r0) p u X) (hX : X ≠ .undef) : r0 < σ.length := by
  rcases Nat.lt_or_ge r0 σ.length with h1 | h1
  · exact h1
  · rw [gt_len h1] at h
    obtain ⟨_, _, rfl⟩ := h.stop' (by rfl)
    exact absurd rfl hX

/-- What lies in a place is taken out. -/
theorem take_sem {tm : Array Value} (h : Rel E S who w tm σ) {r0 : Nat} {p : Path} {u : Value} {X : V} (hf : Follow w (tm.getD r0 undef) (gt σ r0) p u X) (hX : X ≠ .undef) :
    ∃ OX who', Rep S w u X OX ∧ OX.Nodup ∧ (∀ b ∈ OX, who b ≠ none ∧ who' b = none ∧ ¬ S b) ∧ Rel E S who' w tm (setPlace σ r0 p .undef) ∧ Step S who w S who' w := by
  obtain ⟨OX, h1, h2, h3, h4⟩ := h.turn hf
  have hns : ∀ b ∈ OX, ¬ S b := fun b hb hs => by have := h.sep b hs; rw [h3 b hb] at this; cases this
  have := h4 false p.length S w .undef [] (.inl rfl) (fun _ h => h) (fun _ _ => rfl) (fun _ _ _ => rfl) (Nat.le_refl _) (.undef _) (fun _ => rfl) (by simp) (by simp)
    (fun b hb => ⟨.inl (h.sep b hb), by simp, h.low b hb⟩) (fun h => h.elim) trivial (hf.lt hX)
  refine ⟨OX, _, h1, h2, fun b hb => ⟨by rw [h3 b hb]; simp, by simp [hb], hns b hb⟩, this, ⟨Nat.le_refl _, fun _ _ _ => rfl, fun _ h => h, fun _ h => .inl h, fun b hb => .inl ?_, Same.refl _⟩⟩
  intro hn
  apply hb
  simp only [List.not_mem_nil, if_false]
  split
  · rfl
  · exact hn

/-- What lies in a place is made immutable. -/
theorem freeze_sem {tm : Array Value} (h : Rel E S who w tm σ) {r0 : Nat} {p : Path} {u : Value} {n : Bool} {k : Nat} {rows rows' : List (List V)} {X : V} (hf : Follow w (tm.getD r0 undef) (gt σ r0) p u X)
    (hX : X = .own n k rows ∨ X = .nilsl ∧ n = false ∧ rows = []) {k' : Nat} {f' : Bool} (hz : froz 3 (.own n k rows) = .sl k' f' rows') :
    ∃ S' who', Rel E S' who' w tm (setPlace σ r0 p (.sl k false rows')) ∧ Rep S' w u (.sl k false rows') [] ∧ Step S who w S' who' w := by
  obtain ⟨OX, h1, h2, h3, h4⟩ := h.turn hf
  have hlow : ∀ b ∈ OX, b < w.heap.size := h1.low
  have hrep : Rep (fun b => S b ∨ b ∈ OX) w u (.sl k false rows') [] := by
    have h1' : Rep S w u (.own n k rows) OX := by
      rcases hX with rfl | ⟨rfl, rfl, rfl⟩
      · exact h1
      · cases h1; exact .own0 _ _ _
    have := froz_rep (S' := fun b => S b ∨ b ∈ OX) (d := 3) (fun _ h => .inl h) h1' (fun b hb => .inr hb)
    have e : froz 3 (.own n k rows) = .sl k false rows' := by
      simp only [froz] at hz ⊢
      cases hz; rfl
    rwa [e] at this
  have := h4 false p.length (fun b => S b ∨ b ∈ OX) w (.sl k false rows') [] (.inl rfl) (fun _ h => .inl h) (fun _ _ => rfl) (fun _ _ _ => rfl) (Nat.le_refl _) hrep (fun _ => rfl) (by simp) (by simp)
    (fun b hb => ⟨hb.imp (h.sep b) id, by simp, hb.elim (h.low b) (hlow b)⟩) (fun _ => by rcases hX with rfl | ⟨rfl, _⟩ <;> trivial) trivial
    (hf.lt (by rcases hX with rfl | ⟨rfl, _⟩ <;> simp))
  refine ⟨_, _, this, hrep, ⟨Nat.le_refl _, fun _ _ _ => rfl, fun _ h => .inl h, fun b hb => hb.imp id fun hb => .inl (by rw [h3 b hb]; simp), fun b hb => .inl ?_, Same.refl _⟩⟩
  intro hn
  apply hb
  simp only [List.not_mem_nil, if_false]
  split
  · rfl
  · exact hn

/-- A slice made immutable where it lies, whatever it was. -/
theorem share_sem {k : Nat} {v : V} {u : Value} {tm : Array Value} {G : Bool → List (List V) → List V → Option R} (h : Rel E S who w tm σ) (hr : Rep S w u v []) (hl : Link w tm σ u v) (hs : share k σ v G = some r) :
    ∃ f rows σ' S' who', G f rows σ' = some r ∧ Rel E S' who' w tm σ' ∧ Rep S' w u (.sl k f rows) [] ∧ Step S who w S' who' w := by
  unfold share at hs
  split at hs
  · split at hs
    · rename_i e; subst e
      exact ⟨_, _, σ, S, who, hs, h, hr, Step.refl _ _ _⟩
    · cases hs
  · refine ⟨_, _, σ, S, who, hs, h, ?_, Step.refl _ _ _⟩
    cases hr; exact .sl0 _ _ _ _ (by simp)
  · rcases place_sem hl hs with ⟨n, rows, X, hK, hf, hX⟩ | ⟨f, rows, hK, hf⟩
    · split at hK
      · rename_i hz
        obtain ⟨S', who', h1, h2, h3⟩ := freeze_sem h hf hX hz
        exact ⟨_, _, _, S', who', hK, h1, h2, h3⟩
      · cases hK
    · obtain ⟨O, hO, _, _⟩ := h.rep _
      obtain ⟨A, OX, B, e, hX, _⟩ := hO.focusA hf
      exact ⟨f, rows, σ, S, who, hK, h, (hX.plain rfl (by simp)) ▸ hX, Step.refl _ _ _⟩
  · cases hs

/-- The rows of a slice, as they lie in memory. -/
def RowsIn (S : Nat → Prop) (w : World) (u : Value) (k : Nat) (rows : List (List V)) : Prop :=
  ∃ A c, u = .slice A rows.length c ∧ (∀ r ∈ rows, r.length = k) ∧ (rows ≠ [] → 0 < k ∧ ∃ b o, A = some ⟨b, o, none⟩ ∧ Mem S w b o rows.flatten [])
theorem RowsIn.of_sl {u : Value} {k : Nat} {f : Bool} {rows : List (List V)} {O : List Nat} (h : Rep S w u (.sl k f rows) O) : RowsIn S w u k rows := by
  cases h with
  | sl0 a c k f h => exact ⟨a, c, rfl, by simp, fun h => absurd rfl h⟩
  | sl h1 h2 h3 h4 h5 h6 => exact ⟨_, _, rfl, h3, fun _ => ⟨h1, _, _, rfl, h6⟩⟩
theorem RowsIn.of_own {u : Value} {k : Nat} {rows : List (List V)} {O : List Nat} (h : Rep S w u (.own false k rows) O) : RowsIn S w u k rows := by
  cases h with
  | own0 => exact ⟨_, 0, rfl, by simp, fun h => absurd rfl h⟩
  | own h1 h2 h3 h4 h5 h6 =>
    have := h5 rfl
    subst this
    exact ⟨_, _, rfl, h2, fun _ => ⟨h1, _, _, rfl, h6⟩⟩

/-- A slice that is only read. -/
theorem reads_sem {k : Nat} {v : V} {u : Value} {tm : Array Value} {G : List (List V) → Option R} (h : Rel E S who w tm σ) (hr : Rep S w u v []) (hl : Link w tm σ u v) (hs : reads k σ v G = some r) :
    ∃ rows, G rows = some r ∧ RowsIn S w u k rows := by
  unfold reads at hs
  split at hs
  · split at hs
    · rename_i e; subst e
      exact ⟨_, hs, .of_sl hr⟩
    · cases hs
  · cases hr
    exact ⟨[], hs, _, 0, rfl, by simp, fun h => absurd rfl h⟩
  · obtain ⟨O, hO, _, _⟩ := h.rep (by assumption)
    rcases place_sem hl hs with ⟨n, rows, X, hK, hf, hX⟩ | ⟨f, rows, hK, hf⟩
    · obtain ⟨A, OX, B, e, hX', _⟩ := hO.focusA hf
      cases n with
      | true => cases hK
      | false =>
        refine ⟨rows, hK, ?_⟩
        rcases hX with rfl | ⟨rfl, _, rfl⟩
        · exact .of_own hX'
        · cases hX'; exact ⟨_, 0, rfl, by simp, fun h => absurd rfl h⟩
    · obtain ⟨A, OX, B, e, hX', _⟩ := hO.focusA hf
      exact ⟨rows, hK, .of_sl hX'⟩
  · cases hs

end
end Go.Zv
