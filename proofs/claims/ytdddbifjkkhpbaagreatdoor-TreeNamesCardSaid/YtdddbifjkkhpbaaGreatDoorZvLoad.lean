/- Zv: the soundness of loads. No condition. -/
import Derived.Test.YtdddbifjkkhpbaaGreatDoorZvOps2
namespace Go.Zv
open Go

section
variable {R : Type} {P : Program} {E : Env} {r : R} {K : List V → Option R} {S S' : Nat → Prop} {who who' : Nat → Option Nat} {w w' : World} {a : Act} {dst : Option Nat} {res : Result Next} {σ σ' : List V}

theorem coerce_plain {t : TK} {c : V} {G : V → Option R} (h : coerce t c G = some r) : Cont c = false ∧ (∀ a l, c ≠ .tup (a :: l)) := by
  cases c <;> first
    | (refine ⟨rfl, ?_⟩; simp; done)
    | (cases t <;> simp [coerce, asInt, asBool, asStr, asSl] at h)

theorem loadCell_sem {t : TK} {c : V} {r0 : Nat} {p : Path} {G : V → Option R} {u : Value} {O : List Nat} {tm : Array Value} (h : loadCell t c r0 p G = some r) (hr : Rep S w u c O)
    (hl : Link w tm σ u (.ref r0 p)) : ∃ v, G v = some r ∧ Rep S w u v [] ∧ Link w tm σ u v := by
  have hco : ∀ {t : TK} {c : V} {O : List Nat}, Rep S w u c O → coerce t c G = some r → ∃ v, G v = some r ∧ Rep S w u v [] ∧ Link w tm σ u v := fun hr hc => by
    obtain ⟨p1, p2⟩ := coerce_plain hc
    obtain ⟨v, h1, h2, h3⟩ := coerce_sem hc
    have := h3 ((hr.plain p1 p2) ▸ hr)
    exact ⟨v, h1, this, this.link h2⟩
  unfold loadCell at h
  split at h
  · split at h
    · split at h
      · exact ⟨_, h, .ref _ _ _, hl⟩
      · cases h
    · split at h
      · rename_i e; subst e
        exact ⟨_, h, (hr.plain rfl (by simp)) ▸ hr, trivial⟩
      · cases h
    · cases hr; exact ⟨_, h, .own0 _ _ _, trivial⟩
    · cases hr with
      | cl hr => exact hco hr h
    · cases h
  · split at h
    · cases hr with
      | cl hr => exact hco hr h
    · exact hco hr h

theorem setRange_length {cells cs : List V} {o : Nat} (h : o + cs.length ≤ cells.length) : (setRange cells o cs).length = cells.length := by
  simp [setRange]; omega
theorem setRange_getD {cells cs : List V} {o j : Nat} (h : o + cs.length ≤ cells.length) :
    (setRange cells o cs).getD j .undef = if o ≤ j ∧ j < o + cs.length then cs.getD (j - o) .undef else cells.getD j .undef := by
  simp only [setRange, List.getD_eq_getElem?_getD]
  have hl : (cells.take o).length = o := by simp; omega
  by_cases h1 : j < o
  · rw [List.append_assoc, List.getElem?_append_left (by omega), List.getElem?_take_of_lt h1, if_neg (by omega)]
  · by_cases h2 : j < o + cs.length
    · rw [List.append_assoc, List.getElem?_append_right (by omega), hl, List.getElem?_append_left (by omega), if_pos (by omega)]
    · rw [List.getElem?_append_right (by simp; omega), List.getElem?_drop, if_neg (by omega)]
      simp only [List.length_append, hl]
      congr 2; omega

def shareCell (c : V) : V := match c with
  | .own n k rows => froz 3 (.own n k rows)
  | c => c
theorem shareCells_eq : ∀ cs : List V, shareCells cs = cs.map shareCell
  | [] => rfl
  | c :: cs => by
    simp only [shareCells, shareCells_eq cs, List.map_cons]
    cases c <;> rfl
theorem shareCell_slice {c : V} (h : isSlice (shareCell c)) : isSlice c := by
  cases c <;> first | exact h | trivial
theorem shareCell_rep (hS : ∀ b, S b → S' b) {u : Value} {c : V} {O : List Nat} (h : Rep S w u c O) (hO : ∀ b ∈ O, S' b) (hg : goodCells [shareCell c] = true) : Rep S' w u (shareCell c) [] := by
  by_cases hc : ∃ n k rows, c = .own n k rows
  · obtain ⟨n, k, rows, rfl⟩ := hc
    exact froz_rep (d := 3) hS h hO
  · have e : shareCell c = c := by cases c <;> first | rfl | exact absurd ⟨_, _, _, rfl⟩ hc
    rw [e] at hg ⊢
    obtain ⟨h1, h2⟩ := goodCell_plain hg
    have := h.plain h1 h2
    subst this
    exact h.mono hS (fun _ _ => rfl) (by simp)
theorem share_reps (hS : ∀ b, S b → S' b) : ∀ {us : List Value} {cs : List V} {O : List Nat}, Reps S w us cs O → (∀ b ∈ O, S' b) → goodCells (cs.map shareCell) = true → Reps S' w us (cs.map shareCell) []
  | _, _, _, .nil, _, _ => .nil
  | _, _, _, .cons h1 h2, hO, hg => by
    simp only [List.map_cons, goodCells, List.all_cons, Bool.and_eq_true] at hg
    simpa using Reps.cons (shareCell_rep hS h1 (fun b hb => hO b (by simp [hb])) (by simp [goodCells, hg.1])) (share_reps hS h2 (fun b hb => hO b (by simp [hb])) (by simpa [goodCells] using hg.2))
theorem share_mem (hS : ∀ b, S b → S' b) : ∀ {b o : Nat} {cs : List V} {O : List Nat}, Mem S w b o cs O → (∀ b ∈ O, S' b) → goodCells (cs.map shareCell) = true → Mem S' w b o (cs.map shareCell) []
  | _, _, _, _, .nil _ _, _, _ => .nil _ _
  | _, _, _, _, .cons h0 h9 h1 h2, hO, hg => by
    simp only [List.map_cons, goodCells, List.all_cons, Bool.and_eq_true] at hg
    simpa using Mem.cons h0 h9 (shareCell_rep hS h1 (fun b hb => hO b (by simp [hb])) (by simp [goodCells, hg.1])) (share_mem hS h2 (fun b hb => hO b (by simp [hb])) (by simpa [goodCells] using hg.2))
theorem noOwn_mem : ∀ {b o : Nat} {cs : List V} {O : List Nat}, Mem S w b o cs O → hasOwn cs = false → goodCells (cs.map shareCell) = true → O = [] ∧ cs.map shareCell = cs
  | _, _, _, _, .nil _ _, _, _ => ⟨rfl, rfl⟩
  | _, _, c :: cs, _, .cons h0 _ h1 h2, hn, hg => by
    simp only [List.map_cons, goodCells, List.all_cons, Bool.and_eq_true] at hg
    simp only [hasOwn, List.any_cons, Bool.or_eq_false_iff] at hn
    obtain ⟨e1, e2⟩ := noOwn_mem h2 (by simpa [hasOwn] using hn.2) (by simpa [goodCells] using hg.2)
    have e : shareCell c = c := by cases c <;> first | rfl | (simp at hn)
    have hg1 : goodCells [shareCell c] = true := by simp [goodCells, hg.1]
    rw [e] at hg1
    obtain ⟨g1, g2⟩ := goodCell_plain hg1
    have := h1.plain g1 g2
    subst this
    exact ⟨by simp [e1], by rw [List.map_cons, e, e2]⟩

/-- **Loads.** -/
theorem load_sem {t : Nat} {ty : Option TI} {tm : Array Value} {x : V} {u : Value} {G : V → List V → Option R} (hT : ∀ i, ty = some i → TyOK P t i) (h : Rel E S who w tm σ) (hr : Rep S w u x [])
    (hl : Link w tm σ u x) (hs : load ty σ x G = some r) :
    ∃ v σ' S' who' u', (Instr.loadAt t u).run P w = .ok u' w ∧ G v σ' = some r ∧ Rel E S' who' w tm σ' ∧ Rep S' w u' v [] ∧ Link w tm σ' u' v ∧ Step S who w S' who' w := by
  unfold load at hs
  split at hs
  · cases hs
  rename_i i
  have hT := hT i rfl
  split at hs
  · -- a pointer into what is immutable
    rename_i cells off
    cases hr with
    | @iptr b o _ ad _ hSb ha hm =>
      subst ha
      cases hag : i.kind.isAgg with
      | true =>
        rw [hag] at hs
        simp only [cond_true] at hs
        split at hs
        · rename_i hle
          obtain ⟨O1, O2, O3, e, _, m2, _⟩ := hm.sub off i.size hle
          have : O2 = [] := by simp at e; simp [e]
          subst this
          obtain ⟨cs, hrun, hreps, hone⟩ := run_loadVar_agg (P := P) hT hag (xs := (cells.drop off).take i.size) (by simp; omega) m2
          refine ⟨_, σ, S, who, .agg cs, by simpa [Instr.loadAt, Instr.sureAddr] using hrun, hs, h, ?_, trivial, Step.refl _ _ _⟩
          rw [cut_eq hle]
          exact .agg hone (hreps.cl rfl)
        · cases hs
      | false =>
        rw [hag] at hs
        simp only [cond_false] at hs
        split at hs
        · rename_i hlt
          obtain ⟨O1, O2, O3, v, e, hc, hrv, _, _, _⟩ := hm.at hlt
          have : O2 = [] := by simp at e; simp [e]
          subst this
          obtain ⟨v', g1, g2, g3⟩ := coerce_sem hs
          exact ⟨v', σ, S, who, v, by simpa [Instr.loadAt, Instr.sureAddr] using run_loadVar_one (P := P) hT hag hc, g1, h, g3 hrv, (g3 hrv).link g2, Step.refl _ _ _⟩
        · cases hs
  · -- a pointer into a container
    rename_i r0 p
    obtain ⟨q, ii, j, c, X, b, o, hp, hlast, hdrop, hX, hf, hb, hu⟩ := ptr_sem hl
    subst hu
    obtain ⟨OX, hrX, hoX⟩ := hf.rep h
    rw [hlast, hX] at hs
    rcases hb.row hrX with ⟨n, k, rows, rfl, hi, hun, O1, O2, O3, eO, hO2, hm, hopen⟩ | ⟨cells, O', rfl, rfl, rfl, rfl, hm, hopen⟩
    · -- a row of an owned slice
      dsimp only at hs
      have hk : (rows.getD ii []).length = k := hun _ (getD_mem hi)
      cases hag : i.kind.isAgg with
      | true =>
        rw [hag] at hs
        cases n with
        | true => cases hs
        | false =>
          simp only [cond_true, cond_false] at hs
          split at hs
          · rename_i hle
            have hO2 := hO2 rfl
            subst hO2
            obtain ⟨P1, P2, P3, e, _, m2, _⟩ := hm.sub j i.size (by omega)
            have : P2 = [] := by simp at e; simp [e]
            subst this
            obtain ⟨cs, hrun, hreps, hone⟩ := run_loadVar_agg (P := P) hT hag (xs := ((rows.getD ii []).drop j).take i.size) (by simp; simp at hk; omega) m2
            refine ⟨_, σ, S, who, .agg cs, by simpa [Instr.loadAt, Instr.sureAddr] using hrun, hs, h, ?_, trivial, Step.refl _ _ _⟩
            rw [cut_eq (by omega)]
            exact .agg hone (hreps.cl rfl)
          · cases hs
      | false =>
        rw [hag] at hs
        simp only [cond_false] at hs
        have one : j < k → ∃ O v, w.cell? ⟨b, o + j, none⟩ = some v ∧ Rep S w v ((rows.getD ii []).getD j .undef) O ∧ (n = false → O = []) := fun hlt => by
          obtain ⟨P1, P2, P3, v, e, hc, hrv, _, _, _⟩ := hm.at (j := j) (by omega)
          exact ⟨P2, v, hc, hrv, fun hn => by rw [hO2 hn] at e; simp at e; simp [e]⟩
        split at hs
        · split at hs
          · rename_i hlt
            obtain ⟨O, v, hc, hrv, _⟩ := one hlt
            refine ⟨_, σ, S, who, v, by simpa [Instr.loadAt, Instr.sureAddr] using run_loadVar_one (P := P) hT hag hc, hs, h, .ref _ _ _, ?_, Step.refl _ _ _⟩
            exact .inr ⟨q, ii, j, c, _, b, o, hp, hf, hb, hlt, fun _ => hc⟩
          · cases hs
        · split at hs
          · rename_i hlt
            obtain ⟨O, v, hc, hrv, hO⟩ := one hlt
            obtain ⟨p1, p2⟩ := coerce_plain hs
            obtain ⟨v', g1, g2, g3⟩ := coerce_sem hs
            have := g3 ((hrv.plain p1 p2) ▸ hrv)
            exact ⟨v', σ, S, who, v, by simpa [Instr.loadAt, Instr.sureAddr] using run_loadVar_one (P := P) hT hag hc, g1, h, this, this.link g2, Step.refl _ _ _⟩
          · cases hs
    · -- a box
      dsimp only at hs
      simp only [Nat.zero_add] at *
      cases hag : i.kind.isAgg with
      | true =>
        rw [hag] at hs
        simp only [cond_true] at hs
        split at hs
        · rename_i hle
          have hlen : ((cells.drop j).take i.size).length = i.size := by simp; omega
          cases hg : goodCells (shareCells ((cells.drop j).take i.size)) with
          | false => rw [hg] at hs; cases hs
          | true =>
            rw [hg] at hs
            simp only [cond_true] at hs
            rw [shareCells_eq] at hg hs
            obtain ⟨O1, O2, O3, e, m1, m2, m3⟩ := hm.sub j i.size hle
            simp only [Nat.zero_add] at m2 m3
            obtain ⟨cs, hrun, hreps, hone⟩ := run_loadVar_agg (P := P) hT hag hlen m2
            cases hown : hasOwn ((cells.drop j).take i.size) with
            | false =>
              rw [hown] at hs
              obtain ⟨rfl, e2⟩ := noOwn_mem m2 hown hg
              rw [e2] at hs
              exact ⟨_, σ, S, who, .agg cs, by simpa [Instr.loadAt, Instr.sureAddr] using hrun, hs, h, .agg hone hreps, trivial, Step.refl _ _ _⟩
            | true =>
              rw [hown] at hs
              simp only [cond_true] at hs
              obtain ⟨OY, hrY, hnY, hwY, hturn⟩ := h.turn hf
              obtain ⟨O'', eOY, hmY, hopY⟩ : ∃ O'', OY = b :: O'' ∧ Mem S w b 0 cells O'' ∧ OpenRow 1 w b cells.length := by
                rcases hb.row hrY with ⟨n, k, rows, hx, _⟩ | ⟨cells', O'', hx, _, _, e', hm', ho'⟩
                · cases hx
                · cases hx; exact ⟨O'', e', hm', ho'⟩
              subst eOY
              obtain ⟨O1, O2, O3, e, m1, m2, m3⟩ := hmY.sub j i.size hle
              simp only [Nat.zero_add] at m2 m3
              subst e
              simp only [List.nodup_cons, List.nodup_append, List.mem_append, not_or] at hnY
              have hS : ∀ b, S b → S b ∨ b ∈ O2 := fun _ h => .inl h
              have hcs := share_mem (S' := fun b => S b ∨ b ∈ O2) hS m2 (fun b hb => .inr hb) hg
              obtain ⟨_, _, hreps', _⟩ := run_loadVar_agg (P := P) hT hag hlen m2
              have hlen' : (((cells.drop j).take i.size).map shareCell).length = i.size := by simpa using hlen
              have hnew : Mem (fun b => S b ∨ b ∈ O2) w b 0 (setRange cells j (((cells.drop j).take i.size).map shareCell)) (O1 ++ [] ++ O3) := by
                unfold setRange
                have hl1 : (cells.take j).length = j := by simp; omega
                refine ((m1.mono hS (fun _ _ => rfl) (.inr rfl) (fun _ _ => rfl)).append ?_).append ?_
                · rw [hl1, Nat.zero_add]; exact hcs
                · simp only [List.length_append, hl1, hlen', Nat.zero_add]
                  exact m3.mono hS (fun _ _ => rfl) (.inr rfl) (fun _ _ => rfl)
              have hsl : (setRange cells j (((cells.drop j).take i.size).map shareCell)).length = cells.length := setRange_length (by omega)
              have hrep : Rep (fun b => S b ∨ b ∈ O2) w c (.obox (setRange cells j (((cells.drop j).take i.size).map shareCell))) (b :: (O1 ++ [] ++ O3)) := by
                cases hb with
                | box => exact .obox (by rw [hsl]; exact hopY) hnew
              have hall := hturn false (q.length + 1) (fun b => S b ∨ b ∈ O2) w _ (b :: (O1 ++ [] ++ O3))
                (.inr ⟨rfl, fun i' b' o' hb' => by cases hb'; exact .box, fun _ => ⟨fun j' hj' => by simp only [InR] at hj' ⊢; rw [hsl]; exact hj', fun i' j' b' o' hb' hj' hsl' => ⟨?_, rfl⟩⟩⟩)
                hS (fun _ _ => rfl) (fun _ _ _ => rfl) (Nat.le_refl _) hrep (by simp) ?_ (fun b' hb' => .inl ?_) (fun b' hb' => ⟨?_, ?_, ?_⟩) (fun h => h) trivial (hf.lt (by simp))
              · refine ⟨_, _, _, fun b1 => if b1 ∈ b :: (O1 ++ [] ++ O3) then some r0 else if b1 ∈ b :: (O1 ++ O2 ++ O3) then none else who b1, .agg cs, by simpa [Instr.loadAt, Instr.sureAddr] using hrun, hs, ?_, ?_, trivial, ⟨Nat.le_refl _, fun _ _ _ => rfl, hS, fun b' hb' => ?_, fun b' hb' => .inl ?_, Same.refl _⟩⟩
                · rw [hp]
                  simp only [List.length_append, List.length_singleton, dropLast_snoc]
                  exact hall
                · obtain ⟨cs2, hrun2, hreps2, hone2⟩ := run_loadVar_agg (P := P) hT hag hlen m2
                  have : cs2 = cs := by
                    rw [hrun] at hrun2; cases hrun2; rfl
                  subst this
                  exact .agg hone2 (share_reps hS hreps2 (fun b hb => .inr hb) hg)
                · rcases hb' with h1 | h1
                  · exact .inl h1
                  · exact .inr (.inl (by rw [hwY b' (by simp [h1])]; simp))
                · intro hn
                  apply hb'
                  split
                  · rename_i hm'
                    rw [hwY b' (by simp at hm'; rcases hm' with h | h | h <;> simp [h])] at hn; cases hn
                  · split
                    · rfl
                    · exact hn
              · simp only [cellAt] at hsl' ⊢
                rw [setRange_getD (by omega)] at hsl'
                split at hsl'
                · rename_i hr'
                  rw [hlen'] at hr'
                  have : (((cells.drop j).take i.size).map shareCell).getD (j' - j) .undef = shareCell (cells.getD j' .undef) := by
                    simp only [List.getD_eq_getElem?_getD, List.getElem?_map, List.getElem?_take_of_lt (show j' - j < i.size by omega), List.getElem?_drop]
                    rw [show j + (j' - j) = j' by omega]
                    rw [List.getElem?_eq_getElem (show j' < cells.length by omega)]; simp
                  rw [this] at hsl'
                  exact shareCell_slice hsl'
                · exact hsl'
              · simp only [List.append_nil, List.nodup_cons, List.nodup_append, List.mem_append, not_or]
                exact ⟨⟨hnY.1.1.1, hnY.1.2⟩, hnY.2.1.1, hnY.2.2.1, fun x hx y hy => hnY.2.2.2 x (.inl hx) y hy⟩
              · simp at hb'
                rcases hb' with h | h | h <;> simp [h]
              · rcases hb' with h1 | h1
                · exact .inl (h.sep _ h1)
                · exact .inr (by simp [h1])
              · rcases hb' with h1 | h1
                · intro hc
                  have := h.sep _ h1
                  rw [hwY b' (by simp at hc; rcases hc with h | h | h <;> simp [h])] at this
                  cases this
                · simp only [List.append_nil, List.mem_cons, List.mem_append, not_or]
                  exact ⟨fun e => hnY.1.1.2 (e ▸ h1), fun hc => hnY.2.1.2.2 _ hc _ h1 rfl, fun hc => hnY.2.2.2 _ (.inr h1) _ hc rfl⟩
              · rcases hb' with h1 | h1
                · exact h.low _ h1
                · exact m2.low _ h1
        · cases hs
      | false =>
        rw [hag] at hs
        simp only [cond_false] at hs
        by_cases hlt : j < cells.length
        · obtain ⟨P1, P2, P3, v, e, hc, hrv, _, _, _⟩ := hm.at hlt
          simp only [Nat.zero_add] at hc
          obtain ⟨v', g1, g2, g3⟩ := loadCell_sem (tm := tm) (σ := σ) hs hrv (.inr ⟨q, 0, j, c, _, b, 0, hp, hf, hb, hlt, fun _ => by simpa using hc⟩)
          exact ⟨v', σ, S, who, v, by simpa [Instr.loadAt, Instr.sureAddr] using run_loadVar_one (P := P) hT hag hc, g1, h, g2, g3, Step.refl _ _ _⟩
        · rw [List.getD_eq_getElem?_getD, List.getElem?_eq_none (by omega)] at hs
          cases hk : i.kind <;> rw [hk] at hs <;> simp [loadCell, coerce, asInt, asBool, asStr] at hs
  · cases hs

end
end Go.Zv
