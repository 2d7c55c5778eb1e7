/- Zv: the soundness of stores (the operation). No condition. -/
import Derived.Test.YtdddbifjkkhpbaaGreatDoorZvStore
namespace Go.Zv
open Go

section
variable {R : Type} {P : Program} {E : Env} {r : R} {K : List V → Option R} {S S' : Nat → Prop} {who who' : Nat → Option Nat} {w w' : World} {a : Act} {dst : Option Nat} {res : Result Next} {σ σ' : List V}

/-- Owned blocks that were somebody's, and are nobody's now. -/
def Loose (S : Nat → Prop) (who0 who : Nat → Option Nat) (O : List Nat) : Prop := O.Nodup ∧ ∀ b ∈ O, who b = none ∧ ¬ S b ∧ who0 b ≠ none

theorem oneCell_of_rep {u : Value} {c : V} {O : List Nat} (h : Rep S w u c O) (hc : match c with | .int _ _ | .bool _ | .str _ | .sl _ _ _ | .own _ _ _ | .nilsl | .fn _ _ => True | _ => False) : u.oneCell' = true := by
  cases h <;> first | rfl | exact hc.elim

theorem cellVal_sem {deep : Bool} {t : TK} {tm : Array Value} {x : V} {u : Value} {G : V → List V → Option R} (h : Rel E S who w tm σ) (hr : Rep S w u x []) (hl : Link w tm σ u x) (hs : cellVal deep t σ x G = some r) :
    ∃ c σ' S' who' O, G c σ' = some r ∧ Rel E S' who' w tm σ' ∧ Rep S' w u c O ∧ Loose S' who who' O ∧ (deep = false → O = []) ∧ (O = [] ∨ ∃ n k rows, c = .own n k rows) ∧ u.oneCell' = true ∧ t.isAgg = false ∧ Step S who w S' who' w := by
  have plain : ∀ c, Rep S w u c [] → u.oneCell' = true → t.isAgg = false → G c σ = some r →
      ∃ c σ' S' who' O, G c σ' = some r ∧ Rel E S' who' w tm σ' ∧ Rep S' w u c O ∧ Loose S' who who' O ∧ (deep = false → O = []) ∧ (O = [] ∨ ∃ n k rows, c = .own n k rows) ∧ u.oneCell' = true ∧ t.isAgg = false ∧ Step S who w S' who' w :=
    fun c h1 h2 h3 h4 => ⟨c, σ, S, who, [], h4, h, h1, ⟨by simp, by simp⟩, fun _ => rfl, .inl rfl, h2, h3, Step.refl _ _ _⟩
  unfold cellVal at hs
  split at hs
  · rename_i k bb
    split at hs
    · rename_i r0 p
      cases deep with
      | true =>
        simp only [cond_true] at hs
        rcases place_sem hl hs with ⟨n, rows, X, hK, hf, hX⟩ | ⟨f, rows, hK, hf⟩
        · obtain ⟨OX, who', h1, h2, h3, h4, h5⟩ := take_sem h hf (by rcases hX with rfl | ⟨rfl, _⟩ <;> simp)
          have hrep : Rep S w u (.own n k rows) OX := by
            rcases hX with rfl | ⟨rfl, rfl, rfl⟩
            · exact h1
            · cases h1; exact .own0 _ _ _
          exact ⟨_, _, S, who', OX, hK, h4, hrep, ⟨h2, fun b hb => ⟨(h3 b hb).2.1, (h3 b hb).2.2, (h3 b hb).1⟩⟩, fun e => (by cases e), .inr ⟨_, _, _, rfl⟩, oneCell_of_rep hrep trivial, rfl, h5⟩
        · obtain ⟨O, hX, _⟩ := hf.rep h
          have := (hX.plain rfl (by simp)) ▸ hX
          exact plain _ this (oneCell_of_rep this trivial) rfl hK
      | false =>
        simp only [cond_false] at hs
        obtain ⟨f, rows, σ', S', who', h1, h2, h3, h4⟩ := share_sem h hr hl hs
        exact ⟨_, σ', S', who', [], h1, h2, h3, ⟨by simp, by simp⟩, fun _ => rfl, .inl rfl, oneCell_of_rep h3 trivial, rfl, h4⟩
    · split at hs
      · rename_i e; subst e; exact plain _ hr (oneCell_of_rep hr trivial) rfl hs
      · cases hs
    · cases deep with
      | true => simp only [cond_true] at hs; cases hr; exact plain _ (.own0 _ _ _) rfl rfl hs
      | false => simp only [cond_false] at hs; exact plain _ hr (oneCell_of_rep hr trivial) rfl hs
    · cases hs
  · split at hs
    · exact plain _ hr (oneCell_of_rep hr trivial) rfl hs
    · exact plain _ hr (oneCell_of_rep hr trivial) rfl hs
    · exact plain _ hr (oneCell_of_rep hr trivial) rfl hs
    · rename_i f caps
      cases e : caps.all isIptr with
      | false => rw [e] at hs; cases hs
      | true => rw [e] at hs; exact plain _ hr (oneCell_of_rep hr trivial) rfl hs
    · cases hs
  · split at hs
    · exact plain _ hr (oneCell_of_rep hr trivial) rfl hs
    · exact plain _ hr (oneCell_of_rep hr trivial) rfl hs
    · exact plain _ hr (oneCell_of_rep hr trivial) rfl hs
    · rename_i f caps
      cases e : caps.all isIptr with
      | false => rw [e] at hs; cases hs
      | true => rw [e] at hs; exact plain _ hr (oneCell_of_rep hr trivial) rfl hs
    · cases hs
  · split at hs
    · exact plain _ hr (oneCell_of_rep hr trivial) rfl hs
    · exact plain _ hr (oneCell_of_rep hr trivial) rfl hs
    · exact plain _ hr (oneCell_of_rep hr trivial) rfl hs
    · rename_i f caps
      cases e : caps.all isIptr with
      | false => rw [e] at hs; cases hs
      | true => rw [e] at hs; exact plain _ hr (oneCell_of_rep hr trivial) rfl hs
    · cases hs
  · split at hs
    · exact plain _ hr (oneCell_of_rep hr trivial) rfl hs
    · exact plain _ hr (oneCell_of_rep hr trivial) rfl hs
    · exact plain _ hr (oneCell_of_rep hr trivial) rfl hs
    · rename_i f caps
      cases e : caps.all isIptr with
      | false => rw [e] at hs; cases hs
      | true => rw [e] at hs; exact plain _ hr (oneCell_of_rep hr trivial) rfl hs
    · cases hs
  · cases hs

theorem boxed_reps : ∀ {us : List Value} {sk : List TK} {cs : List V} {O : List Nat}, Reps S w us cs O → Reps S w us (boxed sk cs) O
  | _, [], _, _, h => by simpa [boxed] using h
  | _, _ :: _, _, _, .nil => by simpa [boxed] using Reps.nil
  | _, t :: ts, _, _, .cons (x := c) h1 h2 => by
    simp only [boxed]
    refine .cons ?_ (boxed_reps h2)
    split
    · cases h1; exact .own0 _ _ _
    · exact h1
theorem boxed_len : ∀ {sk : List TK} {cs : List V}, (boxed sk cs).length = cs.length
  | [], cs => by simp [boxed]
  | _ :: _, [] => by simp [boxed]
  | t :: ts, c :: cs => by simp [boxed, boxed_len]
theorem boxed_slice : ∀ {sk : List TK} {cs : List V}, cs.any isSliceB = false → ∀ y ∈ boxed sk cs, ¬ isSlice y
  | [], cs, h, y, hy, hs => by
    simp only [boxed] at hy
    rw [List.any_eq_false] at h
    exact h y hy (isSliceB_iff.2 hs)
  | _ :: _, [], _, y, hy, _ => by simp [boxed] at hy
  | t :: ts, c :: cs, h, y, hy, hs => by
    simp only [List.any_cons, Bool.or_eq_false_iff] at h
    simp only [boxed, List.mem_cons] at hy
    rcases hy with rfl | hy
    · have hc : ¬ isSlice c := fun hc => by rw [isSliceB_iff.2 hc] at h; cases h.1
      split at hs
      · exact hc trivial
      · exact hc hs
    · exact boxed_slice h.2 y hy hs
theorem strip_reps : ∀ {us : List Value} {cs : List V} {O : List Nat}, Reps S w us cs O → O = [] → Reps S w us (stripAll cs) []
  | _, _, _, .nil, _ => .nil
  | _, _, _, .cons (x := c) h1 h2, e => by
    obtain ⟨rfl, rfl⟩ := List.append_eq_nil_iff.1 e
    have : ∀ {v : Value}, Rep S w v c [] → Rep S w v c.strip [] := fun h1 => by
      cases c <;> first | exact h1 | (cases h1 with | cl h => exact h)
    simpa [stripAll] using Reps.cons (this h1) (strip_reps h2 rfl)

/-- **Stores.** -/
theorem store_sem {t : Nat} {ty : Option TI} {addr y : Operand} {G : List V → Option R} (hT : ∀ i, ty = some i → TyOK P t i) (h : Rel E S who w a.tmps σ)
    (hs : store ty σ (fun σ => opnd E σ addr) (opnd E σ y) G = some r) :
    ∃ σ' S' who' w', (Instr.storeAt t (a.eval addr) (a.eval y)).run P w = .ok () w' ∧ G σ' = some r ∧ Rel E S' who' w' a.tmps σ' ∧ Step S who w S' who' w' := by
  obtain ⟨hry, hly⟩ := opnd_spec h y
  unfold store at hs
  split at hs
  · cases hs
  rename_i i
  have hT := hT i rfl
  obtain ⟨ti, z, hi, hsz, hz, _⟩ := hT.info
  cases hag : i.kind.isAgg with
  | true =>
    rw [hag] at hs
    simp only [cond_true] at hs
    obtain ⟨hra, hla⟩ := opnd_spec h addr
    split at hs
    · rename_i cs r0 p hy ha
      rw [hy] at hry
      rw [ha] at hra hla
      cases hg : goodCells cs with
      | false => rw [hg] at hs; cases hs
      | true =>
        rw [hg] at hs
        simp only [cond_true] at hs
        split at hs
        · rename_i hlen
          obtain ⟨q, ii, j, c, X, b, o, hp, hlast, hdrop, hX, hf, hb, hu⟩ := ptr_sem hla
          rw [hlast, hX] at hs
          cases hv : a.eval y with
          | agg us =>
            rw [hv] at hry
            cases hry with
            | agg hone hreps =>
              have hul : us.toList.length = i.size := by rw [hreps.len, hlen]
              have hrunS : ∀ {w' : World}, (storeCells ⟨b, o + j, none⟩ us.toList 0).run P w = .ok () w' → (Instr.storeAt t (a.eval addr) (.agg us)).run P w = .ok () w' := fun hw => by
                have hus : us.size = i.size := by simpa using hul
                rw [hu]
                simp only [Instr.storeAt, Instr.sureAddr, Sem.run_bind, Sem.run_pure, Result.andThen_ok, storeVar, run_sizeOf w hi, hsz, Value.cells, hus]
                simpa using hw
              cases X <;> try (cases hs; done)
              case own n k rows =>
                dsimp only at hs
                split at hs
                · rename_i hle
                  obtain ⟨w', who', h1, h2, h3, h4, h5, h6⟩ := poke_sem (P := P) h hf hb (strip_reps hreps rfl) (by simp) (by simp) hone (j := j) (by simpa [stripAll, rowLen] using hle) (fun _ _ _ _ _ => rfl) (sl := true) (fun e => by cases e)
                  refine ⟨_, S, who', w', hrunS h1, hs, ?_, ⟨h4, fun b' hb' hn => ?_, fun _ h => h, fun _ h => .inl h, fun b' hb' => .inl ((h3 b' hb').resolve_right (by simp)), h6⟩⟩
                  · rw [hdrop, hp]; simpa [withCells] using h2
                  · exact h5 b' hn
                · cases hs
              case obox cells =>
                dsimp only at hs
                split at hs
                · rename_i hle
                  obtain ⟨w', who', h1, h2, h3, h4, h5, h6⟩ := poke_sem (P := P) h hf hb (boxed_reps (sk := i.sk) hreps) (by simp) (by simp) hone (j := j) (by simpa [boxed_len, rowLen] using hle) (fun _ _ _ _ _ => rfl) (sl := cs.any isSliceB) (fun e => boxed_slice e)
                  refine ⟨_, S, who', w', hrunS h1, hs, ?_, ⟨h4, fun b' hb' hn => ?_, fun _ h => h, fun _ h => .inl h, fun b' hb' => .inl ((h3 b' hb').resolve_right (by simp)), h6⟩⟩
                  · rw [hdrop, hp]; simpa [withCells] using h2
                  · exact h5 b' hn
                · cases hs
          | _ => rw [hv] at hry; cases hry
        · cases hs
    · cases hs
  | false =>
    rw [hag] at hs
    simp only [cond_false] at hs
    obtain ⟨c0, σ1, S1, who1, O1, hK, h1, hr1, hL1, hd1, hOc, hone, _, hst1⟩ := cellVal_sem h hry hly hs
    obtain ⟨hra, hla⟩ := opnd_spec h1 addr
    unfold storeOne at hK
    split at hK
    · rename_i r0 p ha
      rw [ha] at hra hla
      obtain ⟨q, ii, j, c, X, b, o, hp, hlast, hdrop, hX, hf, hb, hu⟩ := ptr_sem hla
      rw [hlast, hX] at hK
      have h1sz : i.size = 1 := hT.one hag
      have hrunS : ∀ {w' : World}, (storeCells ⟨b, o + j, none⟩ [a.eval y] 0).run P w = .ok () w' → (Instr.storeAt t (a.eval addr) (a.eval y)).run P w = .ok () w' := fun hw => by
        have hcells : (a.eval y).cells = #[a.eval y] := by cases hv : a.eval y <;> first | rfl | (rw [hv] at hone; cases hone)
        rw [hu]
        simp only [Instr.storeAt, Instr.sureAddr, Sem.run_bind, Sem.run_pure, Result.andThen_ok, storeVar, run_sizeOf w hi, hsz, hcells, h1sz]
        simpa using hw
      have hback : ∀ b', who1 b' ≠ none → who b' ≠ none := fun b' hb' => by
        rcases hst1.own b' hb' with h7 | h7
        · exact h7
        · obtain ⟨x, e⟩ := Option.ne_none_iff_exists'.1 hb'
          have := h1.lowO b' x e; omega
      have hfinish : ∀ {w' : World} {who' : Nat → Option Nat}, (∀ b', who' b' ≠ none → who1 b' ≠ none ∨ b' ∈ O1) → w.heap.size ≤ w'.heap.size → (∀ b', who1 b' = none → w'.heap[b']? = w.heap[b']?) → Same w w' →
          Step S who w S1 who' w' := fun h3 h4 h5 h6 => by
        refine ⟨h4, fun b' hb' hn => h5 b' ?_, hst1.sub, hst1.new, fun b' hb' => .inl ?_, h6⟩
        · cases e : who1 b' with
          | none => rfl
          | some x => exact absurd hn (hback b' (by simp [e]))
        · rcases h3 b' hb' with h7 | h7
          · exact hback b' h7
          · exact (hL1.2 b' h7).2.2
      cases X <;> try (cases hK; done)
      case own n k rows =>
        dsimp only at hK
        have hnest : n = false → O1 = [] := fun hn => by
          subst hn
          rcases hOc with h2 | ⟨n2, k2, rows2, rfl⟩
          · exact h2
          · simp at hK
        have hK' : (if j + 1 ≤ k then G ((stored (isSliceB c0) r0 p.length σ1).set r0 (setP (gt σ1 r0) p.dropLast (.own n k (rows.set ii (setRange (rows.getD ii []) j [c0]))))) else none) = some r := by
          split at hK
          · cases hK
          · exact hK
        split at hK'
        · rename_i hle
          obtain ⟨w', who', g1, g2, g3, g4, g5, g6⟩ := poke_sem (P := P) h1 hf hb (vs := [a.eval y]) (cs := [c0]) (Oc := O1) (by simpa using Reps.cons hr1 .nil) hL1.1 (fun b hb => ⟨(hL1.2 b hb).1, (hL1.2 b hb).2.1⟩) (by simpa using hone) (j := j)
            (by simpa [rowLen] using hle) (fun _ _ _ e hn => by cases e; exact hnest hn) (sl := isSliceB c0) (fun e y hy hs => by simp only [List.mem_singleton] at hy; subst hy; rw [isSliceB_iff.2 hs] at e; cases e)
          refine ⟨_, S1, who', w', hrunS g1, hK', ?_, hfinish g3 g4 g5 g6⟩
          rw [hdrop, hp]; simpa [withCells] using g2
        · cases hK'
      case obox cells =>
        dsimp only at hK
        split at hK
        · rename_i hle
          obtain ⟨w', who', g1, g2, g3, g4, g5, g6⟩ := poke_sem (P := P) h1 hf hb (vs := [a.eval y]) (cs := [c0]) (Oc := O1) (by simpa using Reps.cons hr1 .nil) hL1.1 (fun b hb => ⟨(hL1.2 b hb).1, (hL1.2 b hb).2.1⟩) (by simpa using hone) (j := j)
            (by simpa [rowLen] using hle) (fun _ _ _ e _ => by cases e) (sl := isSliceB c0) (fun e y hy hs => by simp only [List.mem_singleton] at hy; subst hy; rw [isSliceB_iff.2 hs] at e; cases e)
          refine ⟨_, S1, who', w', hrunS g1, hK, ?_, hfinish g3 g4 g5 g6⟩
          rw [hdrop, hp]; simpa [withCells] using g2
        · cases hK
    · cases hK

end
end Go.Zv
