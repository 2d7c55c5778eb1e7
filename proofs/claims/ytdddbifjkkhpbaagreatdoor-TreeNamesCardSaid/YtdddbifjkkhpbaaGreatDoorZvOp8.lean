/- Zv: the soundness of operations: closures, slices of slices, of strings and of arrays. No condition. -/
import Derived.Test.YtdddbifjkkhpbaaGreatDoorZvOp7
namespace Go.Zv
open Go

section
variable {R : Type} {P : Program} {E : Env} {r : R} {K : List V → Option R} {S S' : Nat → Prop} {who who' : Nat → Option Nat} {w w' : World} {a : Act} {dst : Option Nat} {σ σ' : List V}

theorem strip_mem : ∀ {b o : Nat} {cs : List V} {O : List Nat}, Mem S w b o cs O → O = [] → Mem S w b o (stripAll cs) []
  | _, _, _, _, .nil _ _, _ => .nil _ _
  | _, _, c :: cs, _, .cons h0 h9 h1 h2, hO => by
    obtain ⟨rfl, rfl⟩ := List.append_eq_nil_iff.1 hO
    have : ∀ {u : Value} {c : V}, Rep S w u c [] → Rep S w u c.strip [] := by
      intro u c h1
      cases c <;> first | exact h1 | (cases h1 with | cl h => exact h)
    simpa [stripAll] using Mem.cons h0 h9 (this h1) (strip_mem h2 rfl)

/-- A box made immutable. -/
theorem freezeBox_sem {tm : Array Value} (h : Rel E S who w tm σ) {r0 : Nat} {cells : List V} (hg : gt σ r0 = .obox cells) (hgood : goodCells (shareCells cells) = true) :
    ∃ b S' who', tm.getD r0 undef = .pointer (some ⟨b, 0, none⟩) ∧ S' b ∧ Mem S' w b 0 (stripAll (shareCells cells)) [] ∧
      Rel E S' who' w tm ((drop r0 0 σ).set r0 (.iptr (stripAll (shareCells cells)) 0)) ∧ Step S who w S' who' w := by
  have hf : Follow w (tm.getD r0 undef) (gt σ r0) [] (tm.getD r0 undef) (gt σ r0) := .nil _ _
  have hlt : r0 < σ.length := hf.lt (by rw [hg]; simp)
  obtain ⟨OX, h1, h2, h3, h4⟩ := h.turn hf
  have hlow : ∀ b ∈ OX, b < w.heap.size := h1.low
  rw [hg] at h1
  generalize hu : tm.getD r0 undef = u at *
  cases h1 with
  | @obox b _ O m1 m2 =>
    rw [shareCells_eq] at hgood ⊢
    have hm : Mem (fun b' => S b' ∨ b' ∈ b :: O) w b 0 (stripAll (cells.map shareCell)) [] := strip_mem (share_mem (fun _ h => .inl h) m2 (fun b' hb' => .inr (by simp [hb'])) hgood) rfl
    have := h4 false 0 (fun b' => S b' ∨ b' ∈ b :: O) w (.iptr (stripAll (cells.map shareCell)) 0) [] (.inl rfl) (fun _ h => .inl h) (fun _ _ => rfl) (fun _ _ _ => rfl) (Nat.le_refl _)
      (.iptr (.inr (by simp)) rfl hm) (by simp) (by simp) (by simp)
      (fun b' hb' => ⟨hb'.imp (h.sep b') id, by simp, hb'.elim (h.low b') (hlow b')⟩) (fun h => h.elim) trivial hlt
    refine ⟨b, _, _, rfl, .inr (by simp), hm, this, ⟨Nat.le_refl _, fun _ _ _ => rfl, fun _ h => .inl h, fun b' hb' => hb'.imp id fun hb' => .inl (by rw [h3 b' hb']; simp), fun b' hb' => .inl ?_, Same.refl _⟩⟩
    intro hn
    apply hb'
    simp only [List.not_mem_nil, if_false]
    split
    · rfl
    · exact hn

theorem caps_sem (mb : Bool) {G : List V → List V → Option R} : ∀ (l : List (Value × V)) {S : Nat → Prop} {who : Nat → Option Nat} {σ : List V} {tm : Array Value} (acc : List (Value × V)),
    Rel E S who w tm σ → (∀ y ∈ l, Rep S w y.1 y.2 [] ∧ ∀ rr q, y.2 = .ptr rr q → mb = true → Link1 w tm σ y.1 y.2) → (∀ y ∈ l, ∀ rr, y.2 = .ptr rr [(0, 0)] → mb = false → ∀ cells, gt σ rr = .obox cells → y.1 = tm.getD rr undef) →
    (∀ y ∈ acc, Rep S w y.1 y.2 [] ∧ Link1 w tm σ y.1 y.2 ∧ (mb = false → isIptr y.2 = true)) → evCaps mb (l.map (·.2)) (acc.map (·.2)) σ G = some r →
    ∃ (res : List (Value × V)) (σ' : List V) (S' : Nat → Prop) (who' : Nat → Option Nat), res.map (·.1) = acc.reverse.map (·.1) ++ l.map (·.1) ∧ G (res.map (·.2)) σ' = some r ∧ Rel E S' who' w tm σ' ∧ Step S who w S' who' w ∧
      ∀ y ∈ res, Rep S' w y.1 y.2 [] ∧ Link1 w tm σ' y.1 y.2
  | [], S, who, σ, tm, acc, h, _, _, hacc, hs => ⟨acc.reverse, σ, S, who, by simp, by simpa [evCaps] using hs, h, Step.refl _ _ _, fun y hy => ⟨(hacc y (by simpa using hy)).1, (hacc y (by simpa using hy)).2.1⟩⟩
  | (u, x) :: l, S, who, σ, tm, acc, h, hl, hl2, hacc, hs => by
    simp only [List.map_cons, evCaps] at hs
    split at hs
    · rename_i c o
      obtain ⟨res, σ', S', who', e1, e2, e3, e4, e5⟩ := caps_sem mb l ((u, .iptr c o) :: acc) h (fun y hy => hl y (by simp [hy])) (fun y hy => hl2 y (by simp [hy])) (fun y hy => by
        rcases List.mem_cons.1 hy with rfl | hy
        · exact ⟨(hl _ (by simp)).1, trivial, fun _ => rfl⟩
        · exact hacc y hy) hs
      exact ⟨res, σ', S', who', by simpa using e1, e2, e3, e4, e5⟩
    · rename_i r0
      cases mb with
      | true =>
        simp only [cond_true] at hs
        obtain ⟨res, σ', S', who', e1, e2, e3, e4, e5⟩ := caps_sem true l ((u, .ptr r0 [(0, 0)]) :: acc) h (fun y hy => hl y (by simp [hy])) (fun y hy => hl2 y (by simp [hy])) (fun y hy => by
          rcases List.mem_cons.1 hy with rfl | hy
          · exact ⟨(hl _ (by simp)).1, (hl _ (by simp)).2 _ _ rfl rfl, fun h => by cases h⟩
          · exact hacc y hy) hs
        exact ⟨res, σ', S', who', by simpa using e1, e2, e3, e4, e5⟩
      | false =>
        simp only [cond_false] at hs
        split at hs
        · rename_i cells hg
          unfold sharedBox at hs
          cases hgood : goodCells (shareCells cells) with
          | false => simp [hgood] at hs
          | true =>
            simp only [hgood, cond_true] at hs
            obtain ⟨b, S1, who1, g1, g2, g3, g4, g5⟩ := freezeBox_sem h hg hgood
            have hsub : ∀ {y : Value × V}, Rep S w y.1 y.2 [] → Rep S1 w y.1 y.2 [] := fun hr => hr.mono g5.sub (fun _ _ => rfl) (by simp)
            have hu : u = tm.getD r0 undef := hl2 (u, .ptr r0 [(0, 0)]) (by simp) r0 rfl rfl _ hg
            obtain ⟨res, σ', S', who', e1, e2, e3, e4, e5⟩ := caps_sem false l ((u, .iptr (stripAll (shareCells cells)) 0) :: acc) g4 (fun y hy => ⟨hsub (hl y (by simp [hy])).1, fun _ _ _ h => by cases h⟩)
              (fun y hy rr e hn cells' hc => hl2 y (by simp [hy]) rr e hn cells' (by
                rw [gt_set, gt_drop] at hc
                split at hc
                · cases hc
                · cases e3 : stale r0 0 (gt σ rr) with
                  | true => rw [e3] at hc; cases hc
                  | false => rw [e3] at hc; exact hc)) (fun y hy => by
              rcases List.mem_cons.1 hy with rfl | hy
              · exact ⟨by rw [hu, g1]; exact .iptr g2 rfl g3, trivial, fun _ => rfl⟩
              · refine ⟨hsub (hacc y hy).1, ?_, (hacc y hy).2.2⟩
                have := (hacc y hy).2.2 rfl
                cases e : y.2 <;> rw [e] at this <;> first | trivial | cases this) hs
            exact ⟨res, σ', S', who', by simpa using e1, e2, e3, g5.trans e4, e5⟩
        · cases hs
    · cases hs

theorem makeFunc_out {f : Fn} {first caps : Array Operand} {nest : Bool} (h : Rel E S who w a.tmps σ)
    (hs : (match f with
    | .func g => if first.size = 0 then evCaps nest (caps.toList.map (opnd E σ)) [] σ fun cs σ' => K (put dst (.fn g cs) σ') else none
    | _ => none) = some r) : OutV E r K S who w a dst ((Instr.makeFunc f (first.map a.eval) (caps.map a.eval)).run P w) := by
  split at hs
  · rename_i g
    split at hs
    · rename_i h0
      have hfirst : first.map a.eval = #[] := by
        apply Array.eq_empty_of_size_eq_zero
        simpa using h0
      have hmap : caps.toList.map (opnd E σ) = (caps.toList.map fun x => (a.eval x, opnd E σ x)).map (·.2) := by simp
      rw [hmap] at hs
      obtain ⟨res, σ', S', who', e1, e2, e3, e4, e5⟩ := caps_sem nest _ [] h (fun y hy => by
        obtain ⟨x, _, rfl⟩ := List.mem_map.1 hy
        obtain ⟨h1, h2⟩ := opnd_spec h x
        refine ⟨h1, fun rr q e _ => ?_⟩
        simp only at e
        rw [e] at h2 ⊢
        exact h2) (fun y hy rr e hn cells hc => by
        obtain ⟨x, _, rfl⟩ := List.mem_map.1 hy
        obtain ⟨_, h2⟩ := opnd_spec h x
        simp only at e ⊢
        rw [e] at h2
        obtain ⟨q, i, j, c, X, b, o, e2, hf, hb, hu⟩ := h2
        have hq : q = [] ∧ i = 0 ∧ j = 0 := by
          cases q with
          | nil => simp at e2; exact ⟨rfl, e2.1.symm, e2.2.symm⟩
          | cons z q => simp at e2
        obtain ⟨rfl, rfl, rfl⟩ := hq
        rw [hc] at hf
        generalize a.tmps.getD rr undef = c0 at hf ⊢
        generalize hq : ([] : Path) = q0 at hf
        cases hf with
        | nil => cases hb with
          | box => exact hu
        | _ => cases hq) (by simp) hs
      have hvals : (caps.map a.eval).toList = res.map (·.1) := by rw [e1]; simp
      have hreps : ∀ l : List (Value × V), (∀ y ∈ l, Rep S' w y.1 y.2 []) → Reps S' w (l.map (·.1)) (l.map (·.2)) [] := by
        intro l
        induction l with
        | nil => intro _; exact .nil
        | cons y l ih => intro hy; simpa using Reps.cons (hy y (by simp)) (ih fun z hz => hy z (by simp [hz]))
      refine outv_put (u := .func (.func g) #[] (caps.map a.eval)) (v := .fn g (res.map (·.2))) ?_ e3 e4 (.fn (by rw [hvals]; exact hreps res fun y hy => (e5 y hy).1)) (by simp) (by simp) ?_ e2
      · simp [Instr.makeFunc, hfirst]
      · refine ⟨_, rfl, ?_, fun i => ?_⟩
        · have := congrArg List.length hvals
          simpa using this
        · by_cases hi : i < res.length
          · have g1 : (res.map (·.2)).getD i .undef = (res[i]).2 := by simp [List.getD_eq_getElem?_getD, List.getElem?_map, List.getElem?_eq_getElem hi]
            have g2 : (caps.map a.eval).getD i undef = (res[i]).1 := by
              rw [Array.getD_eq_getD_getElem?, ← Array.getElem?_toList, hvals]
              simp [List.getElem?_map, List.getElem?_eq_getElem hi]
            rw [g1, g2]
            exact (e5 _ (List.getElem_mem hi)).2
          · rw [List.getD_eq_getElem?_getD, List.getElem?_eq_none (by simp; omega)]; trivial
    · cases hs
  · cases hs

end
end Go.Zv
