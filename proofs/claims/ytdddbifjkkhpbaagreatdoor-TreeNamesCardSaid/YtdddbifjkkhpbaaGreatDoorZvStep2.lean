/- Zv: a step on a part of a state does to the whole what is told. No condition. -/
import Derived.Test.YtdddbifjkkhpbaaGreatDoorZvStep
namespace Go.Zv
open Go

section
variable {R : Type} {P : Program} {E : Env} {r : R} {K : List V → Option R} {S : Nat → Prop} {who : Nat → Option Nat} {w : World} {a : Act} {σ σ' : List V} {ops : Array Oper} {Q : Exit → Act → World → Prop}

theorem Oper.wp_tmps {o : Oper} {next : Act → World → Prop} (h : o.wp P a w next Q) : o.wp P a w (fun a' w' => next a' w' ∧ ∃ v, a'.tmps = (a.put o.dst v).tmps) Q := by
  unfold Oper.wp at *
  generalize (execOp a.eval o).run P w = res at *
  cases res with
  | ok n w' =>
    cases n <;> simp only [Oper.upon] at h ⊢
    case value v => exact ⟨h, _, rfl⟩
    case skip => exact ⟨h, _, rfl⟩
    case defer d => exact ⟨h, undef, by cases o.dst <;> rfl⟩
    case enter f args =>
      refine Calls.mono h fun e w'' he => ?_
      cases e with
      | returned v => exact ⟨he, _, rfl⟩
      | panicked c => exact he
      | outgrown => exact he
    case row row args => exact Rows.mono h fun v w'' he => ⟨he, _, rfl⟩
  | halt x w' => cases x <;> simp only [Oper.upon] at h ⊢ <;> exact h

/-- What is asked of a step's text. -/
def okStep (s : PStep) (o : Oper) : Bool :=
  match o.dst with
  | some d => cond s.quiet (s.wr == [d]) (s.wr.contains d)
  | none => !s.quiet

theorem put_tmps_none (a : Act) (v : Value) : (a.put none v).tmps = a.tmps := rfl
theorem put_tmps_some (a : Act) (d : Nat) (v : Value) : (a.put (some d) v).tmps = a.tmps.setIfInBounds d v := rfl


theorem merge_step {s : PStep} {o : Oper} {σ2 : List V} (hfx : flag E.fixed o.dst = false) (hok : okStep s o = true) (h : Rel E S who w a.tmps σ) (hcd : cond s.quiet true (s.rd.all fun t => plainV (gt σ t)) = true)
    (hput : s.quiet = true → ∃ v, σ2 = put o.dst v (keepOnly (s.rd ++ s.wr) σ)) {a' : Act} {w' : World} (hpost : Post E σ2 some S (whoF (s.rd ++ s.wr) who) w a a' w') (ht : ∃ v, a'.tmps = (a.put o.dst v).tmps) (hg : s.quiet = true → Grows w w') :
    Led E S who w a (over (cond s.quiet (s.rd ++ s.wr) s.wr) s.wr σ σ2) a' w' := by
  obtain ⟨σ3, S2, who2, e1, h2, h3, h4⟩ := hpost
  cases e1
  obtain ⟨u, ht⟩ := ht
  have hfix : Fix E a a' := Fix.put hfx ht
  unfold okStep at hok
  cases hq : s.quiet with
  | true =>
    rw [hq] at hok
    cases hd : o.dst with
    | none => rw [hd] at hok; cases hok
    | some d =>
      rw [hd] at hok
      simp only [cond_true, beq_iff_eq] at hok
      obtain ⟨v, hv⟩ := hput hq
      rw [hd] at hv
      simp only [put] at hv
      subst hv
      rw [hd, put_tmps_some] at ht
      rw [ht] at h2
      rw [hok] at h2 h3 ⊢
      obtain ⟨g1, g2⟩ := Rel.mergeQ (A := s.rd ++ [d]) (by simp) h h2 h3 (hg hq)
      exact ⟨_, _, by rw [ht]; exact g1, g2, h4, hfix⟩
  | false =>
    rw [hq] at hok hcd
    simp only [cond_false, List.all_eq_true] at hcd
    have hsz : a'.tmps.size = a.tmps.size := by
      rw [ht]; cases o.dst <;> simp [Act.put]
    have htm : ∀ t, s.wr.contains t = false → a'.tmps.getD t undef = a.tmps.getD t undef := by
      intro t hw
      rw [ht]
      cases hd : o.dst with
      | none => rfl
      | some d =>
        rw [hd] at hok
        simp only [cond_false] at hok
        rw [put_tmps_some, getD_setIfInBounds, if_neg]
        rintro ⟨rfl, _⟩
        rw [hok] at hw; cases hw
    obtain ⟨g1, g2⟩ := Rel.merge (A := s.rd ++ s.wr) (W := s.wr) (fun t ht => by simp at ht ⊢; exact .inr ht) h h2 h3 hsz htm (fun t hA hW => hcd t (by
      simp only [List.contains_iff_mem, List.mem_append] at hA
      rcases hA with h | h
      · exact h
      · rw [List.contains_iff_mem.2 h] at hW; cases hW))
    exact ⟨_, _, g1, g2, h4, hfix⟩

theorem step_sound {s : PStep} {o : Oper} {K : Act → World → Prop} (hE : EnvOK P E) (hC : CallOK P E) (ho : ops[s.i]? = some o) (hok : okStep s o = true) (h : Rel E S who w a.tmps σ) (hs : stepF E ops s σ = some σ')
    (hK : ∀ a' w', Led E S who w a σ' a' w' → K a' w') : wpOp P ops Q s.i K a w := by
  unfold stepF at hs
  rw [ho] at hs
  dsimp only at hs
  cases hcd : cond s.quiet (putB E o (keepOnly (s.rd ++ s.wr) σ)) (s.rd.all fun t => plainV (gt σ t)) with
  | false => rw [hcd] at hs; cases hs
  | true =>
  rw [hcd] at hs
  simp only [cond_true, Option.bind_eq_some_iff, forceL_eq, Option.some.injEq] at hs
  obtain ⟨σ2, hs, hσ'⟩ := hs
  subst hσ'
  have hF := h.forget (s.rd ++ s.wr)
  have hfx0 := gstep_fixed hs
  have hcd' : cond s.quiet true (s.rd.all fun t => plainV (gt σ t)) = true := by
    cases hq : s.quiet <;> rw [hq] at hcd
    · exact hcd
    · rfl
  have hpB : s.quiet = true → putB E o (keepOnly (s.rd ++ s.wr) σ) = true := fun hq => by rw [hq] at hcd; exact hcd
  unfold wpOp
  simp only [ho]
  rcases gstep_cases hF hs with ⟨h1, h2⟩ | ⟨h1, h2⟩
  · rw [if_pos h1]
    refine .inl ?_
    have hput : s.quiet = true → ∃ v, σ2 = put o.dst v (keepOnly (s.rd ++ s.wr) σ) := fun hq => by
      obtain ⟨v, hv⟩ := evOp_put hC (hpB hq) h2
      exact ⟨v, by simpa using hv.symm⟩
    cases hq : s.quiet with
    | false =>
      refine Oper.wp_mono (fun a' w' hp => hK a' w' ?_) (Oper.wp_tmps (oper_sound hE hC hF h2))
      exact merge_step hfx0 hok h hcd' hput hp.1 hp.2 (fun hq' => by rw [hq] at hq'; cases hq')
    | true =>
      have hp := hpB hq
      by_cases hcalm : calmB o = true
      · obtain ⟨v, e1, e2⟩ := oper_still hE hC hF h2 hcalm
        unfold Oper.wp
        rw [e1]
        exact hK _ _ (merge_step hfx0 hok h hcd' hput e2 ⟨v, rfl⟩ fun _ => Grows.refl _)
      · -- a call
        unfold evOp at h2
        cases hfx : flag E.fixed o.dst with
        | true => rw [hfx] at h2; cases h2
        | false =>
        rw [hfx] at h2
        simp only [cond_false] at h2
        unfold putB at hp
        unfold calmB at hcalm
        cases hop : o.op <;> rw [hop] at hp hcalm h2 <;> first | (cases hp; done) | (exact absurd rfl hcalm) | skip
        case call c =>
          dsimp only at h2 hp hcalm
          split at h2
          · rename_i b hb
            rw [hb] at hp hcalm
            cases b <;> first | (cases hp; done) | exact absurd rfl hcalm
          · rename_i f hf
            rw [hf] at hp
            dsimp only at hp
            split at h2
            · rename_i g caps hx
              rw [hx] at hp
              dsimp only at hp
              unfold evCall at h2
              rw [hp] at h2
              refine Oper.wp_mono (fun a' w' hp => hK a' w' ?_) (Oper.wp_tmps (call_flat hC hF hop hf hx h2))
              exact merge_step hfx0 hok h hcd' hput hp.1.1 hp.2 fun _ => hp.1.2
            · cases h2
          · cases h2
  · rw [if_neg (by simp [h1])]
    refine hK _ _ (merge_step hfx0 hok h hcd' (fun _ => ⟨_, by simpa using h2.symm⟩) (post_unit hF h2) ⟨_, rfl⟩ fun _ => Grows.refl _)

end
end Go.Zv
