/- Zv: calls: arguments that are moved, shared, lent. No condition. -/
import Derived.Test.YtdddbifjkkhpbaaGreatDoorZvCall
namespace Go.Zv
open Go

section
variable {R : Type} {P : Program} {E : Env} {r : R} {K : List V → Option R} {S S' : Nat → Prop} {who who' : Nat → Option Nat} {w w' : World} {a : Act} {dst : Option Nat} {σ σ' : List V}

/-- What is lent is the root's own value; no other roads. -/
def LentOK (tm : Array Value) (u : Value) : V → Prop
  | .ptr r p => p = [(0, 0)] ∧ u = tm.getD r undef
  | .ref r p => p = [] ∧ u = tm.getD r undef
  | v => linkFree v = true

def ArgsOut (E : Env) (r : R) (G : List V → List V → Option R) (S : Nat → Prop) (who0 who : Nat → Option Nat) (w : World) (tm : Array Value) (us : List Value) : Prop :=
  ∃ vals σ' S' who' O, G vals σ' = some r ∧ Rel E S' who' w tm σ' ∧ Step S who w S' who' w ∧ Reps S' w us vals O ∧ Loose S' who0 who' O ∧ ∀ y ∈ us.zip vals, LentOK tm y.1 y.2

theorem evArgs_sem (tk tn : List Nat) {G : List V → List V → Option R} {who0 : Nat → Option Nat} : ∀ (l : List (Arg × Option TI)) {j : Nat} {S : Nat → Prop} {who : Nat → Option Nat} {σ : List V} (acc : List (Value × V)) {O : List Nat},
    Rel E S who w a.tmps σ → Reps S w (acc.reverse.map (·.1)) (acc.reverse.map (·.2)) O → Loose S who0 who O → (∀ b, who b ≠ none → who0 b ≠ none) → (∀ y ∈ acc, LentOK a.tmps y.1 y.2) → evArgs E tk tn l j (acc.map (·.2)) σ G = some r →
    ArgsOut E r G S who0 who w a.tmps (acc.reverse.map (·.1) ++ l.map fun y => argU a y.1)
  | [], j, S, who, σ, acc, O, h, hr, hL, h0, hok, hs => by
    refine ⟨acc.reverse.map (·.2), σ, S, who, O, by simpa [evArgs, List.map_reverse] using hs, h, Step.refl _ _ _, by simpa using hr, hL, ?_⟩
    intro y hy
    simp only [List.map_nil, List.append_nil] at hy
    rw [List.zip_map'] at hy
    obtain ⟨z, hz, rfl⟩ := List.mem_map.1 hy
    exact hok z (by simpa using hz)
  | (x, ty) :: l, j, S, who, σ, acc, O, h, hr, hL, h0, hok, hs => by
    obtain ⟨hrx, hlx⟩ := arg_spec h x
    have hlow := hr.low
    -- one more
    have next : ∀ {S1 : Nat → Prop} {who1 : Nat → Option Nat} {σ1 : List V} {v : V} {O1 : List Nat}, Rel E S1 who1 w a.tmps σ1 → Step S who w S1 who1 w → Rep S1 w (argU a x) v O1 → Loose S1 who0 who1 O1 → (∀ b ∈ O, b ∉ O1) → LentOK a.tmps (argU a x) v →
        evArgs E tk tn l (j + 1) (v :: acc.map (·.2)) σ1 G = some r → ArgsOut E r G S who0 who w a.tmps (acc.reverse.map (·.1) ++ ((x, ty) :: l).map fun y => argU a y.1) := by
      intro S1 who1 σ1 v O1 h1 hst hv hL1 hd hk hs1
      have hback : ∀ b, who1 b ≠ none → who0 b ≠ none := fun b hb => by
        rcases hst.own b hb with h7 | h7
        · exact h0 b h7
        · obtain ⟨xx, e⟩ := Option.ne_none_iff_exists'.1 hb
          have := h1.lowO b xx e; omega
      have hr1 : Reps S1 w ((((argU a x, v) :: acc).reverse).map (·.1)) ((((argU a x, v) :: acc).reverse).map (·.2)) (O ++ O1) := by
        have e1 : Reps S1 w [argU a x] [v] O1 := by simpa using Reps.cons hv .nil
        simpa using (hr.mono hst.sub (fun _ _ => rfl) (fun _ _ => rfl)).append e1
      have hL2 : Loose S1 who0 who1 (O ++ O1) := (hL.step hst hlow).append hL1 hd
      obtain ⟨vals, σ', S', who', O', g1, g2, g3, g4, g5, g6⟩ := evArgs_sem tk tn l ((argU a x, v) :: acc) h1 hr1 hL2 hback (fun y hy => by
        rcases List.mem_cons.1 hy with rfl | hy
        · exact hk
        · exact hok y hy) hs1
      have e : ((((argU a x, v) :: acc).reverse).map (·.1) ++ l.map fun y => argU a y.1) = (acc.reverse.map (·.1) ++ ((x, ty) :: l).map fun y => argU a y.1) := by simp
      rw [e] at g4 g6
      exact ⟨vals, σ', S', who', O', g1, g2, hst.trans g3, g4, g5, g6⟩
    have loose0 : Loose S who0 who [] := ⟨by simp, by simp⟩
    simp only [evArgs] at hs
    split at hs
    · rename_i r0 p hx
      rw [hx] at hlx
      split at hs
      · rename_i k b hk
        cases htn : tn.contains j with
        | true =>
          rw [htn] at hs
          simp only [cond_true] at hs
          split at hs
          · rename_i n k2 rows hg
            have hu : argU a x = a.tmps.getD r0 undef := by
              rcases hlx with ⟨_, hl⟩ | ⟨q, i, j, c, X, b, o, e, _⟩
              · exact hl (by rw [hg]; trivial)
              · simp at e
            exact next (v := .ref r0 []) h (Step.refl _ _ _) (.ref _ _ _) loose0 (by simp) ⟨rfl, hu⟩ hs
          · cases hs
        | false =>
          rw [htn] at hs
          simp only [cond_false] at hs
          cases htk : tk.contains j with
          | true =>
            rw [htk] at hs
            simp only [cond_true] at hs
            rcases place_sem hlx hs with ⟨n, rows, X, hK, hf, hX⟩ | ⟨f, rows, hK, hf⟩
            · obtain ⟨OX, who1, g1, g2, g3, g4, g5⟩ := take_sem h hf (by rcases hX with rfl | ⟨rfl, _⟩ <;> simp)
              have hown : Rep S w (argU a x) (.own n k rows) OX := by
                rcases hX with rfl | ⟨rfl, rfl, rfl⟩
                · exact g1
                · generalize argU a x = u at g1 ⊢
                  cases g1; exact .own0 _ _ _
              exact next g4 g5 hown ⟨g2, fun b hb => ⟨(g3 b hb).2.1, (g3 b hb).2.2, h0 b (g3 b hb).1⟩⟩ (fun b hb hc => (g3 b hc).1 (hL.2 b hb).1) rfl hK
            · obtain ⟨O1, hX, _⟩ := hf.rep h
              exact next (v := .sl k f rows) h (Step.refl _ _ _) ((hX.plain rfl (by simp)) ▸ hX) loose0 (by simp) rfl hK
          | false =>
            rw [htk] at hs
            simp only [cond_false] at hs
            obtain ⟨f, rows, σ1, S1, who1, hK, h1, h2, h3⟩ := share_sem h (.ref _ _ _) hlx hs
            exact next (v := .sl k f rows) h1 h3 h2 ⟨by simp, by simp⟩ (by simp) rfl hK
      · cases hs
    · rename_i r0 p hx
      rw [hx] at hlx
      split at hs
      · rename_i cells hg
        obtain ⟨q, i, j', c, X, b, o, e2, hf, hb, hu⟩ := hlx
        have hq : q = [] ∧ i = 0 ∧ j' = 0 := by
          cases q with
          | nil => simp at e2; exact ⟨rfl, e2.1.symm, e2.2.symm⟩
          | cons z q => simp at e2
        obtain ⟨rfl, rfl, rfl⟩ := hq
        have hu' : argU a x = a.tmps.getD r0 undef := by
          rw [hg] at hf
          generalize a.tmps.getD r0 undef = c0 at hf ⊢
          generalize hq : ([] : Path) = q0 at hf
          cases hf with
          | nil => cases hb with
            | box => exact hu
          | _ => cases hq
        exact next (v := .ptr r0 [(0, 0)]) h (Step.refl _ _ _) (.ptr _ _ _) loose0 (by simp) ⟨rfl, hu'⟩ hs
      · cases hs
    · rename_i hx
      rw [hx] at hrx
      split at hs
      · rename_i k b hk
        cases htk : tk.contains j with
        | true =>
          rw [htk] at hs
          exact next (v := .own false k []) h (Step.refl _ _ _) (by generalize argU a x = u at hrx ⊢; cases hrx; exact .own0 _ _ _) loose0 (by simp) rfl hs
        | false =>
          rw [htk] at hs
          exact next (v := .sl k true []) h (Step.refl _ _ _) (by generalize argU a x = u at hrx ⊢; cases hrx; exact .sl0 _ _ _ _ (by simp)) loose0 (by simp) rfl hs
      · cases hs
    · rename_i cs hx
      rw [hx] at hrx
      cases hg : goodCells cs with
      | false => rw [hg] at hs; cases hs
      | true =>
        rw [hg] at hs
        exact next h (Step.refl _ _ _) hrx loose0 (by simp) rfl hs
    · cases hg : simple (argV E σ x) with
      | false => rw [hg] at hs; cases hs
      | true =>
        rw [hg] at hs
        obtain ⟨p1, p2, p3⟩ := simple_cont hg
        refine next h (Step.refl _ _ _) hrx loose0 (by simp) ?_ hs
        generalize argV E σ x = v at p3 ⊢
        cases v <;> first | exact p3 | cases p3

end
end Go.Zv
