/- Zv: the soundness of every operation but calls. No condition. -/
import Derived.Test.YtdddbifjkkhpbaaGreatDoorZvOp12
namespace Go.Zv
open Go

/-- What holds behind an operation. -/
def Post {R : Type} (E : Env) (r : R) (K : List V → Option R) (S : Nat → Prop) (who : Nat → Option Nat) (w : World) (a : Act) (a' : Act) (w' : World) : Prop :=
  ∃ σ' S' who', K σ' = some r ∧ Rel E S' who' w' a'.tmps σ' ∧ Step S who w S' who' w' ∧ a'.defers = a.defers

section
variable {R : Type} {P : Program} {E : Env} {r : R} {K : List V → Option R} {S S' : Nat → Prop} {who who' : Nat → Option Nat} {w w' : World} {a : Act} {dst : Option Nat} {σ σ' : List V} {o : Oper} {Q : Exit → Act → World → Prop}

theorem put_defers (a : Act) (dst : Option Nat) (v : Value) : (a.put dst v).defers = a.defers := by cases dst <;> rfl

theorem wp_outv {s : Sem Value} (he : execOp a.eval o = (do pure (.value (← s)))) (h : OutV E r K S who w a o.dst (s.run P w)) : o.wp P a w (Post E r K S who w a) Q := by
  obtain ⟨u, w', σ', S', who', h1, h2, h3, h4⟩ := h
  unfold Oper.wp
  rw [he]
  simp only [Sem.run_bind, h1, Result.andThen_ok, Sem.run_pure]
  exact ⟨σ', S', who', h2, h3, h4, put_defers _ _ _⟩

theorem wp_outv' {u : Value} (he : execOp a.eval o = pure (.value u)) (h : OutV E r K S who w a o.dst (.ok u w)) : o.wp P a w (Post E r K S who w a) Q := by
  refine wp_outv (s := pure u) ?_ (by simpa using h)
  rw [he]; rfl

theorem evOp_sound (hE : EnvOK P E) (h : Rel E S who w a.tmps σ) (hs : evOp E o σ K = some r)
    (hcall : ∀ c f g caps, o.op = .call c → c.callee = .value f → opnd E σ f = .fn g caps → evCall E g (callArgs c f caps.length) (c.argTypes.toList.map E.tys) o.dst σ K = some r → o.wp P a w (Post E r K S who w a) Q) :
    o.wp P a w (Post E r K S who w a) Q := by
  unfold evOp at hs
  cases hfx : flag E.fixed o.dst with
  | true => rw [hfx] at hs; cases hs
  | false =>
  rw [hfx] at hs
  simp only [cond_false] at hs
  cases hop : o.op with
  | move x =>
    rw [hop] at hs
    exact wp_outv' (by simp only [execOp, hop]) (move_out h hs)
  | assign x =>
    rw [hop] at hs
    exact wp_outv' (by simp only [execOp, hop]) (assign_out h hs)
  | pick c x y =>
    rw [hop] at hs
    exact wp_outv (s := do pure (if ← Go.asBool (a.eval c) then a.eval x else a.eval y)) (by simp only [execOp, hop, bind_assoc, pure_bind]) (pick_out h hs)
  | alloc t =>
    rw [hop] at hs
    exact wp_outv (by simp only [execOp, hop]) (alloc_out (hE.ty _) h hs)
  | box t x =>
    rw [hop] at hs
    exact wp_outv (by simp only [execOp, hop]) (box_out (fun i hi => hE.ty _ i hi) h hs)
  | build t parts =>
    rw [hop] at hs
    exact wp_outv (by simp only [execOp, hop]) (build_out (hE.ty _) h hs)
  | buildSlice t len parts =>
    rw [hop] at hs
    exact wp_outv (by simp only [execOp, hop]) (buildSlice_out (fun i hi => hE.ty _ i hi) h hs)
  | load t x =>
    rw [hop] at hs
    exact wp_outv (by simp only [execOp, hop]) (load_out hE h hs)
  | store t x y =>
    rw [hop] at hs
    obtain ⟨σ', S', who', w', h1, h2, h3, h4⟩ := store_sem (P := P) (hE.ty t) h hs
    obtain ⟨u, w2, σ2, S2, who2, e1, e2, e3, e4⟩ : OutV E r K S who w a o.dst (.ok undef w') := outv_put (v := .tup []) rfl h3 h4 (.tup .nil) (by simp) (by simp) trivial h2
    cases e1
    unfold Oper.wp
    simp only [execOp, hop, Sem.run_bind, h1, Result.andThen_ok, Sem.run_pure]
    exact ⟨σ2, S2, who2, e2, e3, e4, put_defers _ _ _⟩
  | nilCheck x =>
    rw [hop] at hs
    obtain ⟨hr, hl⟩ := opnd_spec h x
    dsimp only at hs
    split at hs
    · rename_i cs i hx
      rw [hx] at hr hl
      have hu : ∃ ad, a.eval x = .pointer (some ad) := by
        generalize a.eval x = u at hr ⊢
        cases hr with
        | iptr => exact ⟨_, rfl⟩
      obtain ⟨ad, hu⟩ := hu
      rw [hu] at hr hl
      exact wp_outv' (u := .pointer (some ad)) (by simp only [execOp, hop, hu]) (outv_val rfl h hr hl hs)
    · rename_i rr p hx
      rw [hx] at hr hl
      obtain ⟨b, off, hu⟩ := ptr_val hl
      rw [hu] at hr hl
      exact wp_outv' (u := .pointer (some ⟨b, off, none⟩)) (by simp only [execOp, hop, hu]) (outv_val rfl h hr hl hs)
    · rename_i f cs hx
      rw [hx] at hr hl
      have hu : ∃ caps, a.eval x = .func (.func f) #[] caps := by
        generalize a.eval x = u at hr ⊢
        cases hr with
        | fn => exact ⟨_, rfl⟩
      obtain ⟨caps, hu⟩ := hu
      rw [hu] at hr hl
      exact wp_outv' (u := .func (.func f) #[] caps) (by simp only [execOp, hop, hu]) (outv_val rfl h hr hl hs)
    · cases hs
  | binOp op t x y d =>
    rw [hop] at hs
    obtain ⟨v, u, h1, h2, h3, h4⟩ := evBin_sem (P := P) (ox := x) (oy := y) hE (opnd_spec h x).1 (opnd_spec h y).1 hs
    exact wp_outv (s := do eqGuard op t x y (a.eval x) (a.eval y); binOp op t (a.eval x) (a.eval y)) (by simp only [execOp, hop]) (by rw [h4]; exact outv_val rfl h h3 (h3.link h2) h1)
  | unOp op t x =>
    rw [hop] at hs
    exact wp_outv (by simp only [execOp, hop]) (unOp_out h hs)
  | convert s d x =>
    rw [hop] at hs
    exact wp_outv (by simp only [execOp, hop]) (convert_out hE h hs)
  | makeFunc f first caps =>
    rw [hop] at hs
    exact wp_outv (by simp only [execOp, hop]) (makeFunc_out h hs)
  | makeSlice t l c =>
    rw [hop] at hs
    exact wp_outv (by simp only [execOp, hop]) (makeSlice_out (fun i hi => hE.ty _ i hi) h hs)
  | slice t x lo hi mx =>
    rw [hop] at hs
    exact wp_outv (by simp only [execOp, hop]) (slice_out hE h hs)
  | fieldAddr t x f =>
    rw [hop] at hs
    exact wp_outv (by simp only [execOp, hop]) (fieldAddr_out hE h hs)
  | field t x f =>
    rw [hop] at hs
    exact wp_outv (by simp only [execOp, hop]) (field_out hE h hs)
  | indexAddr t x ix =>
    rw [hop] at hs
    exact wp_outv (by simp only [execOp, hop]) (indexAddr_out hE h hs)
  | index t x ix =>
    rw [hop] at hs
    exact wp_outv (by simp only [execOp, hop]) (index_out hE h hs)
  | extract x i =>
    rw [hop] at hs
    exact wp_outv (by simp only [execOp, hop]) (extract_out h hs)
  | call c =>
    rw [hop] at hs
    dsimp only at hs
    split at hs
    · rename_i b hb
      have hex : ∀ {s : Sem Value}, (builtin b c.argTypes o.type (c.args.map fun | .const _ => true | _ => false) (c.args.map a.eval) = do pure (.value (← s))) → execOp a.eval o = (do pure (.value (← s))) := by
        intro s hs'
        simp only [execOp, hop, resolve, hb, pure_bind, invoke]
        exact hs'
      have hargs : ∀ {l : List Operand}, c.args.toList = l → c.args.map a.eval = (l.map a.eval).toArray := by
        intro l hl
        rw [← hl]
        apply Array.ext'
        rw [Array.toList_map]
      have htys : ∀ {l : List Nat}, c.argTypes.toList = l → c.argTypes = l.toArray := by
        intro l hl
        rw [← hl]
      unfold evBuiltin at hs
      split at hs
      · rename_i t ts x e1 e2
        exact wp_outv (hex (by rw [hargs e2, htys e1]; rfl)) (len_out (ats := ts) hE h hs)
      · rename_i x rest e2
        exact wp_outv (hex (by rw [hargs e2]; rfl)) (min_out h hs)
      · rename_i x rest e2
        exact wp_outv (hex (by rw [hargs e2]; rfl)) (max_out h hs)
      · rename_i t u x y e1 e2
        exact wp_outv (hex (by rw [hargs e2, htys e1]; rfl)) (append_out hE h hs)
      · rename_i t ts x y e1 e2
        exact wp_outv (hex (by rw [hargs e2, htys e1]; rfl)) (copy_out (ats := ts) hE h hs)
      · cases hs
    · rename_i f hf
      split at hs
      · rename_i g caps hg
        exact hcall c f g caps hop hf hg hs
      · cases hs
    · cases hs
  | _ => rw [hop] at hs; cases hs

end
end Go.Zv
