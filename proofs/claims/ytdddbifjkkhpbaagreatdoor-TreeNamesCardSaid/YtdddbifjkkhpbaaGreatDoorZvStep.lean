/- Zv: one operation with its guard; steps on parts of a state. No condition. -/
import Derived.Test.YtdddbifjkkhpbaaGreatDoorZvCalm
namespace Go.Zv
open Go

section
variable {R : Type} {E : Env} {r : R} {K : List V → Option R} {σ : List V}

theorem coerce_K {t : TK} {c : V} {G : V → Option R} (h : coerce t c G = some r) : ∃ v, G v = some r := by
  cases t <;> cases c <;> simp only [coerce, asInt, asBool, asStr, asSl, Option.bind_none, Option.bind_some, reduceCtorEq] at h <;> first
    | exact ⟨_, h⟩
    | (split at h <;> first | (simp only [Option.bind_some] at h; exact ⟨_, h⟩) | (simp at h))
    | (rename_i f caps; cases e : linkFree (.fn f caps) <;> rw [e] at h <;> first | exact ⟨_, h⟩ | cases h)
theorem evBin_K {op : BinOp} {t : Nat} {x y : V} {G : V → Option R} (h : evBin E op t x y G = some r) : ∃ v, G v = some r := by
  unfold evBin at h
  repeat' first
    | exact ⟨_, h⟩
    | (cases h; done)
    | split at h
    | (simp only [Option.bind_eq_some_iff] at h; obtain ⟨_, _, h⟩ := h; exact ⟨_, h⟩)
    | (cases e : E.eqs t <;> rw [e] at h)
    | dsimp only [cond] at h
theorem place_K {k r0 : Nat} {p : Path} {G : Bool → List (List V) → Option R} {I : Bool → List (List V) → Option R} (h : place k σ r0 p G I = some r) : (∃ n rows, G n rows = some r) ∨ ∃ f rows, I f rows = some r := by
  unfold place at h
  simp only [asOwn] at h
  repeat' first
    | exact .inl ⟨_, _, h⟩
    | exact .inr ⟨_, _, h⟩
    | (cases h; done)
    | split at h
    | (simp only [Option.bind_eq_some_iff] at h; obtain ⟨_, _, h⟩ := h; exact .inl ⟨_, _, h⟩)
theorem slen_K {k : Nat} {v : V} {G : Nat → Option R} (h : slen k σ v G = some r) : ∃ n, G n = some r := by
  unfold slen at h
  split at h
  · split at h
    · exact ⟨_, h⟩
    · cases h
  · exact ⟨_, h⟩
  · rcases place_K h with ⟨n, rows, h⟩ | ⟨f, rows, h⟩ <;> exact ⟨_, h⟩
  · cases h
theorem fill_K {places : Nat → Option (Nat × Nat)} {nest : Bool} : ∀ {l : List (Nat × Operand)} {cells : List V} {G : List V → List V → Option R}, (l.all fun p => !isRefV (opnd E σ p.2)) = true → fillCells places nest E l cells σ G = some r → ∃ cs, G cs σ = some r
  | [], cells, G, _, h => ⟨_, h⟩
  | (i, x) :: l, cells, G, hr, h => by
    simp only [List.all_cons, Bool.and_eq_true, Bool.not_eq_true'] at hr
    simp only [fillCells] at h
    split at h
    · cases h
    · rename_i off size hp
      have go : ∀ {cs : List V}, (if cs.length = size then (if off + size ≤ cells.length then fillCells places nest E l (setRange cells off cs) σ G else none) else none) = some r → ∃ cs, G cs σ = some r := by
        intro cs h
        split at h
        · split at h
          · exact fill_K (by simpa using hr.2) h
          · cases h
        · cases h
      unfold partCells at h
      split at h
      all_goals first
        | exact go h
        | (cases h; done)
        | (rename_i e; rw [e] at hr; simp [isRefV] at hr; done)
        | skip
      · rename_i cs e
        cases hg : goodCells cs with
        | true => rw [hg] at h; exact go h
        | false => rw [hg] at h; cases h
      · rename_i f caps e
        cases hg : caps.all isIptr with
        | true => rw [hg] at h; exact go h
        | false => rw [hg] at h; cases h
theorem bnd_K {v : Option V} {d : Int} {G : Int → Option R} (h : bnd v d G = some r) : ∃ n, G n = some r := by
  unfold bnd at h
  split at h
  · exact ⟨_, h⟩
  · simp only [Option.bind_eq_some_iff] at h
    obtain ⟨_, _, h⟩ := h
    exact ⟨_, h⟩
theorem cutAt_K {k : Nat} {rows : List (List V)} {lo hi mx : Option V} {G : V → List V → Option R} (h : cutAt k rows lo hi mx σ G = some r) : ∃ v, G v σ = some r := by
  unfold cutAt at h
  obtain ⟨n, h⟩ := bnd_K h
  obtain ⟨m, h⟩ := bnd_K h
  repeat' first
    | exact ⟨_, h⟩
    | (cases h; done)
    | split at h
    | (simp only [Option.bind_eq_some_iff] at h; obtain ⟨_, _, h⟩ := h)

theorem evOp_put {P : Program} (hC : CallOK P E) {o : Oper} (hp : putB E o σ = true) (h : evOp E o σ K = some r) : ∃ v, K (put o.dst v σ) = some r := by
  unfold evOp at h
  cases hfx : flag E.fixed o.dst with
  | true => rw [hfx] at h; cases h
  | false =>
  rw [hfx] at h
  simp only [cond_false] at h
  unfold putB at hp
  cases hop : o.op <;> rw [hop] at h hp <;> first | (cases hp; done) | skip
  case move x =>
    dsimp only at h hp
    split at h
    · rename_i e; rw [e] at hp; cases hp
    · exact ⟨_, h⟩
  case assign x =>
    dsimp only at h hp
    split at h
    · rename_i e; rw [e] at hp; cases hp
    · exact ⟨_, h⟩
  case pick c x y =>
    dsimp only at h
    split at h
    · split at h <;> exact ⟨_, h⟩
    · cases h
  case nilCheck x =>
    dsimp only at h
    split at h <;> first | exact ⟨_, h⟩ | cases h
  case unOp op t x =>
    dsimp only at h
    split at h <;> first | exact ⟨_, h⟩ | cases h
  case binOp op t x y d => exact evBin_K h
  case fieldAddr t x f =>
    dsimp only at h
    repeat' first
      | exact ⟨_, h⟩
      | (cases h; done)
      | split at h
  case field t x f =>
    dsimp only at h
    split at h
    · rename_i fs cs h1 h2
      split at h
      · rename_i off ft size hf
        cases e : (kindOf (E.tys ft)).isAgg with
        | true => rw [e] at h; exact ⟨_, h⟩
        | false =>
          rw [e] at h
          simp only [cond_false] at h
          split at h <;> exact coerce_K (G := fun v => K (put o.dst v σ)) h
      · cases h
    · cases h
  case indexAddr t x ix =>
    dsimp only at h
    split at h
    · cases h
    · split at h
      · split at h
        · exact ⟨_, h⟩
        · cases h
      · split at h
        · exact ⟨_, h⟩
        · cases h
      · split at h
        · split at h
          · exact ⟨_, h⟩
          · cases h
        · cases h
      · rcases place_K h with ⟨n, rows, h⟩ | ⟨f, rows, h⟩
        · split at h
          · exact ⟨_, h⟩
          · cases h
        · split at h
          · exact ⟨_, h⟩
          · cases h
      · cases h
  case index t x ix =>
    dsimp only at h
    split at h
    · cases h
    · split at h
      · split at h
        · exact ⟨_, h⟩
        · cases h
      · split at h
        · rename_i n k e cs _ _ _
          cases e2 : (kindOf (E.tys e)).isAgg with
          | true => rw [e2] at h; exact ⟨_, h⟩
          | false =>
            rw [e2] at h
            simp only [cond_false] at h
            split at h <;> exact coerce_K (G := fun v => K (put o.dst v σ)) h
        · cases h
      · cases h
  case extract x i =>
    dsimp only at h hp
    split at h
    · rename_i t
      split at h
      · rename_i vs e
        dsimp only at hp
        rw [e] at hp
        dsimp only at hp
        split at h
        · rename_i e2; rw [e2] at hp; cases hp
        · cases e3 : simple (vs.getD i .undef) with
          | true => rw [e3] at h; exact ⟨_, h⟩
          | false => rw [e3] at h; cases h
      · cases h
    · cases h
  case slice t x lo hi mx =>
    dsimp only at h hp
    unfold evSlice at h
    split at h
    · split at h
      · cases h
      · obtain ⟨n, h⟩ := bnd_K h
        obtain ⟨m, h⟩ := bnd_K h
        split at h
        · split at h
          · exact ⟨_, h⟩
          · cases h
        · cases h
    · unfold share at h
      split at h
      · split at h
        · exact cutAt_K (G := fun v σ' => K (put o.dst v σ')) h
        · cases h
      · exact cutAt_K (G := fun v σ' => K (put o.dst v σ')) h
      · rename_i e; rw [e] at hp; cases hp
      · cases h
    · split at h
      · exact cutAt_K (G := fun v σ' => K (put o.dst v σ')) h
      · cases h
    · rename_i e; rw [e] at hp; cases hp
    · cases h
  case build t parts =>
    dsimp only at h hp
    split at h
    · split at h
      · obtain ⟨cs, h⟩ := fill_K (G := fun cs σ' => K (put o.dst (.agg cs) σ')) hp h
        exact ⟨_, h⟩
      · obtain ⟨cs, h⟩ := fill_K (G := fun cs σ' => K (put o.dst (.agg cs) σ')) hp h
        exact ⟨_, h⟩
      · cases h
    · cases h
  case load t x =>
    dsimp only at h hp
    unfold load at h
    split at h
    · cases h
    · rename_i i hi
      rw [hi] at hp
      dsimp only at hp
      split at h
      · cases e : i.kind.isAgg <;> rw [e] at h <;> simp only [cond_true, cond_false] at h <;> split at h <;> first
          | exact ⟨_, h⟩
          | exact coerce_K (G := fun v => K (put o.dst v σ)) h
          | cases h
      · rename_i r0 p hx
        rw [hx] at hp
        dsimp only at hp
        split at h
        · rename_i j off cells h1 h2
          rw [h1, h2] at hp
          dsimp only at hp
          cases e : i.kind.isAgg with
          | true =>
            rw [e] at h hp
            simp only [cond_true, Bool.not_true, Bool.false_or, Bool.not_eq_true'] at h hp
            split at h
            · cases hg : goodCells (shareCells ((cells.drop off).take i.size)) with
              | false => rw [hg] at h; cases h
              | true =>
                rw [hg, hp] at h
                exact ⟨_, h⟩
            · cases h
          | false =>
            rw [e] at h
            simp only [cond_false] at h
            unfold loadCell at h
            repeat' first
              | exact ⟨_, h⟩
              | (cases h; done)
              | exact coerce_K (G := fun v => K (put o.dst v σ)) h
              | split at h
        · rename_i j off nest k rows h1 h2
          cases e : i.kind.isAgg with
          | true =>
            rw [e] at h
            simp only [cond_true] at h
            cases nest with
            | true => cases h
            | false =>
              simp only [cond_false] at h
              split at h
              · exact ⟨_, h⟩
              · cases h
          | false =>
            rw [e] at h
            simp only [cond_false] at h
            repeat' first
              | exact ⟨_, h⟩
              | (cases h; done)
              | exact coerce_K (G := fun v => K (put o.dst v σ)) h
              | split at h
        · cases h
      · cases h
  case call c =>
    dsimp only at h hp
    split at h
    · rename_i b hb
      rw [hb] at hp
      cases b <;> first | (cases hp; done) | skip
      unfold evBuiltin at h
      split at h <;> first | contradiction | skip
      · repeat' first
          | exact ⟨_, h⟩
          | (cases h; done)
          | (simp only [Option.bind_eq_some_iff] at h; obtain ⟨_, _, h⟩ := h; exact ⟨_, h⟩)
          | (obtain ⟨_, h⟩ := slen_K h; exact ⟨_, h⟩)
          | split at h
    · rename_i f hf
      rw [hf] at hp
      dsimp only at hp
      split at h
      · rename_i g caps hx
        rw [hx] at hp
        dsimp only at hp
        unfold evCall at h
        rw [hp] at h
        simp only [cond_true, Option.bind_eq_some_iff] at h
        obtain ⟨args, _, h⟩ := h
        obtain ⟨res, outs, h, _⟩ := hC _ _ _ _ _ h
        cases e : flatV res with
        | true => rw [e] at h; exact ⟨_, h⟩
        | false => rw [e] at h; cases h
      · cases h
    · cases h
end

theorem set_same {σ : List V} {d : Nat} {v : V} (h : gt σ d = v) (hv : v ≠ .undef) : σ.set d v = σ := by
  apply List.ext_getElem?
  intro i
  by_cases hi : d = i
  · subst hi
    by_cases hd : d < σ.length
    · rw [List.getElem?_set_self hd]
      unfold gt at h
      rw [List.getD_eq_getElem?_getD, List.getElem?_eq_getElem hd] at h
      rw [List.getElem?_eq_getElem hd, ← h]; rfl
    · rw [gt_len (by omega)] at h
      exact absurd h.symm hv
  · rw [List.getElem?_set_ne hi]

section
variable {R : Type} {P : Program} {E : Env} {r : R} {K : List V → Option R} {S : Nat → Prop} {who : Nat → Option Nat} {w : World} {a : Act} {σ : List V} {ops : Array Oper}

/-- What holds behind an operation with its guard. -/
def Gone (P : Program) (E : Env) (r : R) (K : List V → Option R) (S : Nat → Prop) (who : Nat → Option Nat) (w : World) (ops : Array Oper) (o : Oper) (a : Act) (Q : Exit → Act → World → Prop) : Prop :=
  if Region.wanted o (yielded ops a.tmps) then o.wp P a w (Post E r K S who w a) Q else Post E r K S who w a (a.put o.dst undef) w

theorem yielded_bool (h : Rel E S who w a.tmps σ) {j d : Nat} {b : Bool} (hd : (ops[j]?).bind (·.dst) = some d) (hg : gt σ d = .bool b) : yielded ops a.tmps j = some b := by
  obtain ⟨O, hO, _⟩ := h.rep d
  rw [hg] at hO
  have hv : a.tmps.getD d undef = .bool b := by generalize a.tmps.getD d undef = u at hO ⊢; cases hO; rfl
  unfold yielded
  rw [hd]
  rw [Array.getD_eq_getD_getElem?] at hv
  cases e : a.tmps[d]? with
  | none => rw [e] at hv; cases hv
  | some x => rw [e] at hv; simp only [Option.getD_some] at hv; subst hv; simp [e]
theorem yielded_unit (h : Rel E S who w a.tmps σ) {j d : Nat} (hd : (ops[j]?).bind (·.dst) = some d) (hg : gt σ d = .tup []) : yielded ops a.tmps j = none := by
  obtain ⟨O, hO, _⟩ := h.rep d
  rw [hg] at hO
  have hv : ∃ cs, a.tmps.getD d undef = .tuple cs := by generalize a.tmps.getD d undef = u at hO ⊢; cases hO; exact ⟨_, rfl⟩
  obtain ⟨cs, hv⟩ := hv
  unfold yielded
  rw [hd]
  rw [Array.getD_eq_getD_getElem?] at hv
  cases e : a.tmps[d]? with
  | none => simp [e]
  | some x => rw [e] at hv; simp only [Option.getD_some] at hv; subst hv; simp [e]
theorem post_unit (h : Rel E S who w a.tmps σ) {dst : Option Nat} (hK : K (put dst (.tup []) σ) = some r) : Post E r K S who w a (a.put dst undef) w := by
  obtain ⟨u, w2, σ2, S2, who2, e1, e2, e3, e4⟩ : OutV E r K S who w a dst (.ok undef w) := outv_val (v := .tup []) rfl h (.tup .nil) trivial hK
  cases e1
  exact ⟨σ2, S2, who2, e2, e3, e4, put_defers _ _ _⟩

theorem gstep_fixed {o : Oper} (hs : gstep E ops o σ K = some r) : flag E.fixed o.dst = false := by
  unfold gstep at hs
  cases e : flag E.fixed o.dst with
  | false => rfl
  | true => rw [e] at hs; cases hs
theorem gstep_cases {o : Oper} (h : Rel E S who w a.tmps σ) (hs : gstep E ops o σ K = some r) :
    (Region.wanted o (yielded ops a.tmps) = true ∧ evOp E o σ K = some r) ∨ (Region.wanted o (yielded ops a.tmps) = false ∧ K (put o.dst (.tup []) σ) = some r) := by
  unfold gstep at hs
  rw [gstep_fixed hs] at hs
  simp only [cond_false, evOpF_eq] at hs
  split at hs
  · rename_i hg
    exact .inl ⟨by simp [Region.wanted, hg], hs⟩
  · rename_i j want hg
    split at hs
    · cases hs
    · rename_i d hd
      split at hs
      · rename_i b hb
        have hy := yielded_bool h hd hb
        have hw : Region.wanted o (yielded ops a.tmps) = (b == want) := by
          simp only [Region.wanted, hg, hy]
          cases b <;> cases want <;> rfl
        cases b with
        | true =>
          rw [if_pos rfl, set_same hb (by simp)] at hs
          cases want with
          | true => exact .inl ⟨by rw [hw]; rfl, hs⟩
          | false => exact .inr ⟨by rw [hw]; rfl, hs⟩
        | false =>
          rw [if_neg (by simp), set_same hb (by simp)] at hs
          cases want with
          | true => exact .inr ⟨by rw [hw]; rfl, hs⟩
          | false => exact .inl ⟨by rw [hw]; rfl, hs⟩
      · rename_i hb
        refine .inr ⟨?_, hs⟩
        simp only [Region.wanted, hg, yielded_unit h hd hb]
        rfl
      · cases hs

theorem gstep_sound {o : Oper} {Q : Exit → Act → World → Prop} (hE : EnvOK P E) (hC : CallOK P E) (h : Rel E S who w a.tmps σ) (hs : gstep E ops o σ K = some r) : Gone P E r K S who w ops o a Q := by
  unfold Gone
  rcases gstep_cases h hs with ⟨h1, h2⟩ | ⟨h1, h2⟩
  · rw [if_pos h1]; exact oper_sound hE hC h h2
  · rw [if_neg (by simp [h1])]; exact post_unit h h2

/-- Parameters that are never assigned are as they were. -/
structure Fix (E : Env) (a a' : Act) : Prop where
  size : a'.tmps.size = a.tmps.size
  at_ : ∀ i, E.fixed.contains i = true → a'.tmps.getD i undef = a.tmps.getD i undef
theorem Fix.refl (E : Env) (a : Act) : Fix E a a := ⟨rfl, fun _ _ => rfl⟩
theorem Fix.trans {E : Env} {a a1 a2 : Act} (h : Fix E a a1) (h' : Fix E a1 a2) : Fix E a a2 := ⟨h'.size.trans h.size, fun i hi => (h'.at_ i hi).trans (h.at_ i hi)⟩
theorem Fix.put {E : Env} {a a' : Act} {dst : Option Nat} {v : Value} (hf : flag E.fixed dst = false) (ht : a'.tmps = (a.put dst v).tmps) : Fix E a a' := by
  refine ⟨by rw [ht]; cases dst <;> simp [Act.put], fun i hi => ?_⟩
  rw [ht]
  cases dst with
  | none => rfl
  | some d =>
    show (a.tmps.setIfInBounds d v).getD i undef = _
    rw [getD_setIfInBounds, if_neg]
    rintro ⟨rfl, _⟩
    simp only [flag] at hf
    rw [hf] at hi; cases hi
/-- Where a step leads. -/
def Led (E : Env) (S : Nat → Prop) (who : Nat → Option Nat) (w : World) (a : Act) (σ' : List V) (a' : Act) (w' : World) : Prop :=
  ∃ S' who', Rel E S' who' w' a'.tmps σ' ∧ Step S who w S' who' w' ∧ a'.defers = a.defers ∧ Fix E a a'
theorem Led.post {E : Env} {S0 : Nat → Prop} {who0 : Nat → Option Nat} {w0 : World} {a0 : Act} {R : Type} {r : R} {K : List V → Option R} {S : Nat → Prop} {who : Nat → Option Nat} {w : World} {a : Act} {a' : Act} {w' : World}
    (hst : Step S0 who0 w0 S who w) (hd : a.defers = a0.defers) (hfx : Fix E a0 a) (hp : Post E r K S who w a a' w') (hf : Fix E a a') : ∃ σ', K σ' = some r ∧ Led E S0 who0 w0 a0 σ' a' w' := by
  obtain ⟨σ', S', who', g1, g2, g3, g4⟩ := hp
  exact ⟨σ', g1, S', who', g2, hst.trans g3, g4.trans hd, hfx.trans hf⟩
end
end Go.Zv
