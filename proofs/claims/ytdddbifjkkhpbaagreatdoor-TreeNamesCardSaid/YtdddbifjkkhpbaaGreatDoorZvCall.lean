/- Zv: calls: what a function does, and the passing of arguments. No condition. -/
import Derived.Test.YtdddbifjkkhpbaaGreatDoorZvOp13
namespace Go.Zv
open Go

/-- Values that are handed to a function: O are the blocks that go with them. -/
structure Given (G : Nat → Option (List V)) (S : Nat → Prop) (w : World) (vs : List Value) (args : List V) (O : List Nat) : Prop where
  rep : Reps S w vs args O
  nodup : O.Nodup
  apart : ∀ b ∈ O, ¬ S b
  low : ∀ b, S b → b < w.heap.size
  glob : ∀ g cs, G g = some cs → S g ∧ Mem S w g 0 cs []

/-- What comes back. -/
structure Back (S : Nat → Prop) (w : World) (O : List Nat) (vs : List Value) (v : Value) (res : V) (outs : List V) (S' : Nat → Prop) (w' : World) (Or Oo : List Nat) : Prop where
  res : Rep S' w' v res Or
  outs : Reps S' w' vs outs Oo
  nodup : (Or ++ Oo).Nodup
  apart : ∀ b ∈ Or ++ Oo, ¬ S' b ∧ (b ∈ O ∨ w.heap.size ≤ b)
  size : w.heap.size ≤ w'.heap.size
  sub : ∀ b, S b → S' b
  new : ∀ b, S' b → S b ∨ b ∈ O ∨ w.heap.size ≤ b
  low : ∀ b, S' b → b < w'.heap.size
  keep : ∀ b, b < w.heap.size → b ∉ O → w'.heap[b]? = w.heap[b]?
  same : Same w w'

/-- A call comes back: by the program's own code, or by a function of the model. -/
def Goes (P : Program) (f : Nat) (args : Array Value) (w : World) (T : Value → World → Prop) : Prop :=
  ((callFunc f args).run P w = .ok (.enter f args) w ∧ Calls P f args w fun e w' => ∃ v, e = .returned v ∧ T v w') ∨
    ∃ v w', (callFunc f args).run P w = .ok (.value v) w' ∧ T v w'

/-- **What a function does**: from values that stand for args it comes back with one that stands for res, and leaves outs in its arguments. -/
def Does (P : Program) (G : Nat → Option (List V)) (f : Nat) (args : List V) (res : V) (outs : List V) : Prop :=
  ∀ (S : Nat → Prop) (w : World) (vs : List Value) (O : List Nat), Given G S w vs args O →
    Goes P f vs.toArray w fun v w' => ∃ S' Or Oo, Back S w O vs v res outs S' w' Or Oo

/-- The oracle tells what functions do. -/
def CallOK (P : Program) (E : Env) : Prop :=
  ∀ (R : Type) (f : Nat) (args : List V) (G : V → List V → Option R) (r : R), E.call f args G = some r → ∃ res outs, G res outs = some r ∧ Does P E.glob f args res outs

section
variable {R : Type} {P : Program} {E : Env} {r : R} {K : List V → Option R} {S S' : Nat → Prop} {who who' : Nat → Option Nat} {w w' : World} {a : Act} {dst : Option Nat} {σ σ' : List V}

def argU (a : Act) : Arg → Value
  | .op x => a.eval x
  | .cap f i => match a.eval f with
    | .func _ _ caps => caps.getD i undef
    | _ => undef
theorem Reps.getD {us : List Value} {xs : List V} (h : Reps S w us xs []) (j : Nat) : Rep S w (us.getD j undef) (xs.getD j .undef) [] := by
  by_cases hj : j < xs.length
  · obtain ⟨v, h1, h2⟩ := h.get hj
    rw [List.getD_eq_getElem?_getD, h1]; exact h2
  · rw [List.getD_eq_getElem?_getD (l := xs), List.getElem?_eq_none (by omega)]
    exact .undef _
theorem arg_spec (h : Rel E S who w a.tmps σ) (x : Arg) : Rep S w (argU a x) (argV E σ x) [] ∧ Link w a.tmps σ (argU a x) (argV E σ x) := by
  cases x with
  | op x => exact opnd_spec h x
  | cap f i =>
    obtain ⟨hr, hl⟩ := opnd_spec h f
    simp only [argU, argV]
    cases hx : opnd E σ f
    case fn g caps =>
      rw [hx] at hr hl
      obtain ⟨cs, h1, h2, h3⟩ := hl
      rw [h1] at hr ⊢
      cases hr with
      | fn hreps =>
        have := hreps.getD i
        have e : cs.toList.getD i undef = cs.getD i undef := by
          rw [Array.getD_eq_getD_getElem?, List.getD_eq_getElem?_getD, Array.getElem?_toList]
        rw [e] at this
        have hl1 := h3 i
        dsimp only
        cases hc : caps.getD i .undef
        case fn f' caps' => exact ⟨.undef _, trivial⟩
        all_goals (rw [hc] at hl1 this; exact ⟨this, hl1⟩)
    all_goals exact ⟨.undef _, trivial⟩

/-- All that is stable, or owned by the frame. -/
def Lent (S : Nat → Prop) (who : Nat → Option Nat) (b : Nat) : Prop := S b ∨ who b ≠ none

theorem readArg_sem {x : Arg} {ty : Option TI} {v : V} (h : Rel E S who w a.tmps σ) (hs : readArg E σ x ty = some v) : Rep (Lent S who) w (argU a x) v [] := by
  obtain ⟨hr, hl⟩ := arg_spec h x
  have hmono : ∀ {u : Value} {x : V}, Rep S w u x [] → Rep (Lent S who) w u x [] := fun h => h.mono (fun _ h => .inl h) (fun _ _ => rfl) (by simp)
  unfold readArg at hs
  split at hs
  · rename_i r0 p hx
    rw [hx] at hl
    split at hs
    · rename_i k b hk
      rcases place_sem hl hs with ⟨n, rows, X, hK, hf, hX⟩ | ⟨f, rows, hK, hf⟩
      · obtain ⟨O, hO, ho⟩ := hf.rep h
        have hown : Rep S w (argU a x) (.own n k rows) O := by
          rcases hX with rfl | ⟨rfl, rfl, rfl⟩
          · exact hO
          · generalize argU a x = u at hO ⊢
            cases hO; exact .own0 _ _ _
        have hz := froz_rep (S' := Lent S who) (d := 3) (fun _ h => .inl h) hown (fun b hb => .inr (by rw [ho b hb]; simp))
        split at hK
        · rename_i k2 f2 rows' he
          cases hK
          have e : froz 3 (.own n k rows) = .sl k false rows' := by
            simp only [froz] at he ⊢
            cases he; rfl
          rwa [e] at hz
        · cases hK
      · obtain ⟨O, hX, _⟩ := hf.rep h
        cases hK
        exact hmono ((hX.plain rfl (by simp)) ▸ hX)
    · cases hs
  · rename_i hx
    rw [hx] at hr
    split at hs
    · cases hs
      generalize argU a x = u at hr ⊢
      cases hr; exact .sl0 _ _ _ _ (by simp)
    · cases hs
  · cases hs
  · rename_i cs hx
    rw [hx] at hr
    cases hg : goodCells cs with
    | false => rw [hg] at hs; cases hs
    | true => rw [hg] at hs; cases hs; exact hmono hr
  · rename_i v' _ _ _ _
    cases hg : simple (argV E σ x) with
    | false => rw [hg] at hs; cases hs
    | true => rw [hg] at hs; cases hs; exact hmono hr

theorem readArgs_sem (h : Rel E S who w a.tmps σ) : ∀ {l : List (Arg × Option TI)} {args : List V}, readArgs E σ l = some args → Reps (Lent S who) w (l.map fun y => argU a y.1) args []
  | [], args, hs => by cases hs; exact .nil
  | (x, ty) :: l, args, hs => by
    simp only [readArgs] at hs
    cases e1 : readArg E σ x ty with
    | none => rw [e1] at hs; cases hs
    | some v =>
      rw [e1] at hs
      cases e2 : readArgs E σ l with
      | none => rw [e2] at hs; cases hs
      | some vs =>
        rw [e2] at hs
        cases hs
        simpa using Reps.cons (readArg_sem h e1) (readArgs_sem h e2)

theorem flat1_rep {u : Value} {v : V} {O : List Nat} (h : Rep S w u v O) (hf : flat1 v = true) : Rep S' w' u v [] := by
  cases v <;> first | (cases hf; done) | (cases h; constructor)
theorem flat1s_rep : ∀ {us : List Value} {vs : List V} {O : List Nat}, Reps S w us vs O → (vs.all fun c => flat1 c.strip) = true → Reps S' w' us vs []
  | _, _, _, .nil, _ => .nil
  | u :: _, x :: _, _, .cons h1 h2, hf => by
    simp only [List.all_cons, Bool.and_eq_true] at hf
    have h1' : Rep S' w' u x [] := by
      by_cases hc : ∃ y, x = .cl y
      · obtain ⟨y, rfl⟩ := hc
        cases h1 with
        | cl h1 => exact .cl (flat1_rep h1 hf.1)
      · have : x.strip = x := by cases x <;> first | rfl | exact absurd ⟨_, rfl⟩ hc
        rw [this] at hf
        exact flat1_rep h1 hf.1
    simpa using Reps.cons h1' (flat1s_rep h2 hf.2)
theorem flat2_rep {u : Value} {v : V} {O : List Nat} (h : Rep S w u v O) (hf : flat2 v = true) : Rep S' w' u v [] := by
  cases v
  case agg cs =>
    cases h with
    | agg h0 h => exact .agg h0 (flat1s_rep h hf)
  all_goals exact flat1_rep h hf
theorem flat2s_rep : ∀ {us : List Value} {vs : List V} {O : List Nat}, Reps S w us vs O → vs.all flat2 = true → Reps S' w' us vs []
  | _, _, _, .nil, _ => .nil
  | _, x :: _, _, .cons h1 h2, hf => by
    simp only [List.all_cons, Bool.and_eq_true] at hf
    simpa using Reps.cons (flat2_rep h1 hf.1) (flat2s_rep h2 hf.2)
theorem flatV_rep {u : Value} {v : V} {O : List Nat} (h : Rep S w u v O) (hf : flatV v = true) : Rep S' w' u v [] := by
  cases v
  case tup vs =>
    cases h with
    | tup h => exact .tup (flat2s_rep h hf)
  all_goals exact flat2_rep h hf

theorem wp_goes {o : Oper} {c : Call} {f : Operand} {g : Nat} {caps : Array Value} {T : Value → World → Prop} {next : Act → World → Prop} {Q : Exit → Act → World → Prop} (hop : o.op = .call c) (hc : c.callee = .value f)
    (hf : a.eval f = .func (.func g) #[] caps) (h : Goes P g (c.args.map a.eval ++ caps) w T) (hK : ∀ v w', T v w' → next (a.put o.dst v) w') : o.wp P a w next Q := by
  have hrun : (execOp a.eval o).run P w = (callFunc g (c.args.map a.eval ++ caps)).run P w := by
    simp only [execOp, hop, resolve, hc, Deferred.ofValue, hf, pure_bind, invoke, Array.empty_append]
  unfold Oper.wp
  rw [hrun]
  rcases h with ⟨h1, h2⟩ | ⟨v, w', h1, h2⟩
  · rw [h1]
    exact h2.mono fun e w' ⟨v, he, hT⟩ => by subst he; exact hK v w' hT
  · rw [h1]
    exact hK v w' h2

theorem callArgs_vals {c : Call} {f : Operand} {g : Nat} {cs : Array Value} {n : Nat} (hf : a.eval f = .func (.func g) #[] cs) (hn : cs.size = n) : (callArgs c f n).map (argU a) = (c.args.map a.eval ++ cs).toList := by
  have h1 : (List.range n).map (fun i => argU a (.cap f i)) = cs.toList := by
    apply List.ext_getElem?
    intro i
    by_cases hi : i < n
    · have h2 : i < cs.size := by omega
      simp [List.getElem?_map, List.getElem?_range hi, argU, hf, Array.getD_eq_getD_getElem?, Array.getElem?_eq_getElem h2]
    · rw [List.getElem?_eq_none (by simp; omega), List.getElem?_eq_none (by simp; omega)]
  unfold callArgs
  rw [List.map_append, List.map_map, List.map_map, Array.toList_append, Array.toList_map]
  congr 1
theorem zip_fst {α β : Type} : ∀ {xs : List α} {ys : List β}, xs.length ≤ ys.length → (xs.zip ys).map (·.1) = xs
  | [], _, _ => by simp
  | x :: xs, [], h => by simp at h
  | x :: xs, y :: ys, h => by simp [zip_fst (xs := xs) (ys := ys) (by simpa using h)]

theorem fn_val (h : Rel E S who w a.tmps σ) {f : Operand} {g : Nat} {caps : List V} (hx : opnd E σ f = .fn g caps) : ∃ cs, a.eval f = .func (.func g) #[] cs ∧ cs.size = caps.length := by
  obtain ⟨hr, hl⟩ := opnd_spec h f
  rw [hx] at hl
  obtain ⟨cs, h1, h2, _⟩ := hl
  exact ⟨cs, h1, h2⟩

theorem call_flat {o : Oper} {c : Call} {f : Operand} {g : Nat} {caps : List V} {tys : List (Option TI)} {Q : Exit → Act → World → Prop} (hC : CallOK P E) (h : Rel E S who w a.tmps σ) (hop : o.op = .call c) (hc : c.callee = .value f) (hx : opnd E σ f = .fn g caps)
    (hs : ((readArgs E σ ((callArgs c f caps.length).zip (tys ++ List.replicate ((callArgs c f caps.length).length - tys.length) none))).bind fun args =>
      E.call g args fun res _ => cond (flatV res) (K (put o.dst res σ)) none) = some r) : o.wp P a w (fun a' w' => Post E r K S who w a a' w' ∧ Grows w w') Q := by
  obtain ⟨cs, hf, hn⟩ := fn_val h hx
  cases e : readArgs E σ ((callArgs c f caps.length).zip (tys ++ List.replicate ((callArgs c f caps.length).length - tys.length) none)) with
  | none => rw [e] at hs; cases hs
  | some args =>
    rw [e] at hs
    simp only [Option.bind_some] at hs
    obtain ⟨res, outs, hG, hdoes⟩ := hC _ _ _ _ _ hs
    cases hfl : flatV res with
    | false => rw [hfl] at hG; cases hG
    | true =>
      rw [hfl] at hG
      simp only [cond_true] at hG
      have hreps := readArgs_sem h e
      have hvals : (((callArgs c f caps.length).zip (tys ++ List.replicate ((callArgs c f caps.length).length - tys.length) none)).map fun y => argU a y.1) = (c.args.map a.eval ++ cs).toList := by
        rw [← callArgs_vals hf hn]
        have := congrArg (List.map (argU a)) (zip_fst (xs := callArgs c f caps.length) (ys := tys ++ List.replicate ((callArgs c f caps.length).length - tys.length) none) (by simp; omega))
        rw [List.map_map] at this
        exact this
      rw [hvals] at hreps
      have hg := hdoes (Lent S who) w _ [] ⟨hreps, by simp, by simp, fun b hb => hb.elim (h.low b) (fun hn => by
        obtain ⟨x, e⟩ := Option.ne_none_iff_exists'.1 hn
        exact h.lowO b x e), fun g cs hg => by
        obtain ⟨h1, h2⟩ := h.glob g cs hg
        exact ⟨.inl h1, h2.mono (fun _ h => .inl h) (fun _ _ => rfl) (.inr rfl) (by simp)⟩⟩
      rw [Array.toArray_toList] at hg
      refine wp_goes hop hc hf hg fun v w' hT => ?_
      obtain ⟨S', Or, Oo, hB⟩ := hT
      have hgr : Grows w w' := ⟨hB.size, fun b hb => hB.keep b hb (by simp), hB.same⟩
      obtain ⟨u, w2, σ2, S2, who2, e1, e2, e3, e4⟩ : OutV E r K S who w a o.dst (.ok v w') :=
        outv_put rfl (h.grow hgr) ((Step.refl _ _ _).grow hgr) (flatV_rep hB.res hfl) (by simp) (by simp) ((flatV_rep (S' := S) (w' := w') hB.res hfl).link (by
          cases res <;> first | rfl | cases hfl)) hG
      cases e1
      exact ⟨⟨σ2, S2, who2, e2, e3, e4, put_defers _ _ _⟩, hgr⟩

end
end Go.Zv
