/- Zv: calls: the call of a function that moves, shares and lends. No condition. -/
import Derived.Test.YtdddbifjkkhpbaaGreatDoorZvCall3
namespace Go.Zv
open Go

section
variable {R : Type} {P : Program} {E : Env} {r : R} {K : List V → Option R} {S S' : Nat → Prop} {who who' : Nat → Option Nat} {w w' : World} {a : Act} {dst : Option Nat} {σ σ' : List V}

theorem distinct_cons {x : Nat} {xs : List Nat} (h : distinct (x :: xs) = true) : x ∉ xs ∧ distinct xs = true := by
  simp only [distinct, Bool.and_eq_true, Bool.not_eq_true'] at h
  refine ⟨fun hc => ?_, h.2⟩
  rw [List.contains_iff_mem.2 hc] at h
  exact absurd h.1 (by simp)

/-- What comes back, root by root. -/
theorem back_wn {tm : Array Value} : ∀ {xs : List V} {us : List Value} {ys : List V} {O : List Nat}, Reps S' w' us ys O → O.Nodup → (∀ y ∈ us.zip xs, LentOK tm y.1 y.2) → distinct (lent xs) = true →
    ∃ wn : Nat → Option Nat, (∀ i y, backOf xs ys i = some y → ∃ O, Rep S' w' (tm.getD i undef) y O ∧ O.Nodup ∧ ∀ b ∈ O, wn b = some i) ∧ ∀ b i, wn b = some i → b ∈ O ∧ i ∈ lent xs
  | [], us, ys, O, h, hn, hok, hd => ⟨fun _ => none, by intro i y hb; cases ys <;> simp [backOf] at hb, by simp⟩
  | x :: xs, _, _, _, .nil, hn, hok, hd => ⟨fun _ => none, by intro i y hb; simp [backOf] at hb, by simp⟩
  | x :: xs, u :: us, y :: ys, _, .cons (O1 := O1) (O2 := O2) h1 h2, hn, hok, hd => by
    rw [List.nodup_append] at hn
    obtain ⟨hn1, hn2, hdis⟩ := hn
    have hdl : distinct (lent xs) = true := by
      cases x <;> first | exact hd | exact (distinct_cons hd).2
    obtain ⟨wn, g1, g2⟩ := back_wn h2 hn2 (fun z hz => hok z (by simp [hz])) hdl
    have h0 := hok (u, x) (by simp)
    have step : ∀ {r : Nat}, lent (x :: xs) = r :: lent xs → u = tm.getD r undef → (∀ i, backOf (x :: xs) (y :: ys) i = if r = i then some y else backOf xs ys i) →
        ∃ wn : Nat → Option Nat, (∀ i y', backOf (x :: xs) (y :: ys) i = some y' → ∃ O, Rep S' w' (tm.getD i undef) y' O ∧ O.Nodup ∧ ∀ b ∈ O, wn b = some i) ∧ ∀ b i, wn b = some i → b ∈ O1 ++ O2 ∧ i ∈ lent (x :: xs) := by
      intro r hl hu hb
      refine ⟨fun b => if b ∈ O1 then some r else wn b, fun i y' hy => ?_, fun b i hbi => ?_⟩
      · rw [hb i] at hy
        by_cases hri : r = i
        · subst hri
          rw [if_pos rfl, Option.some.injEq] at hy
          subst hy
          exact ⟨O1, by rw [← hu]; exact h1, hn1, fun b hb => by simp [hb]⟩
        · rw [if_neg hri] at hy
          obtain ⟨O, k1, k2, k3⟩ := g1 i y' hy
          refine ⟨O, k1, k2, fun b hb => ?_⟩
          have h3 := k3 b hb
          have h4 : b ∉ O1 := fun hc => hdis b hc b (g2 b i h3).1 rfl
          simp [h4, h3]
      · by_cases h4 : b ∈ O1
        · simp only [h4, if_true, Option.some.injEq] at hbi
          subst hbi
          exact ⟨by simp [h4], by rw [hl]; simp⟩
        · simp only [h4, if_false] at hbi
          obtain ⟨k1, k2⟩ := g2 b i hbi
          exact ⟨by simp [k1], by rw [hl]; simp [k2]⟩
    cases x
    case ptr r p => exact step rfl h0.2 (fun _ => rfl)
    case ref r p => exact step rfl h0.2 (fun _ => rfl)
    all_goals exact ⟨wn, g1, fun b i hb => ⟨by simp [(g2 b i hb).1], (g2 b i hb).2⟩⟩

/-- What is lent, by value. -/
theorem lend_reps {tm : Array Value} (h : Rel E S who w tm σ) : ∀ {us : List Value} {xs : List V} {O : List Nat}, Reps S w us xs O → O.Nodup → (∀ b ∈ O, who b = none) → (∀ y ∈ us.zip xs, LentOK tm y.1 y.2) → distinct (lent xs) = true →
    ∃ O2, Reps S w us (lend σ xs) O2 ∧ O2.Nodup ∧ ∀ b ∈ O2, b ∈ O ∨ ∃ r ∈ lent xs, who b = some r
  | _, _, _, .nil, _, _, _, _ => ⟨[], .nil, by simp, by simp⟩
  | u :: us, x :: xs, _, .cons (O1 := O1) (O2 := O2) h1 h2, hn, hO, hok, hd => by
    rw [List.nodup_append] at hn
    obtain ⟨hn1, hn2, hdis⟩ := hn
    have hdl : distinct (lent xs) = true := by
      cases x <;> first | exact hd | exact (distinct_cons hd).2
    obtain ⟨O3, g1, g2, g3⟩ := lend_reps h h2 hn2 (fun b hb => hO b (by simp [hb])) (fun z hz => hok z (by simp [hz])) hdl
    have h0 := hok (u, x) (by simp)
    have stepL : ∀ {r : Nat}, lent (x :: xs) = r :: lent xs → lend σ (x :: xs) = gt σ r :: lend σ xs → u = tm.getD r undef →
        ∃ O2', Reps S w (u :: us) (lend σ (x :: xs)) O2' ∧ O2'.Nodup ∧ ∀ b ∈ O2', b ∈ O1 ++ O2 ∨ ∃ r ∈ lent (x :: xs), who b = some r := by
      intro r hl hle hu
      obtain ⟨Or, k1, k2, k3⟩ := h.rep r
      rw [hl] at hd
      have hnr := (distinct_cons hd).1
      rw [hle, hl]
      refine ⟨Or ++ O3, .cons (by rw [hu]; exact k1) g1, List.nodup_append.2 ⟨k2, g2, fun b hb c hc e => ?_⟩, fun b hb => ?_⟩
      · subst e
        have hw := k3 b hb
        rcases g3 b hc with h4 | ⟨r', hr', h4⟩
        · rw [hO b (by simp [h4])] at hw; cases hw
        · rw [hw] at h4; cases h4; exact hnr hr'
      · rcases List.mem_append.1 hb with hb | hb
        · exact .inr ⟨r, by simp, k3 b hb⟩
        · rcases g3 b hb with h4 | ⟨r', hr', h4⟩
          · exact .inl (by simp [h4])
          · exact .inr ⟨r', by simp [hr'], h4⟩
    have stepN : lent (x :: xs) = lent xs → lend σ (x :: xs) = x :: lend σ xs →
        ∃ O2', Reps S w (u :: us) (lend σ (x :: xs)) O2' ∧ O2'.Nodup ∧ ∀ b ∈ O2', b ∈ O1 ++ O2 ∨ ∃ r ∈ lent (x :: xs), who b = some r := by
      intro hl hle
      rw [hl, hle]
      refine ⟨O1 ++ O3, .cons h1 g1, List.nodup_append.2 ⟨hn1, g2, fun b hb c hc e => ?_⟩, fun b hb => ?_⟩
      · subst e
        rcases g3 b hc with h4 | ⟨r', hr', h4⟩
        · exact hdis b hb b h4 rfl
        · rw [hO b (by simp [hb])] at h4; cases h4
      · rcases List.mem_append.1 hb with hb | hb
        · exact .inl (by simp [hb])
        · rcases g3 b hb with h4 | ⟨r', hr', h4⟩
          · exact .inl (by simp [h4])
          · exact .inr ⟨r', hr', h4⟩
    cases x
    case ptr r p => exact stepL rfl rfl h0.2
    case ref r p => exact stepL rfl rfl h0.2
    all_goals exact stepN rfl rfl

theorem resOk_link {u : Value} {v : V} {O : List Nat} {tm : Array Value} (hr : Rep S w u v O) (h : resOk v = true) : Link w tm σ u v := by
  cases v <;> first | trivial | (simp only [resOk] at h; exact hr.link (by simp only [simple] at h; exact h)) | cases h

theorem call_lent {o : Oper} {c : Call} {f : Operand} {g : Nat} {caps : List V} {tys : List (Option TI)} {tk tn : List Nat} {Q : Exit → Act → World → Prop} (hC : CallOK P E) (h : Rel E S who w a.tmps σ) (hop : o.op = .call c) (hc : c.callee = .value f) (hx : opnd E σ f = .fn g caps)
    (hs : evArgs E tk tn ((callArgs c f caps.length).zip (tys ++ List.replicate ((callArgs c f caps.length).length - tys.length) none)) 0 [] σ (fun vals σ' =>
      cond (distinct (lent vals) && heldIn σ' vals) (E.call g (lend σ' vals) fun res outs =>
        match restore vals outs σ' with
          | some σ'' => cond (resOk res) (K (put o.dst res σ'')) none
          | none => none) none) = some r) : o.wp P a w (Post E r K S who w a) Q := by
  obtain ⟨cs, hf, hn⟩ := fn_val h hx
  obtain ⟨vals, σ1, S1, who1, O, hG, h1, hst, hreps, hL, hok⟩ := evArgs_sem (a := a) (who0 := who) tk tn _ [] h (by simpa using Reps.nil) (O := []) ⟨by simp, by simp⟩ (fun b hb => hb) (by simp) hs
  simp only [List.reverse_nil, List.map_nil, List.nil_append] at hreps hok
  dsimp only at hG
  have hvals : (((callArgs c f caps.length).zip (tys ++ List.replicate ((callArgs c f caps.length).length - tys.length) none)).map fun y => argU a y.1) = (c.args.map a.eval ++ cs).toList := by
    rw [← callArgs_vals hf hn]
    have := congrArg (List.map (argU a)) (zip_fst (xs := callArgs c f caps.length) (ys := tys ++ List.replicate ((callArgs c f caps.length).length - tys.length) none) (by simp; omega))
    rw [List.map_map] at this
    exact this
  rw [hvals] at hreps hok
  cases hd : distinct (lent vals) with
  | false => rw [hd] at hG; cases hG
  | true =>
  cases hheld : heldIn σ1 vals with
  | false => rw [hd, hheld] at hG; cases hG
  | true =>
  rw [hd, hheld] at hG
  simp only [Bool.and_true, cond_true] at hG
  obtain ⟨res, outs, hG, hdoes⟩ := hC _ _ _ _ _ hG
  cases hrest : restore vals outs σ1 with
  | none => rw [hrest] at hG; cases hG
  | some σ2 =>
  rw [hrest] at hG
  cases hrk : resOk res with
  | false => rw [hrk] at hG; cases hG
  | true =>
  rw [hrk] at hG
  simp only [cond_true] at hG
  obtain ⟨O2, hr2, hn2, hO2⟩ := lend_reps h1 hreps hL.1 (fun b hb => (hL.2 b hb).1) hok hd
  have hapart : ∀ b ∈ O2, ¬ S1 b := fun b hb hs1 => by
    rcases hO2 b hb with h3 | ⟨r', _, h3⟩
    · exact (hL.2 b h3).2.1 hs1
    · rw [h1.sep b hs1] at h3; cases h3
  have hgo := hdoes S1 w _ O2 ⟨hr2, hn2, hapart, h1.low, h1.glob⟩
  rw [Array.toArray_toList] at hgo
  refine wp_goes hop hc hf hgo fun v w' hT => ?_
  obtain ⟨S', Or, Oo, hB⟩ := hT
  have hnd := List.nodup_append.1 hB.nodup
  obtain ⟨wn, k1, k2⟩ := back_wn hB.outs hnd.2.1 hok hd
  have hfrom : ∀ b ∈ O2, who b ≠ none := fun b hb => by
    rcases hO2 b hb with h3 | ⟨r', _, h3⟩
    · exact (hL.2 b h3).2.2
    · rcases hst.own b (by rw [h3]; simp) with h4 | h4
      · exact h4
      · have := h1.lowO b r' h3; omega
  have hnew0 : ∀ b, w.heap.size ≤ b → who1 b = none := fun b hb => by
    cases e : who1 b with
    | none => rfl
    | some x => have := h1.lowO b x e; omega
  have hlentO : ∀ b ∈ O2, who1 b = none ∨ ∃ r ∈ lent vals, who1 b = some r := fun b hb => by
    rcases hO2 b hb with h3 | h3
    · exact .inl (hL.2 b h3).1
    · exact .inr h3
  have hrel : Rel E S' (whoBack vals who1 wn) w' a.tmps σ2 := by
    refine h1.swap hrest hd hheld k1 (fun b i hb => ?_) (fun b hb hnl hso => ?_) hB.size hB.sub (fun b hb => ?_) hB.low
    · obtain ⟨hbo, hi⟩ := k2 b i hb
      obtain ⟨h3, h4⟩ := hB.apart b (by simp [hbo])
      refine ⟨h3, hB.outs.low b hbo, ?_⟩
      rcases h4 with h4 | h4
      · exact hlentO b h4
      · exact .inl (hnew0 b h4)
    · refine hB.keep b hb fun hc => ?_
      rcases hO2 b hc with h3 | ⟨r', hr', h3⟩
      · rcases hso with h4 | h4
        · exact (hL.2 b h3).2.1 h4
        · exact h4 (hL.2 b h3).1
      · exact hnl r' hr' h3
    · rcases hB.new b hb with h3 | h3 | h3
      · exact .inl (h1.sep b h3)
      · exact hlentO b h3
      · exact .inl (hnew0 b h3)
  have hstep : Step S who w S' (whoBack vals who1 wn) w' := by
    refine ⟨hB.size, fun b hb hnb => hB.keep b hb fun hc => hfrom b hc hnb, fun b hb => hB.sub b (hst.sub b hb), fun b hb => ?_, fun b hb => ?_, hB.same⟩
    · rcases hB.new b hb with h3 | h3 | h3
      · exact hst.new b h3
      · exact .inr (.inl (hfrom b h3))
      · exact .inr (.inr h3)
    · unfold whoBack at hb
      cases e : wn b with
      | some i =>
        rcases (hB.apart b (by simp [(k2 b i e).1])).2 with h4 | h4
        · exact .inl (hfrom b h4)
        · exact .inr h4
      | none =>
        rw [e] at hb
        refine hst.own b fun hc => ?_
        rw [hc] at hb
        exact hb rfl
  obtain ⟨u, w2, σ3, S2, who2, e1, e2, e3, e4⟩ : OutV E r K S who w a o.dst (.ok v w') :=
    outv_put rfl hrel hstep hB.res hnd.1 (fun b hb => by
      obtain ⟨h3, h4⟩ := hB.apart b (by simp [hb])
      refine ⟨⟨?_, h3⟩, h4.imp (hfrom b) id⟩
      have hwn : wn b = none := by
        cases e : wn b with
        | none => rfl
        | some i => exact absurd rfl (hnd.2.2 b hb b (k2 b i e).1)
      unfold whoBack
      rw [hwn]
      rcases h4 with h4 | h4
      · rcases hlentO b h4 with h5 | ⟨r', hr', h5⟩
        · rw [h5]
        · rw [h5]; simp [hr']
      · rw [hnew0 b h4]) (resOk_link hB.res hrk) hG
  cases e1
  exact ⟨σ3, S2, who2, e2, e3, e4, put_defers _ _ _⟩

/-- **Every operation**, calls included. -/
theorem oper_sound {o : Oper} {Q : Exit → Act → World → Prop} (hE : EnvOK P E) (hC : CallOK P E) (h : Rel E S who w a.tmps σ) (hs : evOp E o σ K = some r) : o.wp P a w (Post E r K S who w a) Q := by
  refine evOp_sound hE h hs fun c f g caps hop hc hx hcall => ?_
  unfold evCall at hcall
  cases hfl : E.flat g with
  | true =>
    rw [hfl] at hcall
    exact Oper.wp_mono (fun _ _ h => h.1) (call_flat hC h hop hc hx hcall)
  | false =>
    rw [hfl] at hcall
    exact call_lent hC h hop hc hx hcall

end
end Go.Zv
