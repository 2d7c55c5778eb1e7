/- Zv: the soundness of a function's body. No condition. -/
import Derived.Test.YtdddbifjkkhpbaaGreatDoorZvCode
namespace Go.Zv
open Go

section
variable {R : Type} {P : Program} {E : Env} {r : R} {S : Nat → Prop} {who who0 : Nat → Option Nat} {w : World} {a : Act} {σ : List V}

/-- A result. -/
def resRun (tm : Array Value) : ResultVar → Sem Value
  | .tmp t => pure (tm.getD t undef)
  | .cell a t => do loadVar t (← asAddr (tm.getD a undef))

def ResOut (P : Program) (E : Env) (r : R) (G : V → List V → Option R) (S : Nat → Prop) (who : Nat → Option Nat) (w : World) (tm : Array Value) (x : ResultVar) : Prop :=
  ∃ u v σ' S' who' O, (resRun tm x).run P w = .ok u w ∧ G v σ' = some r ∧ Rel E S' who' w tm σ' ∧ Step S who w S' who' w ∧ Rep S' w u v O ∧ O.Nodup ∧ ∀ b ∈ O, who b ≠ none ∧ who' b = none ∧ ¬ S' b

theorem resOne_sem (hE : EnvOK P E) (x : ResultVar) {G : V → List V → Option R} (h : Rel E S who w a.tmps σ) (hs : resOne E σ x G = some r) : ResOut P E r G S who w a.tmps x := by
  have plain : ∀ {u : Value} {v : V} {σ' : List V} {S' : Nat → Prop} {who' : Nat → Option Nat}, (resRun a.tmps x).run P w = .ok u w → Rel E S' who' w a.tmps σ' → Step S who w S' who' w → (∃ O, Rep S' w u v O) → cond (simple v) (G v σ') none = some r →
      ResOut P E r G S who w a.tmps x := by
    intro u v σ' S' who' h1 h2 h3 h4 h5
    obtain ⟨O, h4⟩ := h4
    cases e : simple v with
    | false => rw [e] at h5; cases h5
    | true =>
      rw [e] at h5
      obtain ⟨p1, p2, p3⟩ := simple_cont e
      have := h4.plain p1 p2
      subst this
      exact ⟨u, v, σ', S', who', [], h1, h5, h2, h3, h4, by simp, by simp⟩
  cases x with
  | tmp t =>
    simp only [resOne] at hs
    obtain ⟨O, hO, _⟩ := h.rep t
    split at hs
    · rename_i n k rows hg
      have hf : Follow w (a.tmps.getD t undef) (gt σ t) [] (a.tmps.getD t undef) (gt σ t) := .nil _ _
      obtain ⟨OX, who', g1, g2, g3, g4, g5⟩ := take_sem h hf (by rw [hg]; simp)
      rw [hg] at g1
      exact ⟨_, _, _, S, who', OX, rfl, hs, g4, g5, g1, g2, g3⟩
    · exact plain rfl h (Step.refl _ _ _) ⟨O, hO⟩ hs
  | cell ad t =>
    simp only [resOne] at hs
    obtain ⟨hr, hl⟩ := opnd_spec h (.tmp ad)
    obtain ⟨v, σ1, S1, who1, u1, g1, g2, g3, g4, g5, g6⟩ := load_sem (P := P) (hE.ty t) h hr hl hs
    have hrun : (resRun a.tmps (.cell ad t)).run P w = .ok u1 w := by
      have he : a.eval (.tmp ad) = a.tmps.getD ad undef := rfl
      rw [he] at g1
      unfold resRun
      unfold Instr.loadAt at g1
      rw [Sem.run_bind] at g1 ⊢
      cases e : a.tmps.getD ad undef <;> rw [e] at g1 <;> simp only [Instr.sureAddr, stuck, Sem.run, Result.andThen] at g1 <;> first | (cases g1; done) | skip
      case pointer p =>
        cases p with
        | none => simp only [stuck, Sem.run, Result.andThen] at g1; cases g1
        | some p => exact g1
    split at g2
    · rename_i r0 p
      split at g2
      · rename_i k b hk
        rcases place_sem g5 g2 with ⟨n, rows, X, hK, hf, hX⟩ | ⟨f, rows, hK, hf⟩
        · obtain ⟨OX, who2, q1, q2, q3, q4, q5⟩ := take_sem g3 hf (by rcases hX with rfl | ⟨rfl, _⟩ <;> simp)
          have hown : Rep S1 w u1 (.own n k rows) OX := by
            rcases hX with rfl | ⟨rfl, rfl, rfl⟩
            · exact q1
            · cases q1; exact .own0 _ _ _
          refine ⟨u1, _, _, S1, who2, OX, hrun, hK, q4, g6.trans q5, hown, q2, fun b hb => ⟨?_, (q3 b hb).2.1, (q3 b hb).2.2⟩⟩
          rcases g6.own b (q3 b hb).1 with h7 | h7
          · exact h7
          · have := q1.low b hb; omega
        · obtain ⟨O1, hX, _⟩ := hf.rep g3
          have := hX.plain rfl (by simp)
          subst this
          exact ⟨u1, _, _, S1, who1, [], hrun, hK, g3, g6, hX, by simp, by simp⟩
      · cases g2
    · exact plain hrun g3 g6 ⟨_, g4⟩ g2

theorem resAll_sem (hE : EnvOK P E) {G : List V → List V → Option R} : ∀ (l : List ResultVar) {S : Nat → Prop} {who : Nat → Option Nat} {σ : List V} (acc : List (Value × V)) {O : List Nat},
    Rel E S who w a.tmps σ → Reps S w (acc.reverse.map (·.1)) (acc.reverse.map (·.2)) O → Loose S who0 who O → (∀ b, who b ≠ none → who0 b ≠ none ∨ w.heap.size ≤ b) → resAll E l (acc.map (·.2)) σ G = some r →
    ∃ us vs σ' S' who' O', (l.mapM (resRun a.tmps)).run P w = .ok us w ∧ G vs σ' = some r ∧ Rel E S' who' w a.tmps σ' ∧ Step S who w S' who' w ∧ Reps S' w (acc.reverse.map (·.1) ++ us) vs O' ∧ Loose S' who0 who' O'
  | [], S, who, σ, acc, O, h, hr, hL, h0, hs => by
    refine ⟨[], acc.reverse.map (·.2), σ, S, who, O, rfl, by simpa [resAll, List.map_reverse] using hs, h, Step.refl _ _ _, by simpa using hr, hL⟩
  | x :: l, S, who, σ, acc, O, h, hr, hL, h0, hs => by
    simp only [resAll] at hs
    obtain ⟨u, v, σ1, S1, who1, O1, g1, g2, g3, g4, g5, g6, g7⟩ := resOne_sem hE x h hs
    have hlow := hr.low
    have hr1 : Reps S1 w ((((u, v) :: acc).reverse).map (·.1)) ((((u, v) :: acc).reverse).map (·.2)) (O ++ O1) := by
      have e1 : Reps S1 w [u] [v] O1 := by simpa using Reps.cons g5 .nil
      simpa using (hr.mono g4.sub (fun _ _ => rfl) (fun _ _ => rfl)).append e1
    have hL2 : Loose S1 who0 who1 (O ++ O1) := (hL.step g4 hlow).append ⟨g6, fun b hb => ⟨(g7 b hb).2.1, (g7 b hb).2.2, by
      rcases h0 b (g7 b hb).1 with h7 | h7
      · exact h7
      · have := g5.low b hb; omega⟩⟩ (fun b hb hc => (g7 b hc).1 (hL.2 b hb).1)
    obtain ⟨us, vs, σ', S', who', O', k1, k2, k3, k4, k5, k6⟩ := resAll_sem hE l ((u, v) :: acc) g3 hr1 hL2 (fun b hb => by
      rcases g4.own b hb with h7 | h7
      · exact h0 b h7
      · exact .inr h7) g2
    refine ⟨u :: us, vs, σ', S', who', O', ?_, k2, k3, g4.trans k4, by simpa using k5, k6⟩
    rw [List.mapM_cons]
    simp only [Sem.run_bind, g1, Result.andThen_ok, k1, Sem.run_pure]

def packU (us : List Value) : Value := match us with
  | [u] => u
  | us => .tuple us.toArray
theorem results_run {fn : Func} {us : List Value} (h : (fn.results.toList.mapM (resRun a.tmps)).run P w = .ok us w) :
    (results fn a.tmps).run P w = .ok (packU us) w := by
  have e : results fn a.tmps = (do let vs ← fn.results.mapM (resRun a.tmps); pure (if h : vs.size = 1 then vs[0] else .tuple vs) : Sem Value) := by
    unfold results
    congr 2
  rw [e, Array.mapM_eq_mapM_toList]
  have e2 : (do let vs ← (Array.mk <$> List.mapM (resRun a.tmps) fn.results.toList); pure (if h : vs.size = 1 then vs[0] else .tuple vs) : Sem Value) =
      (do let l ← List.mapM (resRun a.tmps) fn.results.toList; pure (if h : l.toArray.size = 1 then l.toArray[0] else .tuple l.toArray) : Sem Value) := by
    rw [map_eq_pure_bind, bind_assoc]
    simp only [pure_bind]
  first
    | rw [e2]
    | skip
  simp only [Sem.run_bind, h, Result.andThen_ok, Sem.run_pure]
  cases us with
  | nil => rfl
  | cons u us =>
    cases us with
    | nil => rfl
    | cons u2 us => simp [packU]

theorem pack_rep {us : List Value} {vs : List V} {O : List Nat} (h : Reps S w us vs O) : Rep S w (packU us) (pack vs) O := by
  cases h with
  | nil => exact .tup .nil
  | cons h1 h2 =>
    cases h2 with
    | nil => simp only [List.append_nil]; exact h1
    | cons h2 h3 => exact .tup (by simpa using Reps.cons h1 (.cons h2 h3))

/-- Who owns what at a function's beginning. -/
theorem enter_who {G : Nat → Option (List V)} {vs : List Value} {args : List V} {O : List Nat} (h : Reps S w vs args O) : O.Nodup → ∃ who : Nat → Option Nat,
    (∀ i, ∃ Oi, Rep S w (vs.getD i undef) (args.getD i .undef) Oi ∧ Oi.Nodup ∧ ∀ b ∈ Oi, who b = some i) ∧ ∀ b i, who b = some i → b ∈ O ∧ i < args.length := by
  intro hn
  induction args generalizing vs O with
  | nil =>
    cases h
    exact ⟨fun _ => none, fun i => ⟨[], by simpa using Rep.undef undef, by simp, by simp⟩, by simp⟩
  | cons x xs ih =>
    cases h with
    | @cons v _ vs _ O1 O2 h1 h2 =>
      rw [List.nodup_append] at hn
      obtain ⟨hn1, hn2, hd⟩ := hn
      obtain ⟨who, g1, g2⟩ := ih h2 hn2
      refine ⟨fun b => if b ∈ O1 then some 0 else (who b).map (· + 1), fun i => ?_, fun b i hb => ?_⟩
      · cases i with
        | zero => exact ⟨O1, by simpa using h1, hn1, fun b hb => by simp [hb]⟩
        | succ i =>
          obtain ⟨Oi, k1, k2, k3⟩ := g1 i
          refine ⟨Oi, by simpa using k1, k2, fun b hb => ?_⟩
          have h3 : b ∉ O1 := fun hc => hd b hc b (g2 b i (k3 b hb)).1 rfl
          simp [h3, k3 b hb]
      · by_cases hb1 : b ∈ O1
        · simp only [hb1, if_true, Option.some.injEq] at hb
          subst hb
          exact ⟨by simp [hb1], by simp⟩
        · simp only [hb1, if_false, Option.map_eq_some_iff] at hb
          obtain ⟨j, hj, rfl⟩ := hb
          exact ⟨by simp [(g2 b j hj).1], by simpa using (g2 b j hj).2⟩

theorem getD_pad {vs : List Value} {n i : Nat} : (vs.toArray ++ Array.replicate n undef).getD i undef = vs.getD i undef := by
  rw [Array.getD_eq_getD_getElem?, List.getD_eq_getElem?_getD]
  by_cases h : i < vs.length
  · rw [Array.getElem?_append_left (by simpa using h)]; simp
  · rw [Array.getElem?_append_right (by simpa using h), List.getElem?_eq_none (by omega)]
    simp only [Array.getElem?_replicate]
    split <;> rfl
theorem gt_pad {args : List V} {n i : Nat} : gt (args ++ List.replicate n .undef) i = gt args i := by
  unfold gt
  rw [List.getD_eq_getElem?_getD, List.getD_eq_getElem?_getD]
  by_cases h : i < args.length
  · rw [List.getElem?_append_left h]
  · rw [List.getElem?_append_right (by omega), List.getElem?_eq_none (l := args) (by omega), List.getElem?_replicate]
    split <;> rfl

theorem maskGo_reps {fixed : List Nat} {S' : Nat → Prop} {w' : World} {who' : Nat → Option Nat} {σ : List V} {tm : Array Value} (h : Rel E S' who' w' tm σ) : ∀ (vs : List Value) (k : Nat), k + vs.length ≤ σ.length → (∀ i, fixed.contains (k + i) = true → i < vs.length → tm.getD (k + i) undef = vs.getD i undef) →
    ∃ O, Reps S' w' vs ((((σ.drop k).take vs.length).zipIdx k).map fun (x : V × Nat) => cond (fixed.contains x.2) x.1 V.undef) O ∧ O.Nodup ∧ ∀ b ∈ O, ∃ i, who' b = some i ∧ k ≤ i
  | [], k, _, _ => ⟨[], by simpa using Reps.nil, by simp, by simp⟩
  | v :: vs, k, hl, hf => by
    obtain ⟨O2, g1, g2, g3⟩ := maskGo_reps h vs (k + 1) (by simp at hl; omega) (fun i hi hl => by
      have := hf (i + 1) (by rw [show k + (i + 1) = k + 1 + i by omega]; exact hi) (by simp; omega)
      rw [show k + (i + 1) = k + 1 + i by omega] at this
      simpa using this)
    have hhead : ∃ O1, Rep S' w' v (cond (fixed.contains k) (gt σ k) .undef) O1 ∧ O1.Nodup ∧ ∀ b ∈ O1, who' b = some k := by
      cases e : fixed.contains k with
      | false => exact ⟨[], .undef _, by simp, by simp⟩
      | true =>
        obtain ⟨O1, k1, k2, k3⟩ := h.rep k
        have := hf 0 (by rw [Nat.add_zero]; exact e) (by simp)
        simp only [Nat.add_zero, List.getD_cons_zero] at this
        rw [this] at k1
        exact ⟨O1, k1, k2, k3⟩
    obtain ⟨O1, k1, k2, k3⟩ := hhead
    refine ⟨O1 ++ O2, ?_, List.nodup_append.2 ⟨k2, g2, fun b hb c hc e => ?_⟩, fun b hb => ?_⟩
    · have heq : (((σ.drop k).take (v :: vs).length).zipIdx k).map (fun x : V × Nat => cond (fixed.contains x.2) x.1 V.undef) =
          cond (fixed.contains k) (gt σ k) .undef :: (((σ.drop (k + 1)).take vs.length).zipIdx (k + 1)).map (fun x : V × Nat => cond (fixed.contains x.2) x.1 V.undef) := by
        have hk : k < σ.length := by simp at hl; omega
        have e1 : σ.drop k = gt σ k :: σ.drop (k + 1) := by
          rw [List.drop_eq_getElem_cons hk]
          congr 1
          simp [gt, List.getD_eq_getElem?_getD, hk]
        rw [e1]
        rfl
      rw [heq]
      exact .cons k1 g1
    · subst e
      obtain ⟨i, h1, h2⟩ := g3 b hc
      rw [k3 b hb] at h1; cases h1; omega
    · rcases List.mem_append.1 hb with hb | hb
      · exact ⟨k, k3 b hb, Nat.le_refl _⟩
      · obtain ⟨i, h1, h2⟩ := g3 b hb
        exact ⟨i, h1, by omega⟩

/-- **A function's body.** -/
theorem runBody_sound (hE : EnvOK P E) (hC : CallOK P E) (hm : P.follows .mixedOrders = true) {f : Nat} {fn : Func} {c : Code} {n : Nat} {args outs : List V} {res : V} (hf : P.funcs[f]? = some fn) (hname : (fn.name == "runtime.NumGoroutine") = false) (hb : fn.body = some c) (hB : codeB E c = true)
    (hs : runBody E n fn c args = some (res, outs)) : Does P E.glob f args res outs := by
  intro S w vs O hG
  cases hlf : args.all linkFree with
  | false => unfold runBody at hs; rw [hlf] at hs; cases hs
  | true =>
  unfold runBody at hs
  rw [hlf] at hs
  simp only [cond_true] at hs
  have hlen : vs.length = args.length := hG.rep.len
  obtain ⟨who, hw1, hw2⟩ := enter_who (G := E.glob) hG.rep hG.nodup
  refine .inl ⟨by
    have h1 : fn.name ≠ "runtime.NumGoroutine" := by simpa using hname
    simp [callFunc, hf, h1, hb], calls_of_wp hf hb ?_⟩
  generalize ha : ({ tmps := vs.toArray ++ Array.replicate (fn.ntmps - vs.toArray.size) undef, defers := [] } : Act) = a0
  have htm : ∀ i, a0.tmps.getD i undef = vs.getD i undef := fun i => by rw [← ha]; exact getD_pad
  have hrel : Rel E S who w a0.tmps (args ++ List.replicate (fn.ntmps - args.length) .undef) := by
    refine ⟨by rw [← ha]; simp [hlen], fun i => ?_, fun b hb => ?_, hG.low, fun b i hb => hG.rep.low b (hw2 b i hb).1, fun i => ?_, hG.glob⟩
    · rw [htm, gt_pad]; exact hw1 i
    · cases e : who b with
      | none => rfl
      | some i => exact absurd hb (hG.apart b (hw2 b i e).1)
    · rw [htm, gt_pad]
      obtain ⟨Oi, h1, _⟩ := hw1 i
      by_cases hi : i < args.length
      · have hm : gt args i ∈ args := by
          unfold gt; rw [List.getD_eq_getElem?_getD, List.getElem?_eq_getElem hi]; simp
        exact h1.link (List.all_eq_true.1 hlf _ hm)
      · rw [gt_len (by omega)]; exact link_undef ..
  have hL : Led E S who w a0 (args ++ List.replicate (fn.ntmps - args.length) .undef) a0 w := ⟨S, who, hrel, Step.refl _ _ _, rfl, Fix.refl _ _⟩
  have hrun := run_sound hE hC hm hB hs hL
  refine Code.wp_mono (fun e a w' he => ?_) hrun
  have fin : ∀ {σ : List V}, (resAll E fn.results.toList [] σ fun vs σ' => some (pack vs, maskOuts E.fixed (σ'.take args.length))) = some (res, outs) → Led E S who w a0 σ a w' →
      a.defers = [] ∧ ∃ v, (results fn a.tmps).run P w' = .ok v w' ∧ ∃ v', Ending.returned v = .returned v' ∧ ∃ S' Or Oo, Back S w O vs v' res outs S' w' Or Oo := by
    intro σ hs hL
    obtain ⟨S1, who1, h1, h2, h3, h4⟩ := hL
    refine ⟨by rw [h3, ← ha], ?_⟩
    obtain ⟨us, vs', σ2, S2, who2, O2, k1, k2, k3, k4, k5, k6⟩ := resAll_sem (a := a) (w := w') (who0 := who1) hE fn.results.toList [] h1 (by simpa using Reps.nil) (O := []) ⟨by simp, by simp⟩ (fun b hb => .inl hb) hs
    simp only [Option.some.injEq, Prod.mk.injEq] at k2
    obtain ⟨rfl, rfl⟩ := k2
    simp only [List.reverse_nil, List.map_nil, List.nil_append] at k5
    refine ⟨_, results_run k1, _, rfl, S2, O2, ?_⟩
    have hl : vs.length ≤ σ2.length := by
      rw [← k3.size, h4.size, ← ha]; simp
    obtain ⟨Oo, q1, q2, q3⟩ := maskGo_reps (fixed := E.fixed) k3 vs 0 (by omega) (fun i hi _ => by
      rw [Nat.zero_add] at hi ⊢
      rw [h4.at_ i hi, htm])
    rw [List.drop_zero, hlen] at q1
    refine ⟨Oo, pack_rep k5, q1, List.nodup_append.2 ⟨k6.1, q2, fun b hb c hc e => ?_⟩, fun b hb => ?_, Nat.le_trans h2.size k4.size, fun b hb => k4.sub b (h2.sub b hb), fun b hb => ?_, k3.low, fun b hb hn => ?_, ?_⟩
    · subst e
      obtain ⟨i, h7, _⟩ := q3 b hc
      rw [(k6.2 b hb).1] at h7; cases h7
    · have hown : who1 b ≠ none → b ∈ O ∨ w.heap.size ≤ b := fun h => by
        rcases h2.own b h with h7 | h7
        · obtain ⟨i, hi⟩ := Option.ne_none_iff_exists'.1 h7
          exact .inl (hw2 b i hi).1
        · exact .inr h7
      rcases List.mem_append.1 hb with hb | hb
      · exact ⟨(k6.2 b hb).2.1, hown (k6.2 b hb).2.2⟩
      · obtain ⟨i, h7, _⟩ := q3 b hb
        refine ⟨(fun hs => by rw [k3.sep b hs] at h7; cases h7), ?_⟩
        rcases k4.own b (by rw [h7]; simp) with h8 | h8
        · exact hown h8
        · exact .inr (Nat.le_trans h2.size h8)
    · rcases k4.new b hb with h7 | h7 | h7
      · rcases h2.new b h7 with h8 | h8 | h8
        · exact .inl h8
        · obtain ⟨i, hi⟩ := Option.ne_none_iff_exists'.1 h8
          exact .inr (.inl (hw2 b i hi).1)
        · exact .inr (.inr h8)
      · rcases h2.own b h7 with h8 | h8
        · obtain ⟨i, hi⟩ := Option.ne_none_iff_exists'.1 h8
          exact .inr (.inl (hw2 b i hi).1)
        · exact .inr (.inr h8)
      · exact .inr (.inr (Nat.le_trans h2.size h7))
    · have hwn : who b = none := by
        cases e : who b with
        | none => rfl
        | some i => exact absurd (hw2 b i e).1 hn
      exact h2.keep b hb hwn
    · exact h2.out.trans k4.out
  cases e with
  | normal =>
    obtain ⟨σ, h1, h2⟩ := he
    exact fin h1 h2
  | ret =>
    obtain ⟨σ, h1, h2⟩ := he
    exact fin h1 h2
  | exit i =>
    obtain ⟨σ, h1, h2⟩ := he
    cases h1
  | _ => exact he.elim
end
end Go.Zv
