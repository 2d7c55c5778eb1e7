/- Zv: the soundness of code: regions, branches, loops. No condition. -/
import Derived.Test.YtdddbifjkkhpbaaGreatDoorZvPlan2
import Derived.LoopN
import Derived.Scope
namespace Go.Zv
open Go

/-- A region whose order is drawn, that is run in the order of its text. -/
def firstNot : List Oper → Nat
  | [] => 0
  | o :: rest => cond (calmB o) (firstNot rest + 1) 0
def stillB (ops : Array Oper) : Bool :=
  cond (Nat.ble ops.size (firstNot ops.toList)) (Region.lexB .any ops) (Region.lexTailB .any ops (firstNot ops.toList))
def codeB (E : Env) : Code → Bool
  | .region id ops draws => cond draws
      (match E.plan id with
        | some pl => planB ops pl
        | none => stillB ops)
      (match E.plan id with
        | some _ => false
        | none => true)
  | .seq x y => codeB E x && codeB E y
  | .cond _ x y => codeB E x && codeB E y
  | .block _ x => codeB E x
  | .loop x => codeB E x
  | .scope x => codeB E x
  | _ => true

theorem firstNot_calm : ∀ {l : List Oper}, ∀ o ∈ l.take (firstNot l), calmB o = true
  | [], o, h => by simp at h
  | x :: l, o, h => by
    unfold firstNot at h
    cases e : calmB x with
    | false => rw [e] at h; simp at h
    | true =>
      rw [e] at h
      simp only [cond_true, List.take_succ_cons, List.mem_cons] at h
      rcases h with rfl | h
      · exact e
      · exact firstNot_calm o h

section
variable {R : Type} {P : Program} {E : Env} {r : R} {S0 : Nat → Prop} {who0 : Nat → Option Nat} {w0 : World} {a0 : Act} {K : XE → List V → Option R}

/-- What holds where code ends. -/
def Ends (E : Env) (r : R) (K : XE → List V → Option R) (S0 : Nat → Prop) (who0 : Nat → Option Nat) (w0 : World) (a0 : Act) : Exit → Act → World → Prop
  | .normal, a, w => ∃ σ, K .normal σ = some r ∧ Led E S0 who0 w0 a0 σ a w
  | .exit i, a, w => ∃ σ, K (.exit i) σ = some r ∧ Led E S0 who0 w0 a0 σ a w
  | .ret, a, w => ∃ σ, K .ret σ = some r ∧ Led E S0 who0 w0 a0 σ a w
  | _, _, _ => False

theorem Led.drew {σ : List V} {a : Act} {w : World} (h : Led E S0 who0 w0 a0 σ a w) : Led E S0 who0 w0 a0 σ a { w with drawn := w.drawn + 1 } := by
  obtain ⟨S, who, h1, h2, h3, h4⟩ := h
  have hg : Grows w { w with drawn := w.drawn + 1 } := ⟨Nat.le_refl _, fun _ _ => rfl, ⟨rfl, rfl, rfl⟩⟩
  exact ⟨S, who, h1.grow hg, h2.trans ⟨Nat.le_refl _, fun _ _ _ => rfl, fun _ h => h, fun _ h => .inl h, fun _ h => .inl h, ⟨rfl, rfl, rfl⟩⟩, h3, h4⟩
theorem Led.keep {σ : List V} {a : Act} {w : World} (ks : List Nat) (h : Led E S0 who0 w0 a0 σ a w) : Led E S0 who0 w0 a0 (keepOnly ks σ) a w := by
  obtain ⟨S, who, h1, h2, h3, h4⟩ := h
  exact ⟨S, _, h1.forget ks, h2.trans (Step.forget ks), h3, h4⟩

theorem ops_list (hE : EnvOK P E) (hC : CallOK P E) {ops : Array Oper} {Q : Exit → Act → World → Prop} {G : List V → Option R} (HQ : ∀ σ a w, G σ = some r → Led E S0 who0 w0 a0 σ a w → Q .normal a w) :
    ∀ (l : List Oper) (σ : List V) (a : Act) (w : World), runOps E ops l σ G = some r → Led E S0 who0 w0 a0 σ a w → wpList P ops Q l a w
  | [], σ, a, w, hs, hL => HQ σ a w hs hL
  | o :: l, σ, a, w, hs, hL => by
    simp only [runOps, forceAll_eq] at hs
    obtain ⟨S, who, h1, h2, h3, h4⟩ := hL
    have hfx := gstep_fixed hs
    unfold wpList
    rcases gstep_cases h1 hs with ⟨g1, g2⟩ | ⟨g1, g2⟩
    · rw [if_pos g1]
      refine .inl (Oper.wp_mono (fun a' w' hp => ?_) (Oper.wp_tmps (oper_sound hE hC h1 g2)))
      obtain ⟨hp, v, ht⟩ := hp
      obtain ⟨σ1, e1, e2⟩ := Led.post h2 h3 h4 hp (Fix.put hfx ht)
      exact ops_list hE hC HQ l σ1 a' w' e1 e2
    · rw [if_neg (by simp [g1])]
      obtain ⟨σ1, e1, e2⟩ := Led.post h2 h3 h4 (post_unit (K := fun σ' => runOps E ops l σ' G) h1 g2) (Fix.put hfx rfl)
      exact ops_list hE hC HQ l σ1 _ w e1 e2

theorem runOps_append {ops : Array Oper} {G : List V → Option R} : ∀ {l1 l2 : List Oper} {σ : List V}, runOps E ops (l1 ++ l2) σ G = runOps E ops l1 σ fun σ' => runOps E ops l2 σ' G
  | [], _, _ => rfl
  | o :: l1, l2, σ => by
    simp only [List.cons_append, runOps, forceAll_eq]
    congr 1
    funext σ'
    exact runOps_append

theorem ops_still (hE : EnvOK P E) (hC : CallOK P E) {ops : Array Oper} {Q : Act → Prop} {w : World} {G : List V → Option R} (HQ : ∀ σ a, G σ = some r → Led E S0 who0 w0 a0 σ a w → Q a) :
    ∀ (l : List Oper) (σ : List V) (a : Act), (∀ o ∈ l, calmB o = true) → runOps E ops l σ G = some r → Led E S0 who0 w0 a0 σ a w → wpStill P ops w Q l a
  | [], σ, a, _, hs, hL => HQ σ a hs hL
  | o :: l, σ, a, hc, hs, hL => by
    simp only [runOps, forceAll_eq] at hs
    obtain ⟨S, who, h1, h2, h3, h4⟩ := hL
    have hfx := gstep_fixed hs
    unfold wpStill
    rcases gstep_cases h1 hs with ⟨g1, g2⟩ | ⟨g1, g2⟩
    · rw [if_pos g1]
      obtain ⟨v, e1, hp⟩ := oper_still hE hC h1 g2 (hc o (by simp))
      unfold Oper.still
      rw [e1]
      refine ⟨rfl, ?_⟩
      obtain ⟨σ1, e1, e2⟩ := Led.post h2 h3 h4 hp (Fix.put hfx rfl)
      exact ops_still hE hC HQ l σ1 _ (fun o ho => hc o (by simp [ho])) e1 e2
    · rw [if_neg (by simp [g1])]
      obtain ⟨σ1, e1, e2⟩ := Led.post h2 h3 h4 (post_unit (K := fun σ' => runOps E ops l σ' G) h1 g2) (Fix.put hfx rfl)
      exact ops_still hE hC HQ l σ1 _ (fun o ho => hc o (by simp [ho])) e1 e2

theorem region_sound (hE : EnvOK P E) (hC : CallOK P E) (hm : P.follows .mixedOrders = true) {id : Nat} {ops : Array Oper} {draws : Bool} {σ : List V} {a : Act} {w : World} {L : Code → List V → (XE → List V → Option R) → Option R}
    (hB : codeB E (.region id ops draws) = true) (hs : runC E L (.region id ops draws) σ K = some r) (hL : Led E S0 who0 w0 a0 σ a w) : (Code.region id ops draws).wp P (Ends E r K S0 who0 w0 a0) a w := by
  simp only [codeB] at hB
  simp only [runC] at hs
  have HE : ∀ σ a w, K .normal σ = some r → Led E S0 who0 w0 a0 σ a w → Ends E r K S0 who0 w0 a0 .normal a w := fun σ a w h1 h2 => ⟨σ, h1, h2⟩
  cases hp : E.plan id with
  | some pl =>
    rw [hp] at hB hs
    cases draws with
    | false => cases hB
    | true =>
      simp only [cond_true] at hB
      simp only [forceL_eq] at hs
      refine wp_region_any hm ?_
      refine plan_sound hE hC hB (fun _ _ _ h => h.elim) hs (Led.drew ?_) HE
      cases E.keep id with
      | none => exact hL
      | some ks => exact hL.keep ks
  | none =>
    rw [hp] at hB hs
    dsimp only at hs
    have main : ∀ {σ : List V}, runOps E ops ops.toList σ (K .normal) = some r → Led E S0 who0 w0 a0 σ a w → (Code.region id ops draws).wp P (Ends E r K S0 who0 w0 a0) a w := by
      intro σ hs hL
      cases draws with
      | false => exact wp_region_list (ops_list hE hC HE ops.toList σ a w hs hL)
      | true =>
        simp only [cond_true, stillB] at hB
        cases hn : Nat.ble ops.size (firstNot ops.toList) with
        | true =>
          rw [hn] at hB
          simp only [cond_true] at hB
          refine wp_region_still hm hB (ops_still hE hC (fun σ a => HE σ a _) ops.toList σ a (fun o ho => ?_) hs hL.drew)
          have := firstNot_calm (l := ops.toList) o
          rw [List.take_of_length_le (by simpa using Nat.le_of_ble_eq_true hn)] at this
          exact this ho
        | false =>
          rw [hn] at hB
          simp only [cond_false] at hB
          have e : ops = ops.toList.toArray := by simp
          rw [e]
          refine wp_region_still_tail (firstNot ops.toList) hm (by rw [← e]; exact hB) ?_
          rw [← e]
          rw [← List.take_append_drop (firstNot ops.toList) ops.toList, runOps_append] at hs
          exact ops_still hE hC (fun σ a h1 h2 => ops_list hE hC HE _ σ a _ h1 h2) _ σ a firstNot_calm hs hL.drew
    cases hk : E.keep id with
    | none => rw [hk] at hs; exact main hs hL
    | some ks =>
      rw [hk] at hs
      simp only [forceL_eq] at hs
      exact main hs (hL.keep ks)

theorem cond_val {σ : List V} {a : Act} {w : World} {c : Operand} {b : Bool} (hL : Led E S0 who0 w0 a0 σ a w) (hc : opnd E σ c = .bool b) : a.eval c = .bool b := by
  obtain ⟨S, who, h1, _⟩ := hL
  have := (opnd_spec h1 c).1
  rw [hc] at this
  generalize a.eval c = u at this
  cases this; rfl

/-- **Code**, where its loops are sound. -/
theorem runC_sound (hE : EnvOK P E) (hC : CallOK P E) (hm : P.follows .mixedOrders = true) {n : Nat}
    (HL : ∀ (x : Code) (K : XE → List V → Option R) (σ : List V) (a : Act) (w : World), codeB E x = true → loopR E n x σ K = some r → Led E S0 who0 w0 a0 σ a w → Code.rounds P x (Ends E r K S0 who0 w0 a0) n a w) :
    ∀ (c : Code) (K : XE → List V → Option R) (σ : List V) (a : Act) (w : World), codeB E c = true → runC E (loopR E n) c σ K = some r → Led E S0 who0 w0 a0 σ a w → c.wp P (Ends E r K S0 who0 w0 a0) a w := by
  intro c
  induction c with
  | skip => exact fun K σ a w _ hs hL => wp_skip ⟨σ, hs, hL⟩
  | label l => exact fun K σ a w _ hs hL => wp_label ⟨σ, hs, hL⟩
  | ret => exact fun K σ a w _ hs hL => wp_ret ⟨σ, hs, hL⟩
  | exit i => exact fun K σ a w _ hs hL => wp_exit ⟨σ, hs, hL⟩
  | region id ops draws => exact fun K σ a w hB hs hL => region_sound hE hC hm hB hs hL
  | seq x y ihx ihy =>
    intro K σ a w hB hs hL
    simp only [codeB, Bool.and_eq_true] at hB
    simp only [runC] at hs
    refine wp_seq (Code.wp_mono (fun e a w h => ?_) (ihx _ σ a w hB.1 hs hL))
    cases e with
    | normal =>
      obtain ⟨σ', h1, h2⟩ := h
      exact ihy K σ' a w hB.2 h1 h2
    | exit i => exact h
    | ret => exact h
    | _ => exact h.elim
  | cond c x y ihx ihy =>
    intro K σ a w hB hs hL
    simp only [codeB, Bool.and_eq_true] at hB
    simp only [runC] at hs
    split at hs
    · rename_i b hb
      refine wp_cond (cond_val hL hb) ?_
      cases b with
      | true =>
        rw [if_pos rfl] at hs ⊢
        exact ihx K σ a w hB.1 hs hL
      | false =>
        rw [if_neg (by simp)] at hs ⊢
        exact ihy K σ a w hB.2 hs hL
    · cases hs
  | block id x ih =>
    intro K σ a w hB hs hL
    simp only [codeB] at hB
    simp only [runC] at hs
    refine wp_block (Code.wp_mono (fun e a w h => ?_) (ih _ σ a w hB hs hL))
    cases e with
    | normal => exact h
    | exit i =>
      obtain ⟨σ', h1, h2⟩ := h
      dsimp only at h1
      unfold Exit.inBlock
      by_cases hi : i = id
      · rw [if_pos hi] at h1
        simp only [hi, if_true]
        exact ⟨σ', h1, h2⟩
      · rw [if_neg hi] at h1
        simp only [hi, if_false]
        exact ⟨σ', h1, h2⟩
    | ret => exact h
    | _ => exact h.elim
  | loop x ih =>
    intro K σ a w hB hs hL
    simp only [codeB] at hB
    simp only [runC] at hs
    exact wp_loop_rounds n (HL x K σ a w hB hs hL)
  | scope x ih =>
    intro K σ a w hB hs hL
    simp only [codeB] at hB
    simp only [runC] at hs
    refine wp_scope_straight (Code.wp_mono (fun e a w h => ?_) (ih K σ a w hB hs hL))
    cases e <;> first | exact h | exact h.elim
  | _ => intro K σ a w hB hs hL; simp [runC] at hs

theorem loopR_sound (hE : EnvOK P E) (hC : CallOK P E) (hm : P.follows .mixedOrders = true) : ∀ (n : Nat) (x : Code) (K : XE → List V → Option R) (σ : List V) (a : Act) (w : World), codeB E x = true → loopR E n x σ K = some r → Led E S0 who0 w0 a0 σ a w →
    Code.rounds P x (Ends E r K S0 who0 w0 a0) n a w
  | 0, x, K, σ, a, w, _, hs, _ => by simp [loopR] at hs
  | n + 1, x, K, σ, a, w, hB, hs, hL => by
    simp only [loopR] at hs
    rw [rounds_succ]
    refine Code.wp_mono (fun e a w h => ?_) (runC_sound hE hC hm (loopR_sound hE hC hm n) x _ σ a w hB hs hL)
    cases e with
    | normal =>
      obtain ⟨σ', h1, h2⟩ := h
      exact loopR_sound hE hC hm n x K σ' a w hB h1 h2
    | exit i => exact h
    | ret => exact h
    | _ => exact h.elim

theorem run_sound (hE : EnvOK P E) (hC : CallOK P E) (hm : P.follows .mixedOrders = true) {n : Nat} {c : Code} {σ : List V} {a : Act} {w : World} (hB : codeB E c = true) (hs : run E n c σ K = some r) (hL : Led E S0 who0 w0 a0 σ a w) :
    c.wp P (Ends E r K S0 who0 w0 a0) a w := runC_sound hE hC hm (loopR_sound hE hC hm n) c K σ a w hB hs hL
end
end Go.Zv
