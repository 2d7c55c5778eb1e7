/- Zv: the soundness of operations: copies, arithmetic, comparisons, addresses, parts. No condition. -/
import Derived.Test.YtdddbifjkkhpbaaGreatDoorZvOp3
import Derived.Laws.Strings
namespace Go.Zv
open Go

/-- What is known of '==' at a type of aggregates. -/
def EqOK (P : Program) (t : Nat) (i : TI) : Prop :=
  P.eqGuardType P.depth t = false ∧ ∀ (S : Nat → Prop) (w : World) (xs ys : Array Value) (vx vy : List V) (b : Bool), Reps S w xs.toList vx [] → Reps S w ys.toList vy [] → eqCells i.sk vx vy = some b →
    (Op.equal t (.agg xs) (.agg ys)).run P w = .ok b w

/-- What the pure interpreter is told is so. -/
structure EnvOK (P : Program) (E : Env) : Prop where
  ty : ∀ t i, E.tys t = some i → TyOK P t i
  eq : ∀ t i, E.tys t = some i → E.eqs t = true → EqOK P t i
  u8 : ∀ t, E.u8s t = true → ∃ e ie, P.underlying t = some (.slice e) ∧ P.underlying e = some (.int .u8) ∧ P.info? e = some ie ∧ ie.size = 1

section
variable {R : Type} {P : Program} {E : Env} {r : R} {K : List V → Option R} {S S' : Nat → Prop} {who who' : Nat → Option Nat} {w w' : World} {a : Act} {dst : Option Nat} {σ σ' : List V}

theorem nilTo_rep {n : Bool} {ty : Option TI} {u : Value} {v : V} (h : Rep S w u v []) : Rep S w u (nilTo n ty v) [] := by
  unfold nilTo
  split
  · split
    · cases h; exact .own0 _ _ _
    · exact h
  · exact h
theorem nilTo_link {n : Bool} {ty : Option TI} {u : Value} {v : V} {tm : Array Value} (h : Link w tm σ u v) : Link w tm σ u (nilTo n ty v) := by
  unfold nilTo
  split
  · split <;> trivial
  · exact h

theorem move_out {n : Bool} {ty : Option TI} {x : Operand} (h : Rel E S who w a.tmps σ) (hs : (match tupOf σ x with
    | some (t, vs) => K (put dst (.tup vs) (setPlace σ t [] .undef))
    | none => K (put dst (nilTo n ty (opnd E σ x)) σ)) = some r) : OutV E r K S who w a dst (.ok (a.eval x) w) := by
  cases e : tupOf σ x with
  | none =>
    rw [e] at hs
    exact outv_val rfl h (nilTo_rep (opnd_spec h x).1) (nilTo_link (opnd_spec h x).2) hs
  | some tv =>
    obtain ⟨t, vs⟩ := tv
    rw [e] at hs
    unfold tupOf at e
    split at e
    · rename_i t'
      split at e
      · rename_i v l hg
        simp only [Option.some.injEq, Prod.mk.injEq] at e
        obtain ⟨rfl, rfl⟩ := e
        have hf : Follow w (a.tmps.getD t' undef) (gt σ t') [] (a.tmps.getD t' undef) (gt σ t') := .nil _ _
        obtain ⟨OX, who', g1, g2, g3, g4, g5⟩ := take_sem h hf (by rw [hg]; simp)
        rw [hg] at g1
        exact outv_put rfl g4 g5 g1 g2 (fun b hb => ⟨(g3 b hb).2, .inl (g3 b hb).1⟩) trivial hs
      · cases e
    · cases e
theorem assign_out {n sh : Bool} {ty : Option TI} {x : Operand} (h : Rel E S who w a.tmps σ)
    (hs : (match opnd E σ x with
      | .ref r p => match kindOf ty with
        | .slice k _ => cond sh
            (share k σ (.ref r p) fun f rows σ' => K (put dst (.sl k f rows) σ'))
            (place k σ r p (fun n rows => K (put dst (.own n k rows) (setPlace σ r p .undef))) (fun f rows => K (put dst (.sl k f rows) σ)))
        | _ => none
      | v => K (put dst (nilTo n ty v) σ)) = some r) : OutV E r K S who w a dst (.ok (a.eval x) w) := by
  obtain ⟨hr, hl⟩ := opnd_spec h x
  split at hs
  · rename_i r0 p hx
    rw [hx] at hr hl
    split at hs
    · rename_i k b _
      cases sh with
      | true =>
        simp only [cond_true] at hs
        obtain ⟨f, rows, σ', S', who', h1, h2, h3, h4⟩ := share_sem h hr hl hs
        exact outv_put rfl h2 h4 h3 (by simp) (by simp) trivial h1
      | false =>
        simp only [cond_false] at hs
        rcases place_sem hl hs with ⟨n, rows, X, hK, hf, hX⟩ | ⟨f, rows, hK, hf⟩
        · obtain ⟨OX, who', h1, h2, h3, h4, h5⟩ := take_sem h hf (by rcases hX with rfl | ⟨rfl, _⟩ <;> simp)
          have hrep : Rep S w (a.eval x) (.own n k rows) OX := by
            rcases hX with rfl | ⟨rfl, rfl, rfl⟩
            · exact h1
            · have : ∀ {u : Value} {O : List Nat}, Rep S w u .nilsl O → Rep S w u (.own false k []) O := fun h => by cases h; exact .own0 _ _ _
              exact this h1
          exact outv_put rfl h4 h5 hrep h2 (fun b hb => ⟨⟨(h3 b hb).2.1, (h3 b hb).2.2⟩, .inl (h3 b hb).1⟩) trivial hK
        · obtain ⟨O, hX, _⟩ := hf.rep h
          exact outv_val (v := .sl k f rows) rfl h ((hX.plain rfl (by simp)) ▸ hX) trivial hK
    · cases hs
  · exact outv_val rfl h (nilTo_rep hr) (nilTo_link hl) hs

theorem kind_some {t : Nat} {k : TK} (hk : kindOf (E.tys t) = k) (hne : k ≠ .other) : ∃ i, E.tys t = some i ∧ i.kind = k := by
  unfold kindOf at hk
  split at hk
  · rename_i i hi; exact ⟨i, hi, hk⟩
  · exact absurd hk.symm hne
theorem kind_bool {t : Nat} (hE : EnvOK P E) (hk : kindOf (E.tys t) = .bool) : P.underlying t = some .bool := by
  obtain ⟨i, hi, hk⟩ := kind_some hk (by simp)
  obtain ⟨d, hd, h⟩ := (hE.ty t i hi).under
  cases d <;> try (simp [KindOK, hk] at h; done)
  exact hd
theorem kind_str {t : Nat} (hE : EnvOK P E) (hk : kindOf (E.tys t) = .str) : P.underlying t = some .string := by
  obtain ⟨i, hi, hk⟩ := kind_some hk (by simp)
  obtain ⟨d, hd, h⟩ := (hE.ty t i hi).under
  cases d <;> try (simp [KindOK, hk] at h; done)
  exact hd
theorem kind_int {t : Nat} {k : IntKind} (hE : EnvOK P E) (hk : kindOf (E.tys t) = .int k) : P.underlying t = some (.int k) := by
  obtain ⟨i, hi, hk⟩ := kind_some hk (by simp)
  obtain ⟨d, hd, h⟩ := (hE.ty t i hi).under
  cases d <;> try (simp [KindOK, hk] at h; done)
  simp only [KindOK, hk, TK.int.injEq] at h
  subst h; exact hd
theorem kind_ptr {t : Nat} (hE : EnvOK P E) (hk : kindOf (E.tys t) = .ptr) : ∃ e, P.underlying t = some (.pointer e) := by
  obtain ⟨i, hi, hk⟩ := kind_some hk (by simp)
  obtain ⟨d, hd, h⟩ := (hE.ty t i hi).under
  cases d <;> try (simp [KindOK, hk] at h; done)
  exact ⟨_, hd⟩
theorem kind_slice {t k b : Nat} (hE : EnvOK P E) (hk : kindOf (E.tys t) = .slice k b) :
    ∃ i e ie z, E.tys t = some i ∧ P.underlying t = some (.slice e) ∧ P.info? e = some ie ∧ ie.zero = some z ∧ ie.size = k ∧ ie.bytes = b ∧ i.ez = z.cells.toList.map ofScalar ∧ ie.size = z.cells.size ∧ 0 < k ∧ ∀ c ∈ z.cells.toList, c.oneCell' = true := by
  obtain ⟨i, hi, hk⟩ := kind_some hk (by simp)
  obtain ⟨d, hd, h⟩ := (hE.ty t i hi).under
  cases d <;> try (simp [KindOK, hk] at h; done)
  simp only [KindOK, hk] at h
  obtain ⟨ie, z, h1, h2, h3, h4, h5, h6, h7⟩ := h
  cases h3
  exact ⟨i, _, ie, z, hi, hd, h1, h2, rfl, rfl, h4, h5, h6, h7⟩
theorem kind_arr {t n k e : Nat} (hE : EnvOK P E) (hk : kindOf (E.tys t) = .arr n k e) : P.underlying t = some (.array n e) ∧ P.cellsOf e = k ∧ 0 < k ∧ ∃ ie, P.info? e = some ie := by
  obtain ⟨i, hi, hk⟩ := kind_some hk (by simp)
  obtain ⟨d, hd, h⟩ := (hE.ty t i hi).under
  cases d <;> try (simp [KindOK, hk] at h; done)
  simp only [KindOK, hk] at h
  obtain ⟨h1, h2, h3⟩ := h
  cases h1
  exact ⟨hd, rfl, h2, h3⟩
theorem kind_struct {t : Nat} {l : List (Nat × Nat × Nat)} (hE : EnvOK P E) (hk : kindOf (E.tys t) = .struct l) :
    ∃ fs, P.underlying t = some (.struct fs) ∧ l = fs.toList.map (fun f => (f.offset, f.type, P.cellsOf f.type)) ∧ ∀ f ∈ fs.toList, ∃ ti, P.info? f.type = some ti := by
  obtain ⟨i, hi, hk⟩ := kind_some hk (by simp)
  obtain ⟨d, hd, h⟩ := (hE.ty t i hi).under
  cases d <;> try (simp [KindOK, hk] at h; done)
  simp only [KindOK, hk] at h
  obtain ⟨l', h1, h2, h3⟩ := h
  cases h1
  exact ⟨_, hd, h2, h3⟩

theorem run_pure_value (v : Value) : (pure v : Sem Value).run P w = .ok v w := rfl
theorem eqGuard_other {op : BinOp} {t : Nat} {ux uy : Value} {ox oy : Operand} (h1 : ¬ (ux = .nilIface ∧ uy = .nilIface)) (h2 : ∀ xs ys, ¬ (ux = .agg xs ∧ uy = .agg ys)) :
    (eqGuard op t ox oy ux uy).run P w = .ok () w := by
  unfold eqGuard
  cases ux <;> cases uy <;> first
    | exact absurd ⟨rfl, rfl⟩ h1
    | exact absurd ⟨rfl, rfl⟩ (h2 _ _)
    | (cases op <;> rfl)

theorem evBin_sem {op : BinOp} {t : Nat} {x y : V} {ux uy : Value} {ox oy : Operand} {G : V → Option R} (hE : EnvOK P E) (hrx : Rep S w ux x []) (hry : Rep S w uy y []) (hs : evBin E op t x y G = some r) :
    ∃ v u, G v = some r ∧ linkFree v = true ∧ Rep S w u v [] ∧ (do eqGuard op t ox oy ux uy; binOp op t ux uy : Sem Value).run P w = .ok u w := by
  unfold evBin at hs
  split at hs
  · -- whole numbers
    rename_i k n k' n'
    cases hrx
    cases hry
    have hg : (eqGuard op t ox oy (.int k n) (.int k' n')).run P w = .ok () w := eqGuard_other (by simp) (by simp)
    have fin : ∀ v u, G v = some r → linkFree v = true → Rep S w u v [] → (binOp op t (.int k n) (.int k' n')).run P w = .ok u w →
        ∃ v u, G v = some r ∧ linkFree v = true ∧ Rep S w u v [] ∧ (do eqGuard op t ox oy (.int k n) (.int k' n'); binOp op t (.int k n) (.int k' n') : Sem Value).run P w = .ok u w := fun v u h1 h2 h3 h4 =>
      ⟨v, u, h1, h2, h3, by simp only [Sem.run_bind, hg, Result.andThen_ok, h4]⟩
    split at hs
    · split at hs
      · cases hs
      · rename_i hb
        exact fin _ _ hs rfl (.int _ _) (by simp [binOp, Op.shift, hb])
    · split at hs
      · cases hs
      · rename_i hb
        exact fin _ _ hs rfl (.int _ _) (by simp [binOp, Op.shift, hb])
    · split at hs
      · rename_i hk
        subst hk
        cases op <;> dsimp only at hs
        case add => exact fin _ _ hs rfl (.int _ _) (by simp [binOp, Op.intArith])
        case sub => exact fin _ _ hs rfl (.int _ _) (by simp [binOp, Op.intArith])
        case mul => exact fin _ _ hs rfl (.int _ _) (by simp [binOp, Op.intArith])
        case quo =>
          split at hs
          · cases hs
          · rename_i hb; exact fin _ _ hs rfl (.int _ _) (by simp [binOp, Op.intDiv, hb])
        case rem =>
          split at hs
          · cases hs
          · rename_i hb; exact fin _ _ hs rfl (.int _ _) (by simp [binOp, Op.intDiv, hb])
        case and => exact fin _ _ hs rfl (.int _ _) (by simp [binOp, Op.intBits, bitsOf])
        case or => exact fin _ _ hs rfl (.int _ _) (by simp [binOp, Op.intBits, bitsOf])
        case xor => exact fin _ _ hs rfl (.int _ _) (by simp [binOp, Op.intBits, bitsOf])
        case andNot => exact fin _ _ hs rfl (.int _ _) (by simp [binOp, Op.intBits, bitsOf])
        case eql => exact fin _ _ hs rfl (.bool _) (by simp [binOp, Op.intCmp])
        case neq => exact fin _ _ hs rfl (.bool _) (by simp [binOp, Op.intCmp])
        case lss => exact fin _ _ hs rfl (.bool _) (by simp [binOp, Op.intCmp])
        case leq => exact fin _ _ hs rfl (.bool _) (by simp [binOp, Op.intCmp])
        case gtr => exact fin _ _ hs rfl (.bool _) (by simp [binOp, Op.intCmp])
        case geq => exact fin _ _ hs rfl (.bool _) (by simp [binOp, Op.intCmp])
        all_goals cases hs
      · cases hs
  · -- strings
    rename_i s s'
    cases hrx with
    | str s =>
    cases hry with
    | str s' =>
    have hg : (eqGuard op t ox oy (.string s) (.string s')).run P w = .ok () w := eqGuard_other (by simp) (by simp)
    have fin : ∀ v u, G v = some r → linkFree v = true → Rep S w u v [] → (Op.stringOp op s s').run P w = .ok u w → op ≠ .shl → op ≠ .shr →
        ∃ v u, G v = some r ∧ linkFree v = true ∧ Rep S w u v [] ∧ (do eqGuard op t ox oy (.string s) (.string s'); binOp op t (.string s) (.string s') : Sem Value).run P w = .ok u w := fun v u h1 h2 h3 h4 n1 n2 => by
      have hb : binOp op t (.string s) (.string s') = Op.stringOp op s s' := by cases op <;> first | rfl | exact absurd rfl n1 | exact absurd rfl n2
      exact ⟨v, u, h1, h2, h3, by simp only [Sem.run_bind, hg, Result.andThen_ok, hb, h4]⟩
    have e1 : s.toList = s.data.toList := ByteArray.toList_eq s
    have e2 : s'.toList = s'.data.toList := ByteArray.toList_eq s'
    cases op <;> dsimp only at hs
    case add =>
      split at hs
      · rename_i hle
        have l1 : s.data.toList.length = s.size := by cases s; rfl
        have l2 : s'.data.toList.length = s'.size := by cases s'; rfl
        rw [l1, l2] at hle
        have hle' : s.size + s'.size ≤ 4611686018427387904 := hle
        have hn : ¬ (((s.size + s'.size : Nat) : Int) > IntKind.i64.max) := by
          have : IntKind.i64.max = 9223372036854775807 := by decide
          rw [this]; omega
        have ea : (s ++ s').data.toList = s.data.toList ++ s'.data.toList := by simp
        have := Rep.str (S := S) (w := w) (s ++ s')
        rw [ea] at this
        exact fin _ _ hs rfl this (by simp only [Op.stringOp, hn, if_false, Sem.run_pure]) (by simp) (by simp)
      · cases hs
    case eql => exact fin _ _ hs rfl (.bool _) (by simp [Op.stringOp, e1, e2]) (by simp) (by simp)
    case neq => exact fin _ _ hs rfl (.bool _) (by simp [Op.stringOp, e1, e2]) (by simp) (by simp)
    case lss => exact fin _ _ hs rfl (.bool _) (by simp [Op.stringOp, e1, e2]) (by simp) (by simp)
    case leq => exact fin _ _ hs rfl (.bool _) (by simp [Op.stringOp, e1, e2]) (by simp) (by simp)
    case gtr => exact fin _ _ hs rfl (.bool _) (by simp [Op.stringOp, e1, e2]) (by simp) (by simp)
    case geq => exact fin _ _ hs rfl (.bool _) (by simp [Op.stringOp, e1, e2]) (by simp) (by simp)
    all_goals cases hs
  · -- bools
    rename_i x y
    cases hrx
    cases hry
    have hg : (eqGuard op t ox oy (.bool x) (.bool y)).run P w = .ok () w := eqGuard_other (by simp) (by simp)
    split at hs
    · rename_i hk
      have hd := kind_bool hE hk
      have heq : (Op.equal t (.bool x) (.bool y)).run P w = .ok (x == y) w := by
        obtain ⟨dd, hdd⟩ : ∃ d, Op.maxDepth = d + 1 := ⟨9999, rfl⟩
        rw [Op.equal, hdd]
        simp only [Op.equalIn, Sem.run_bind, run_under w hd, Result.andThen_ok, Sem.run_pure]
      split at hs
      · exact ⟨_, _, hs, rfl, .bool _, by simp only [Sem.run_bind, hg, Result.andThen_ok, binOp, heq, Sem.run_pure]⟩
      · exact ⟨_, _, hs, rfl, .bool _, by simp only [Sem.run_bind, hg, Result.andThen_ok, binOp, heq, Sem.run_pure]⟩
      · cases hs
    · cases hs
  · -- aggregates
    cases hrx with
    | agg g0 hx =>
    cases hry with
    | agg g1 hy =>
    rename_i xs ys
    split at hs
    · rename_i i hi
      cases he : E.eqs t with
      | false => rw [he] at hs; cases hs
      | true =>
        rw [he] at hs
        simp only [cond_true] at hs
        obtain ⟨e1, e2⟩ := hE.eq t i hi he
        have hg : ∀ {op : BinOp} {xs ys : Array Value}, (eqGuard op t ox oy (.agg xs) (.agg ys)).run P w = .ok () w := fun {op xs ys} => by
          unfold eqGuard
          cases op <;> simp [e1]
        split at hs
        · cases hb : eqCells i.sk _ _ with
          | none => rw [hb] at hs; cases hs
          | some b =>
            rw [hb] at hs
            exact ⟨_, _, hs, rfl, .bool _, by simp only [Sem.run_bind, hg, Result.andThen_ok, binOp, e2 S w _ _ _ _ b hx hy hb, Sem.run_pure]⟩
        · cases hb : eqCells i.sk _ _ with
          | none => rw [hb] at hs; cases hs
          | some b =>
            rw [hb] at hs
            exact ⟨_, _, hs, rfl, .bool _, by simp only [Sem.run_bind, hg, Result.andThen_ok, binOp, e2 S w _ _ _ _ b hx hy hb, Sem.run_pure]⟩
        · cases hs
    · cases hs
  · -- nil pointers
    cases hrx
    cases hry
    have hg : (eqGuard op t ox oy (.pointer none) (.pointer none)).run P w = .ok () w := eqGuard_other (by simp) (by simp)
    split at hs
    · rename_i hk
      obtain ⟨e, hd⟩ := kind_ptr hE hk
      have heq : (Op.equal t (.pointer none) (.pointer none)).run P w = .ok true w := by
        obtain ⟨dd, hdd⟩ : ∃ d, Op.maxDepth = d + 1 := ⟨9999, rfl⟩
        rw [Op.equal, hdd]
        simp only [Op.equalIn, Sem.run_bind, run_under w hd, Result.andThen_ok, Sem.run_pure]; rfl
      split at hs
      · exact ⟨_, _, hs, rfl, .bool _, by simp only [Sem.run_bind, hg, Result.andThen_ok, binOp, heq, Sem.run_pure]⟩
      · exact ⟨_, _, hs, rfl, .bool _, by simp only [Sem.run_bind, hg, Result.andThen_ok, binOp, heq, Sem.run_pure]; rfl⟩
      · cases hs
    · cases hs
  · cases hry
    cases hrx with
    | iptr h1 h2 h3 =>
    have hg : ∀ {p : Option Addr}, (eqGuard op t ox oy (.pointer p) (.pointer none)).run P w = .ok () w := eqGuard_other (by simp) (by simp)
    split at hs
    · rename_i hk
      obtain ⟨e, hd⟩ := kind_ptr hE hk
      have heq : ∀ {p : Addr}, (Op.equal t (.pointer (some p)) (.pointer none)).run P w = .ok false w := fun {p} => by
        obtain ⟨dd, hdd⟩ : ∃ d, Op.maxDepth = d + 1 := ⟨9999, rfl⟩
        rw [Op.equal, hdd]
        simp only [Op.equalIn, Sem.run_bind, run_under w hd, Result.andThen_ok, Sem.run_pure]
      split at hs
      · exact ⟨_, _, hs, rfl, .bool _, by simp only [Sem.run_bind, hg, Result.andThen_ok, binOp, heq, Sem.run_pure]⟩
      · exact ⟨_, _, hs, rfl, .bool _, by simp only [Sem.run_bind, hg, Result.andThen_ok, binOp, heq, Sem.run_pure]; rfl⟩
      · cases hs
    · cases hs
  · cases hrx
    cases hry with
    | iptr h1 h2 h3 =>
    have hg : ∀ {p : Option Addr}, (eqGuard op t ox oy (.pointer none) (.pointer p)).run P w = .ok () w := eqGuard_other (by simp) (by simp)
    split at hs
    · rename_i hk
      obtain ⟨e, hd⟩ := kind_ptr hE hk
      have heq : ∀ {p : Addr}, (Op.equal t (.pointer none) (.pointer (some p))).run P w = .ok false w := fun {p} => by
        obtain ⟨dd, hdd⟩ : ∃ d, Op.maxDepth = d + 1 := ⟨9999, rfl⟩
        rw [Op.equal, hdd]
        simp only [Op.equalIn, Sem.run_bind, run_under w hd, Result.andThen_ok, Sem.run_pure]; rfl
      split at hs
      · exact ⟨_, _, hs, rfl, .bool _, by simp only [Sem.run_bind, hg, Result.andThen_ok, binOp, heq, Sem.run_pure]⟩
      · exact ⟨_, _, hs, rfl, .bool _, by simp only [Sem.run_bind, hg, Result.andThen_ok, binOp, heq, Sem.run_pure]; rfl⟩
      · cases hs
    · cases hs
  · cases hs

end
end Go.Zv
