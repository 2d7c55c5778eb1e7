/- Zv: operations that leave the world as it is. No condition. -/
import Derived.Test.YtdddbifjkkhpbaaGreatDoorZvMask
import Derived.Still
import Derived.Laws.Panics
namespace Go.Zv
open Go

/-- Where it comes back, the world is as it was. -/
structure CalmRun {α : Type} (P : Program) (s : Sem α) : Prop where
  same : ∀ w v w', s.run P w = .ok v w' → w' = w

section
variable {P : Program} {α β : Type}
theorem CalmRun.pure (a : α) : CalmRun P (pure a : Sem α) := .mk fun w v w' h => by
  simp only [Sem.run_pure, Result.ok.injEq] at h; exact h.2.symm
theorem CalmRun.bind {s : Sem α} {f : α → Sem β} (hs : CalmRun P s) (hf : ∀ a, CalmRun P (f a)) : CalmRun P (s >>= f) := .mk fun w v w' h => by
  rw [Sem.run_bind] at h
  cases e : s.run P w with
  | halt x w1 => rw [e] at h; cases h
  | ok a w1 =>
    rw [e] at h
    have := hs.same w a w1 e
    subst this
    exact (hf a).same _ v w' h
theorem CalmRun.halt (x : Halt) : CalmRun P (.halt x : Sem α) := .mk fun w v w' h => by cases h
theorem CalmRun.stuck (s : String) : CalmRun P (stuck s : Sem α) := CalmRun.halt _
theorem CalmRun.unsupported (s : Unsupported) : CalmRun P (unsupported s : Sem α) := CalmRun.halt _
theorem CalmRun.bounds (k : IntKind) (x y : Int) (code : BoundsCode) : CalmRun P (boundsPanic k x y code : Sem α) := .mk fun w v w' h => by
  obtain ⟨s, w1, h1⟩ := run_boundsPanic (P := P) (w := w) (α := α) k x y code
  rw [h1] at h; cases h
theorem CalmRun.program : CalmRun P Go.program := .mk fun w v w' h => by cases h; rfl
theorem CalmRun.typeInfo (t : Nat) : CalmRun P (typeInfo t) := by
  unfold Go.typeInfo
  refine .bind .program fun p => ?_
  split
  · exact .pure _
  · exact .stuck _
theorem CalmRun.underlying (t : Nat) : CalmRun P (underlying t) := by
  unfold Go.underlying
  refine .bind .program fun p => ?_
  split
  · exact .pure _
  · exact .stuck _
theorem CalmRun.zeroValue (t : Nat) : CalmRun P (zeroValue t) := by
  unfold Go.zeroValue
  refine .bind (.typeInfo _) fun p => ?_
  split
  · exact .pure _
  · exact .unsupported _
theorem CalmRun.sizeOf (t : Nat) : CalmRun P (sizeOf t) := by
  unfold Go.sizeOf
  exact .bind (.typeInfo _) fun p => .pure _
theorem CalmRun.isAgg (t : Nat) : CalmRun P (isAgg t) := by
  unfold Go.isAgg
  refine .bind (.underlying _) fun p => ?_
  split <;> exact .pure _
theorem CalmRun.load (a : Addr) : CalmRun P (Go.load a) := .mk fun w v w' h => by
  unfold Go.load at h
  simp only [Sem.run] at h
  split at h
  · cases h; rfl
  · split at h
    · cases h; rfl
    · cases h
theorem CalmRun.loadCellsFrom (a : Addr) : ∀ (n i : Nat) (acc : Array Value), CalmRun P (loadCellsFrom a i n acc)
  | 0, i, acc => .pure _
  | n + 1, i, acc => .bind (.load _) fun v => CalmRun.loadCellsFrom a n (i + 1) _
theorem CalmRun.loadVar (t : Nat) (a : Addr) : CalmRun P (loadVar t a) := by
  unfold Go.loadVar
  refine .bind (.isAgg _) fun b => ?_
  split
  · exact .bind (.sizeOf _) fun n => .bind (CalmRun.loadCellsFrom a n 0 _) fun _ => .pure _
  · exact .load _
theorem CalmRun.asIntOf (v : Value) : CalmRun P (asIntOf v) := by
  unfold Go.asIntOf
  split
  · exact .pure _
  · exact .unsupported _
  · exact .stuck _
theorem CalmRun.sureAddr (v : Value) : CalmRun P (Instr.sureAddr v) := by
  unfold Instr.sureAddr
  split
  · exact .pure _
  · exact .stuck _
theorem CalmRun.asBool (v : Value) : CalmRun P (Go.asBool v) := by
  unfold Go.asBool
  split
  · exact .pure _
  · exact .stuck _
theorem CalmRun.asAgg (v : Value) : CalmRun P (Go.asAgg v) := by
  unfold Go.asAgg
  split
  · exact .pure _
  · exact .stuck _
theorem CalmRun.part (t : Nat) (cs : Array Value) (o : Nat) : CalmRun P (part t cs o) := by
  unfold Go.part
  refine .bind (.isAgg _) fun b => ?_
  split
  · exact .bind (.sizeOf _) fun n => .pure _
  · split
    · exact .pure _
    · exact .stuck _
theorem CalmRun.loadAt (t : Nat) (v : Value) : CalmRun P (Instr.loadAt t v) := .bind (.sureAddr _) fun a => .loadVar t a
theorem CalmRun.shape (r : Nat) : CalmRun P (Go.shape r) := .mk fun w v w' h => by cases h; rfl
theorem CalmRun.getObj (r : Nat) : CalmRun P (Go.getObj r) := .mk fun w v w' h => by
  unfold Go.getObj at h
  simp only [Sem.run] at h
  split at h
  · cases h
  · cases h; rfl
  · cases h
theorem CalmRun.asAddr (v : Value) : CalmRun P (Go.asAddr v) := by
  unfold Go.asAddr
  split
  · exact .pure _
  · exact .mk fun w v w' h => by simp [runtimePanic, goPanic, go_sem] at h
  · exact .stuck _
theorem CalmRun.indexAt (t : Nat) (x i : Value) : CalmRun P (Instr.indexAt t x i) := by
  unfold Instr.indexAt
  repeat' first
    | exact CalmRun.pure _
    | exact CalmRun.stuck _
    | exact CalmRun.unsupported _
    | exact CalmRun.bounds _ _ _ _
    | exact CalmRun.sizeOf _
    | exact CalmRun.underlying _
    | exact CalmRun.asIntOf _
    | exact CalmRun.sureAddr _
    | refine CalmRun.bind ?_ fun _ => ?_
    | dsimp only
    | split
theorem CalmRun.index (t : Nat) (x i : Value) : CalmRun P (Instr.index t x i) := by
  unfold Instr.index
  repeat' first
    | exact CalmRun.pure _
    | exact CalmRun.stuck _
    | exact CalmRun.bounds _ _ _ _
    | exact CalmRun.sizeOf _
    | exact CalmRun.underlying _
    | exact CalmRun.asIntOf _
    | exact CalmRun.part _ _ _
    | refine CalmRun.bind ?_ fun _ => ?_
    | split
theorem CalmRun.field (t : Nat) (x : Value) (f : Nat) : CalmRun P (Instr.field t x f) := by
  unfold Instr.field
  repeat' first
    | exact CalmRun.stuck _
    | exact CalmRun.underlying _
    | exact CalmRun.asAgg _
    | exact CalmRun.part _ _ _
    | refine CalmRun.bind ?_ fun _ => ?_
    | split
theorem CalmRun.extract (x : Value) (i : Nat) : CalmRun P (Instr.extract x i) := by
  unfold Instr.extract
  repeat' first
    | exact CalmRun.pure _
    | exact CalmRun.stuck _
    | split
theorem CalmRun.mapM {γ : Type} {f : γ → Sem β} (hf : ∀ x, CalmRun P (f x)) : ∀ l : List γ, CalmRun P (l.mapM f)
  | [] => by rw [List.mapM_nil]; exact .pure _
  | x :: l => by rw [List.mapM_cons]; exact .bind (hf x) fun _ => .bind (CalmRun.mapM hf l) fun _ => .pure _
theorem CalmRun.build (t : Nat) (parts : Array (Nat × Value)) : CalmRun P (Instr.build t parts) := by
  unfold Instr.build
  refine .bind (.zeroValue _) fun z => ?_
  dsimp only
  refine .bind (.underlying _) fun d => ?_
  split
  · refine .bind ?_ fun q => ?_
    · rw [Array.mapM_eq_mapM_toList]
      refine .bind (CalmRun.mapM (fun f => .bind (.sizeOf _) fun _ => .pure _) _) fun _ => .pure _
    · split
      · exact .pure _
      · exact .stuck _
  · refine .bind (.sizeOf _) fun q => ?_
    split
    · exact .pure _
    · exact .stuck _
  · exact .stuck _
theorem CalmRun.sliceBound (x : Value) (y : Nat) (c : BoundsCode) : CalmRun P (Instr.sliceBound x y c) := by
  unfold Instr.sliceBound
  repeat' first
    | exact CalmRun.pure _
    | exact CalmRun.bounds _ _ _ _
    | exact CalmRun.asIntOf _
    | refine CalmRun.bind ?_ fun _ => ?_
    | split
theorem CalmRun.sliceBounds (b : Bool) (n m : Nat) (lo hi mx : Option Value) : CalmRun P (Instr.sliceBounds b n m lo hi mx) := by
  unfold Instr.sliceBounds
  repeat' first
    | exact CalmRun.pure _
    | exact CalmRun.stuck _
    | exact CalmRun.sliceBound _ _ _
    | refine CalmRun.bind ?_ fun _ => ?_
    | split
theorem CalmRun.slice (t : Nat) (x : Value) (lo hi mx : Option Value) : CalmRun P (Instr.slice t x lo hi mx) := by
  unfold Instr.slice
  repeat' first
    | exact CalmRun.pure _
    | exact CalmRun.stuck _
    | exact CalmRun.sizeOf _
    | exact CalmRun.underlying _
    | exact CalmRun.asAddr _
    | exact CalmRun.sliceBounds _ _ _ _ _ _
    | refine CalmRun.bind ?_ fun _ => ?_
    | split
theorem CalmRun.sliceAt (t : Nat) (x : Value) (lo hi mx : Option Value) : CalmRun P (Instr.sliceAt t x lo hi mx) := by
  unfold Instr.sliceAt
  repeat' first
    | exact CalmRun.pure _
    | exact CalmRun.slice _ _ _ _ _
    | exact CalmRun.sizeOf _
    | exact CalmRun.underlying _
    | exact CalmRun.sureAddr _
    | exact CalmRun.sliceBounds _ _ _ _ _ _
    | refine CalmRun.bind ?_ fun _ => ?_
    | split
theorem CalmRun.partAt (a : Addr) (i j : Nat) : CalmRun P (Go.partAt a i j) := by
  unfold Go.partAt Go.byteOf
  repeat' first
    | exact CalmRun.pure _
    | exact CalmRun.stuck _
    | exact CalmRun.unsupported _
    | exact CalmRun.program
    | exact CalmRun.shape _
    | exact CalmRun.getObj _
    | refine CalmRun.bind ?_ fun _ => ?_
    | dsimp only
    | split
theorem CalmRun.fieldAt (t : Nat) (x : Value) (f : Nat) : CalmRun P (Instr.fieldAt t x f) := by
  unfold Instr.fieldAt Go.fieldPlace
  repeat' first
    | exact CalmRun.pure _
    | exact CalmRun.stuck _
    | exact CalmRun.sizeOf _
    | exact CalmRun.underlying _
    | exact CalmRun.sureAddr _
    | exact CalmRun.partAt _ _ _
    | refine CalmRun.bind ?_ fun _ => ?_
    | split
theorem CalmRun.unary (op : UnOp) (x : Value) : CalmRun P (Op.unary op x) := by
  unfold Op.unary
  repeat' first
    | exact CalmRun.pure _
    | exact CalmRun.stuck _
    | exact CalmRun.unsupported _
    | unfold intArith
    | unfold intBits
    | split
end

/-- Operations that leave the world as it is. -/
def calmB (o : Oper) : Bool :=
  match o.op with
  | .move _ | .assign _ | .pick .. | .build .. | .load .. | .nilCheck _ | .binOp .. | .slice .. | .fieldAddr .. | .field .. | .indexAddr .. | .index .. | .extract .. | .unOp .. => true
  | .call c => (match c.callee with
    | .builtin .len => true
    | _ => false)
  | _ => false

section
variable {P : Program} {E : Env} {S : Nat → Prop} {who : Nat → Option Nat} {w : World} {a : Act} {σ : List V} {R : Type} {r : R} {K : List V → Option R}
theorem calm_value {s : Sem Value} {n : Next} {w' : World} (hs : CalmRun P s) (h : (do pure (.value (← s)) : Sem Next).run P w = .ok n w') : ∃ v, n = .value v ∧ w' = w := by
  rw [Sem.run_bind] at h
  cases e : s.run P w with
  | halt x w1 => rw [e] at h; cases h
  | ok v w1 =>
    rw [e] at h
    simp only [Result.andThen_ok, Sem.run_pure, Result.ok.injEq] at h
    exact ⟨v, h.1.symm, by rw [← h.2]; exact hs.same _ _ _ e⟩
theorem CalmRun.len_ {P : Program} (ts : Array TypeId) (t : TypeId) (args : Array Value) : CalmRun P (Builtin.len_ ts t args) := by
  unfold Builtin.len_
  repeat' first
    | exact CalmRun.pure _
    | exact CalmRun.stuck _
    | exact CalmRun.underlying _
    | exact CalmRun.getObj _
    | refine CalmRun.bind ?_ fun _ => ?_
    | dsimp only
    | split

theorem calm_run {o : Oper} {n : Next} {w' : World} (hE : EnvOK P E) (h : Rel E S who w a.tmps σ) (hs : evOp E o σ K = some r) (hc : calmB o = true) (hr : (execOp a.eval o).run P w = .ok n w') : ∃ v, n = .value v ∧ w' = w := by
  unfold evOp at hs
  cases hfx : flag E.fixed o.dst with
  | true => rw [hfx] at hs; cases hs
  | false =>
  rw [hfx] at hs
  simp only [cond_false] at hs
  unfold calmB at hc
  cases hop : o.op <;> rw [hop] at hc hs <;> first | (cases hc; done) | skip
  case move x => simp only [execOp, hop] at hr; cases hr; exact ⟨_, rfl, rfl⟩
  case assign x => simp only [execOp, hop] at hr; cases hr; exact ⟨_, rfl, rfl⟩
  case pick c x y =>
    have : execOp a.eval o = (do pure (.value (← (do pure (if ← Go.asBool (a.eval c) then a.eval x else a.eval y) : Sem Value))) : Sem Next) := by simp only [execOp, hop, bind_assoc, pure_bind]
    rw [this] at hr
    exact calm_value (.bind (.asBool _) fun _ => .pure _) hr
  case build t ps => exact calm_value (.build _ _) (by simpa only [execOp, hop] using hr)
  case load t x => exact calm_value (.loadAt _ _) (by simpa only [execOp, hop] using hr)
  case nilCheck x =>
    simp only [execOp, hop] at hr
    obtain ⟨hrp, hl⟩ := opnd_spec h x
    dsimp only at hs
    split at hs
    · rename_i cs i hx
      rw [hx] at hrp
      generalize a.eval x = u at hrp hr
      cases hrp
      cases hr; exact ⟨_, rfl, rfl⟩
    · rename_i rr p hx
      rw [hx] at hl
      obtain ⟨b, off, hu⟩ := ptr_val hl
      rw [hu] at hr
      cases hr; exact ⟨_, rfl, rfl⟩
    · rename_i f cs hx
      rw [hx] at hrp
      generalize a.eval x = u at hrp hr
      cases hrp
      cases hr; exact ⟨_, rfl, rfl⟩
    · cases hs
  case binOp op t x y d =>
    obtain ⟨v, u, h1, h2, h3, h4⟩ := evBin_sem (P := P) (ox := x) (oy := y) hE (opnd_spec h x).1 (opnd_spec h y).1 hs
    have : execOp a.eval o = (do pure (.value (← (do eqGuard op t x y (a.eval x) (a.eval y); binOp op t (a.eval x) (a.eval y) : Sem Value))) : Sem Next) := by simp only [execOp, hop]
    rw [this] at hr
    rw [Sem.run_bind, h4] at hr
    simp only [Result.andThen_ok, Sem.run_pure, Result.ok.injEq] at hr
    exact ⟨u, hr.1.symm, hr.2.symm⟩
  case unOp op t x => exact calm_value (.unary _ _) (by simpa only [execOp, hop] using hr)
  case slice t x lo hi mx => exact calm_value (.sliceAt _ _ _ _ _) (by simpa only [execOp, hop] using hr)
  case fieldAddr t x f => exact calm_value (.fieldAt _ _ _) (by simpa only [execOp, hop] using hr)
  case field t x f => exact calm_value (.field _ _ _) (by simpa only [execOp, hop] using hr)
  case indexAddr t x i => exact calm_value (.indexAt _ _ _) (by simpa only [execOp, hop] using hr)
  case index t x i => exact calm_value (.index _ _ _) (by simpa only [execOp, hop] using hr)
  case extract x i => exact calm_value (.extract _ _) (by simpa only [execOp, hop] using hr)
  case call c =>
    dsimp only at hc
    split at hc
    · rename_i hb
      have : execOp a.eval o = (do pure (.value (← Builtin.len_ c.argTypes o.type (c.args.map a.eval))) : Sem Next) := by
        simp only [execOp, hop, resolve, hb, pure_bind, invoke]
        rfl
      rw [this] at hr
      exact calm_value (.len_ _ _ _) hr
    · cases hc

/-- A calm operation, in the world as it is. -/
theorem oper_still {o : Oper} (hE : EnvOK P E) (hC : CallOK P E) (h : Rel E S who w a.tmps σ) (hs : evOp E o σ K = some r) (hc : calmB o = true) :
    ∃ v, (execOp a.eval o).run P w = .ok (.value v) w ∧ Post E r K S who w a (a.put o.dst v) w := by
  have h1 := oper_sound (Q := fun _ _ _ => False) hE hC h hs
  unfold Oper.wp at h1
  cases hr : (execOp a.eval o).run P w with
  | ok n w' =>
    obtain ⟨v, rfl, rfl⟩ := calm_run hE h hs hc hr
    rw [hr] at h1
    exact ⟨v, rfl, h1⟩
  | halt x w' =>
    rw [hr] at h1
    exfalso
    cases x <;> simp only [Oper.upon] at h1
end
end Go.Zv
