/- Zv: what the pure interpreter is told of types, held against the program. No condition. -/
import Derived.Test.YtdddbifjkkhpbaaGreatDoorZvRel2
namespace Go.Zv
open Go

def KindOK (P : Program) (i : TI) : TypeDesc → Prop
  | .int k => i.kind = .int k
  | .bool => i.kind = .bool
  | .string => i.kind = .str
  | .pointer _ => i.kind = .ptr
  | .func _ _ _ => i.kind = .fn
  | .slice e => ∃ ti z, P.info? e = some ti ∧ ti.zero = some z ∧ i.kind = .slice ti.size ti.bytes ∧ i.ez = z.cells.toList.map ofScalar ∧ ti.size = z.cells.size ∧ 0 < ti.size ∧ ∀ c ∈ z.cells.toList, c.oneCell' = true
  | .array n e => i.kind = .arr n (P.cellsOf e) e ∧ 0 < P.cellsOf e ∧ ∃ ti, P.info? e = some ti
  | .struct fs => ∃ l, i.kind = .struct l ∧ l = fs.toList.map (fun f => (f.offset, f.type, P.cellsOf f.type)) ∧ ∀ f ∈ fs.toList, ∃ ti, P.info? f.type = some ti
  | _ => i.kind = .other

/-- What is told of type t is so. -/
structure TyOK (P : Program) (t : Nat) (i : TI) : Prop where
  under : ∃ d, P.underlying t = some d ∧ KindOK P i d
  info : ∃ ti z, P.info? t = some ti ∧ ti.size = i.size ∧ ti.zero = some z ∧ i.zero = z.cells.toList.map ofScalar ∧ z.cells.size = i.size ∧ ∀ c ∈ z.cells.toList, c.oneCell' = true
  one : i.kind.isAgg = false → i.size = 1

section
variable {P : Program} (w : World)
theorem run_under {t : Nat} {d : TypeDesc} (h : P.underlying t = some d) : (underlying t).run P w = .ok d w := by
  simp [underlying, h]
theorem run_info {t : Nat} {ti : TypeInfo} (h : P.info? t = some ti) : (typeInfo t).run P w = .ok ti w := by
  simp [typeInfo, h]
theorem run_sizeOf {t : Nat} {ti : TypeInfo} (h : P.info? t = some ti) : (sizeOf t).run P w = .ok ti.size w := by
  simp [sizeOf, run_info w h]
theorem run_zero {t : Nat} {ti : TypeInfo} {z : Value} (h : P.info? t = some ti) (hz : ti.zero = some z) : (zeroValue t).run P w = .ok z w := by
  simp [zeroValue, run_info w h, hz]
theorem cellsOf_info {t : Nat} {ti : TypeInfo} (h : P.info? t = some ti) : P.cellsOf t = ti.size := by
  simp [Program.cellsOf, h]
end

theorem KindOK.agg {P : Program} {i : TI} {d : TypeDesc} (h : KindOK P i d) : i.kind.isAgg = true ↔ ∃ x, d = .struct x ∨ ∃ n e, d = .array n e := by
  cases d <;> simp only [KindOK] at h <;> first
    | (simp [h, TK.isAgg]; done)
    | (obtain ⟨ti, z, h1, h2, h3, _⟩ := h; simp [h3, TK.isAgg]; done)
    | (obtain ⟨h, _⟩ := h; simp [h, TK.isAgg]; done)
    | (obtain ⟨l, h, _⟩ := h; simp [h, TK.isAgg]; done)

theorem run_isAgg {P : Program} (w : World) {t : Nat} {i : TI} (h : TyOK P t i) : (isAgg t).run P w = .ok i.kind.isAgg w := by
  obtain ⟨d, hd, hk⟩ := h.under
  have := hk.agg
  simp only [isAgg, Sem.run_bind, run_under w hd, Result.andThen_ok]
  cases e : i.kind.isAgg with
  | true =>
    obtain ⟨x, rfl | ⟨n, e, rfl⟩⟩ := this.1 e <;> rfl
  | false =>
    cases d <;> first
      | rfl
      | exact absurd (this.2 ⟨_, .inl rfl⟩) (by simp [e])
      | exact absurd (this.2 ⟨#[], .inr ⟨_, _, rfl⟩⟩) (by simp [e])

/-- Constants stand for themselves. -/
theorem ofScalar_rep (S : Nat → Prop) (w : World) (c : Value) : Rep S w c (ofScalar c) [] ∧ linkFree (ofScalar c) = true := by
  cases c
  case bool b => exact ⟨.bool _, rfl⟩
  case int k n => exact ⟨.int _ _, rfl⟩
  case string s => exact ⟨.str _, rfl⟩
  case slice a n c =>
    simp only [ofScalar]
    cases e : (Nat.beq n 0 && Nat.beq c 0) with
    | false => exact ⟨.undef _, rfl⟩
    | true =>
      simp only [Bool.and_eq_true, Nat.beq_eq] at e
      obtain ⟨rfl, rfl⟩ := e
      exact ⟨.nilsl _, rfl⟩
  case pointer a =>
    cases a with
    | none => exact ⟨.nilp, rfl⟩
    | some a => exact ⟨.undef _, rfl⟩
  case func fn x y =>
    obtain ⟨x⟩ := x
    obtain ⟨y⟩ := y
    cases fn <;> cases x <;> cases y <;> first | exact ⟨.fn .nil, rfl⟩ | exact ⟨.undef _, rfl⟩
  all_goals exact ⟨.undef _, rfl⟩
theorem ofScalars_rep (S : Nat → Prop) (w : World) : ∀ cs : List Value, Reps S w cs (cs.map ofScalar) []
  | [] => .nil
  | c :: cs => by simpa using Reps.cons (ofScalar_rep S w c).1 (ofScalars_rep S w cs)
theorem ofConst_rep (S : Nat → Prop) (w : World) (c : Value) : Rep S w c (ofConst c) [] ∧ linkFree (ofConst c) = true := by
  cases c
  case agg cs =>
    simp only [ofConst]
    cases e : cs.toList.all Value.oneCell' with
    | false => exact ⟨.undef _, rfl⟩
    | true => exact ⟨.agg (List.all_eq_true.1 e) (ofScalars_rep S w _), rfl⟩
  case tuple cs =>
    obtain ⟨cs⟩ := cs
    cases cs with
    | nil => exact ⟨.tup .nil, rfl⟩
    | cons => exact ⟨.undef _, rfl⟩
  all_goals exact ofScalar_rep S w _
theorem Rep.link {S : Nat → Prop} {w : World} {u : Value} {v : V} {O : List Nat} (hr : Rep S w u v O) (hf : linkFree v = true) {tm : Array Value} {σ : List V} : Link w tm σ u v := by
  cases v <;> first | trivial | cases hf | skip
  case fn f caps =>
    cases hr with
    | @fn _ cs _ h =>
      have hl : ∀ {l : List Value} {xs : List V} {O : List Nat}, Reps S w l xs O → l.length = xs.length := by
        intro l xs O h
        induction xs generalizing l O with
        | nil => cases h; rfl
        | cons x xs ih => cases h with
          | cons h1 h2 => simp [ih h2]
      refine ⟨cs, rfl, by simpa using hl h, fun i => ?_⟩
      simp only [linkFree, List.all_eq_true] at hf
      by_cases hi : i < caps.length
      · have hm : caps.getD i .undef ∈ caps := by rw [List.getD_eq_getElem?_getD, List.getElem?_eq_getElem hi]; simp
        have := hf _ hm
        cases e : caps.getD i .undef <;> rw [e] at this <;> first | trivial | cases this
      · rw [List.getD_eq_getElem?_getD, List.getElem?_eq_none (by omega)]; trivial

theorem Rep.plain {S : Nat → Prop} {w : World} {u : Value} {v : V} {O : List Nat} (hr : Rep S w u v O) (h1 : Cont v = false) (h2 : ∀ a l, v ≠ .tup (a :: l)) : O = [] := by
  cases hr <;> first | rfl | cases h1 | skip
  case tup cs vs h =>
    cases vs with
    | nil =>
      have : ∀ {l : List Value} {O : List Nat}, Reps S w l [] O → O = [] := fun h => by cases h; rfl
      exact this h
    | cons a l => exact absurd rfl (h2 _ _)

/-- An operand's value. -/
theorem opnd_spec {E : Env} {S : Nat → Prop} {who : Nat → Option Nat} {w : World} {a : Act} {σ : List V} (h : Rel E S who w a.tmps σ) (x : Operand) :
    Rep S w (a.eval x) (opnd E σ x) [] ∧ Link w a.tmps σ (a.eval x) (opnd E σ x) := by
  cases x with
  | const c => exact ⟨(ofConst_rep S w c).1, (ofConst_rep S w c).1.link (ofConst_rep S w c).2⟩
  | func f => exact ⟨.fn .nil, ⟨#[], rfl, rfl, fun i => by simp [Link1]⟩⟩
  | global g =>
    simp only [opnd]
    cases e : E.glob g with
    | none => exact ⟨.undef _, trivial⟩
    | some cs =>
      obtain ⟨h1, h2⟩ := h.glob g cs e
      exact ⟨.iptr h1 rfl h2, trivial⟩
  | tmp t =>
    obtain ⟨O, hO, _, _⟩ := h.rep t
    have hl := h.link t
    have he : a.eval (.tmp t) = a.tmps.getD t undef := rfl
    rw [he]
    simp only [opnd]
    cases e : gt σ t <;> rw [e] at hO hl
    case own n k rows => exact ⟨.ref _ _ _, .inl ⟨rfl, fun _ => rfl⟩⟩
    case obox cells =>
      refine ⟨.ptr _ _ _, ?_⟩
      generalize hu : a.tmps.getD t undef = u at hO
      cases hO with
      | @obox b _ O h1 h2 => exact ⟨[], 0, 0, _, .obox cells, b, 0, rfl, by rw [e, hu]; exact .nil _ _, .box, rfl⟩
    case tup vs =>
      cases vs with
      | nil => exact ⟨(hO.plain rfl (by simp)) ▸ hO, trivial⟩
      | cons => exact ⟨.undef _, trivial⟩
    all_goals exact ⟨(hO.plain rfl (by simp)) ▸ hO, hl⟩

end Go.Zv
