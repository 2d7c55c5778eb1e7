/- Zv: a table of functions, and the oracle that runs them. No condition. -/
import Derived.Test.YtdddbifjkkhpbaaGreatDoorZvBody
namespace Go.Zv
open Go

inductive Tr (α : Type) where
  | leaf
  | node (l : Tr α) (k : Nat) (v : α) (r : Tr α)
def Tr.get {α : Type} : Tr α → Nat → Option α
  | .leaf, _ => none
  | .node l k v r, n => cond (Nat.beq n k) (some v) (cond (Nat.blt n k) (l.get n) (r.get n))
def Tr.All {α : Type} (p : Nat → α → Prop) : Tr α → Prop
  | .leaf => True
  | .node l k v r => l.All p ∧ p k v ∧ r.All p
theorem Tr.All.get {α : Type} {p : Nat → α → Prop} : ∀ {t : Tr α}, t.All p → ∀ {n : Nat} {v : α}, t.get n = some v → p n v
  | .leaf, _, n, v, h => by cases h
  | .node l k u r, hA, n, v, h => by
    obtain ⟨h1, h2, h3⟩ := hA
    unfold Tr.get at h
    cases e : Nat.beq n k with
    | true =>
      rw [e] at h
      simp only [cond_true, Option.some.injEq] at h
      subst h
      rw [Nat.eq_of_beq_eq_true e]; exact h2
    | false =>
      rw [e] at h
      simp only [cond_false] at h
      cases e2 : Nat.blt n k with
      | true => rw [e2] at h; exact h1.get h
      | false => rw [e2] at h; exact h3.get h

structure FnI where
  fn : Func
  code : Code
  nests : List Nat
  shares : List Nat
  fixed : List Nat
  keep : List (Nat × List Nat)
  plans : List (Nat × Plan)
structure Tab where
  tys : Tr TI
  glob : Tr (List V)
  fns : Tr FnI
  takes : Tr (List Nat)
  turns : Tr (List Nat)
  flats : Tr Unit
  eqs : Tr Unit
  u8s : Tr Unit

def look {α : Type} (id : Nat) : List (Nat × α) → Option α
  | [] => none
  | (k, v) :: rest => cond (Nat.beq id k) (some v) (look id rest)
def isIn (t : Tr Unit) (n : Nat) : Bool := match t.get n with
  | some _ => true
  | none => false
def listAt (t : Tr (List Nat)) (n : Nat) : List Nat := match t.get n with
  | some l => l
  | none => []
/-- The environment of a function. -/
def envOf (T : Tab) (i : FnI) (call : Nat → List V → Option (V × List V)) : Env :=
  { tys := T.tys.get, glob := T.glob.get,
    call := fun f args K => match call f args with
      | some (res, outs) => K res outs
      | none => none,
    keep := fun id => look id i.keep, plan := fun id => look id i.plans, nests := i.nests, shares := i.shares, takes := listAt T.takes, turns := listAt T.turns, fixed := i.fixed,
    flat := isIn T.flats, eqs := isIn T.eqs, u8s := isIn T.u8s }
/-- The oracle: what is known is asked first, functions of the table are run. -/
def callD (T : Tab) (prims : Nat → List V → Option (V × List V)) (fuel : Nat) : Nat → Nat → List V → Option (V × List V)
  | 0, _, _ => none
  | d + 1, f, args => match prims f args with
    | some r => some r
    | none => match T.fns.get f with
      | some i => runBody (envOf T i (callD T prims fuel d)) fuel i.fn i.code args
      | none => none

section
variable {P : Program} {T : Tab} {prims : Nat → List V → Option (V × List V)}
def FnOK (P : Program) (f : Nat) (i : FnI) : Prop :=
  P.funcs[f]? = some i.fn ∧ (i.fn.name == "runtime.NumGoroutine") = false ∧ i.fn.body = some i.code ∧ codeB (envOf ⟨.leaf, .leaf, .leaf, .leaf, .leaf, .leaf, .leaf, .leaf⟩ i fun _ _ => none) i.code = true
structure TabOK (P : Program) (T : Tab) : Prop where
  ty : T.tys.All (TyOK P)
  eq : T.eqs.All fun t _ => ∀ i, T.tys.get t = some i → EqOK P t i
  u8 : T.u8s.All fun t _ => ∃ e ie, P.underlying t = some (.slice e) ∧ P.underlying e = some (.int .u8) ∧ P.info? e = some ie ∧ ie.size = 1
  fns : T.fns.All (FnOK P)
def PrimsOK (P : Program) (T : Tab) (prims : Nat → List V → Option (V × List V)) : Prop :=
  ∀ f args res outs, prims f args = some (res, outs) → Does P T.glob.get f args res outs

theorem envOK (hT : TabOK P T) (i : FnI) (call : Nat → List V → Option (V × List V)) : EnvOK P (envOf T i call) where
  ty t i h := hT.ty.get h
  eq t i h he := by
    simp only [envOf, isIn] at he
    split at he
    · rename_i u hu
      exact hT.eq.get hu i h
    · cases he
  u8 t he := by
    simp only [envOf, isIn] at he
    split at he
    · rename_i u hu
      exact hT.u8.get hu
    · cases he
theorem codeB_plan {E E' : Env} (h : E.plan = E'.plan) : ∀ c : Code, codeB E c = codeB E' c := by
  intro c
  induction c with
  | region id ops d => simp only [codeB, h]
  | seq x y ihx ihy => simp only [codeB, ihx, ihy]
  | cond o x y ihx ihy => simp only [codeB, ihx, ihy]
  | block id x ih => simp only [codeB, ih]
  | loop x ih => simp only [codeB, ih]
  | scope x ih => simp only [codeB, ih]
  | _ => rfl

/-- **The oracle is right.** -/
theorem callD_sound (hT : TabOK P T) (hp : PrimsOK P T prims) (hm : P.follows .mixedOrders = true) {fuel : Nat} : ∀ (d f : Nat) (args : List V) (res : V) (outs : List V), callD T prims fuel d f args = some (res, outs) → Does P T.glob.get f args res outs
  | 0, _, _, _, _, h => by cases h
  | d + 1, f, args, res, outs, h => by
    simp only [callD] at h
    split at h
    · rename_i r hr
      simp only [Option.some.injEq] at h
      subst h
      exact hp f args res outs hr
    · split at h
      case h_2 => cases h
      rename_i i hi
      obtain ⟨h1, h2, h3, h4⟩ := hT.fns.get hi
      refine runBody_sound (E := envOf T i (callD T prims fuel d)) (envOK hT i _) ?_ hm h1 h2 h3 ?_ h
      · intro R g args' G r hG
        simp only [envOf] at hG
        split at hG
        · rename_i res' outs' hc
          exact ⟨res', outs', hG, callD_sound hT hp hm d g args' res' outs' hc⟩
        · cases hG
      · rw [← h4]
        exact codeB_plan (E := envOf T i (callD T prims fuel d)) (E' := envOf ⟨.leaf, .leaf, .leaf, .leaf, .leaf, .leaf, .leaf, .leaf⟩ i fun _ _ => none) rfl i.code
end
end Go.Zv
