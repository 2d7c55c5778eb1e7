/- Zv: checks of a table's rows, by evaluation. No condition. -/
import Derived.Test.YtdddbifjkkhpbaaGreatDoorZvEnv
namespace Go.Zv
open Go

def isScal (v : V) (c : Value) : Bool :=
  match v, ofScalar c with
  | .int k n, .int k' n' => decide (k = k') && decide (n = n')
  | .bool b, .bool b' => b == b'
  | .str s, .str s' => s == s'
  | .nilsl, .nilsl => true
  | .nilp, .nilp => true
  | .undef, .undef => true
  | .fn f [], .fn g [] => Nat.beq f g
  | _, _ => false
theorem isScal_eq {v : V} {c : Value} (h : isScal v c = true) : v = ofScalar c := by
  unfold isScal at h
  generalize ofScalar c = u at h ⊢
  split at h
  · simp only [Bool.and_eq_true, decide_eq_true_eq] at h; rw [h.1, h.2]
  · rw [beq_iff_eq] at h; rw [h]
  · rw [beq_iff_eq] at h; rw [h]
  · rfl
  · rfl
  · rfl
  · rw [Nat.eq_of_beq_eq_true h]
  · cases h
def areScal : List V → List Value → Bool
  | [], [] => true
  | v :: vs, c :: cs => isScal v c && areScal vs cs
  | _, _ => false
theorem areScal_eq : ∀ {vs : List V} {cs : List Value}, areScal vs cs = true → vs = cs.map ofScalar
  | [], [], _ => rfl
  | v :: vs, c :: cs, h => by
    simp only [areScal, Bool.and_eq_true] at h
    rw [isScal_eq h.1, areScal_eq h.2]; rfl
  | [], _ :: _, h => by cases h
  | _ :: _, [], h => by cases h
def fieldsB (P : Program) : List (Nat × Nat × Nat) → List Field → Bool
  | [], [] => true
  | (o, t, n) :: l, f :: fs => Nat.beq o f.offset && Nat.beq t f.type && Nat.beq n (P.cellsOf f.type) && (P.info? f.type).isSome && fieldsB P l fs
  | _, _ => false
theorem fieldsB_eq {P : Program} : ∀ {l : List (Nat × Nat × Nat)} {fs : List Field}, fieldsB P l fs = true → l = fs.map (fun f => (f.offset, f.type, P.cellsOf f.type)) ∧ ∀ f ∈ fs, ∃ ti, P.info? f.type = some ti
  | [], [], _ => ⟨rfl, by simp⟩
  | (o, t, n) :: l, f :: fs, h => by
    simp only [fieldsB, Bool.and_eq_true] at h
    obtain ⟨⟨⟨⟨h1, h2⟩, h3⟩, h4⟩, h5⟩ := h
    obtain ⟨g1, g2⟩ := fieldsB_eq h5
    rw [Nat.eq_of_beq_eq_true h1, Nat.eq_of_beq_eq_true h2, Nat.eq_of_beq_eq_true h3, g1]
    refine ⟨rfl, fun x hx => ?_⟩
    rcases List.mem_cons.1 hx with rfl | hx
    · exact Option.isSome_iff_exists.1 h4
    · exact g2 x hx
  | [], _ :: _, h => by cases h
  | _ :: _, [], h => by cases h
def kindB (P : Program) (i : TI) (d : TypeDesc) : Bool :=
  match d with
  | .int k => (match i.kind with
    | .int k' => decide (k = k')
    | _ => false)
  | .bool => (match i.kind with
    | .bool => true
    | _ => false)
  | .string => (match i.kind with
    | .str => true
    | _ => false)
  | .pointer _ => (match i.kind with
    | .ptr => true
    | _ => false)
  | .func _ _ _ => (match i.kind with
    | .fn => true
    | _ => false)
  | .slice e => (match i.kind with
    | .slice k b => (match P.info? e with
      | some ti => (match ti.zero with
        | some z => Nat.beq k ti.size && Nat.beq b ti.bytes && areScal i.ez z.cells.toList && Nat.beq ti.size z.cells.size && Nat.blt 0 ti.size && z.cells.toList.all Value.oneCell'
        | none => false)
      | none => false)
    | _ => false)
  | .array n e => (match i.kind with
    | .arr n' k e' => Nat.beq n n' && Nat.beq e e' && Nat.beq k (P.cellsOf e) && Nat.blt 0 k && (P.info? e).isSome
    | _ => false)
  | .struct fs => (match i.kind with
    | .struct l => fieldsB P l fs.toList
    | _ => false)
  | _ => false
theorem kindB_ok {P : Program} {i : TI} {d : TypeDesc} (h : kindB P i d = true) : KindOK P i d := by
  unfold kindB at h
  split at h
  · split at h
    · rename_i e; simp only [decide_eq_true_eq] at h; subst h; exact e
    · cases h
  · split at h
    · rename_i e; exact e
    · cases h
  · split at h
    · rename_i e; exact e
    · cases h
  · split at h
    · rename_i e; exact e
    · cases h
  · split at h
    · rename_i e; exact e
    · cases h
  · split at h
    · rename_i k b e
      split at h
      · rename_i ti hti
        split at h
        · rename_i z hz
          simp only [Bool.and_eq_true] at h
          obtain ⟨⟨⟨⟨⟨h1, h2⟩, h3⟩, h4⟩, h5⟩, h6⟩ := h
          refine ⟨ti, z, hti, hz, ?_, areScal_eq h3, Nat.eq_of_beq_eq_true h4, by simp [Nat.blt] at h5; omega, List.all_eq_true.1 h6⟩
          rw [e, Nat.eq_of_beq_eq_true h1, Nat.eq_of_beq_eq_true h2]
        · cases h
      · cases h
    · cases h
  · split at h
    · rename_i n' k e' e
      simp only [Bool.and_eq_true] at h
      obtain ⟨⟨⟨⟨h1, h2⟩, h3⟩, h4⟩, h5⟩ := h
      have h3' := Nat.eq_of_beq_eq_true h3
      have h2' := Nat.eq_of_beq_eq_true h2
      subst h2'
      refine ⟨?_, by rw [← h3']; simp [Nat.blt] at h4; omega, Option.isSome_iff_exists.1 h5⟩
      rw [e, Nat.eq_of_beq_eq_true h1, h3']
    · cases h
  · split at h
    · rename_i l e
      obtain ⟨g1, g2⟩ := fieldsB_eq h
      exact ⟨l, e, g1, g2⟩
    · cases h
  · cases h

def tyB (P : Program) (t : Nat) (i : TI) : Bool :=
  match P.underlying t, P.info? t with
  | some d, some ti => (match ti.zero with
    | some z => kindB P i d && Nat.beq ti.size i.size && areScal i.zero z.cells.toList && Nat.beq z.cells.size i.size && z.cells.toList.all Value.oneCell' && (i.kind.isAgg || Nat.beq i.size 1)
    | none => false)
  | _, _ => false
theorem tyB_ok {P : Program} {t : Nat} {i : TI} (h : tyB P t i = true) : TyOK P t i := by
  unfold tyB at h
  split at h
  · rename_i d ti hd hti
    split at h
    · rename_i z hz
      simp only [Bool.and_eq_true, Bool.or_eq_true] at h
      obtain ⟨⟨⟨⟨⟨h1, h2⟩, h3⟩, h4⟩, h5⟩, h6⟩ := h
      refine ⟨⟨d, hd, kindB_ok h1⟩, ⟨ti, z, hti, Nat.eq_of_beq_eq_true h2, hz, areScal_eq h3, Nat.eq_of_beq_eq_true h4, List.all_eq_true.1 h5⟩, fun ha => ?_⟩
      rcases h6 with h6 | h6
      · rw [ha] at h6; cases h6
      · exact Nat.eq_of_beq_eq_true h6
    · cases h
  · cases h
def u8B (P : Program) (t : Nat) : Bool :=
  match P.underlying t with
  | some (.slice e) => (match P.underlying e, P.info? e with
    | some (.int k), some ie => decide (k = .u8) && Nat.beq ie.size 1
    | _, _ => false)
  | _ => false
theorem u8B_ok {P : Program} {t : Nat} (h : u8B P t = true) : ∃ e ie, P.underlying t = some (.slice e) ∧ P.underlying e = some (.int .u8) ∧ P.info? e = some ie ∧ ie.size = 1 := by
  unfold u8B at h
  split at h
  · rename_i e he
    split at h
    · rename_i k ie h1 h2
      simp only [Bool.and_eq_true, decide_eq_true_eq] at h
      obtain ⟨rfl, h⟩ := h
      exact ⟨e, ie, he, h1, h2, Nat.eq_of_beq_eq_true h⟩
    · cases h
  · cases h

def Tr.allB {α : Type} (p : Nat → α → Bool) : Tr α → Bool
  | .leaf => true
  | .node l k v r => l.allB p && p k v && r.allB p
theorem Tr.allB_all {α : Type} {p : Nat → α → Bool} {q : Nat → α → Prop} (hpq : ∀ k v, p k v = true → q k v) : ∀ {t : Tr α}, t.allB p = true → t.All q
  | .leaf, _ => trivial
  | .node l k v r, h => by
    simp only [Tr.allB, Bool.and_eq_true] at h
    exact ⟨Tr.allB_all hpq h.1.1, hpq k v h.1.2, Tr.allB_all hpq h.2⟩
def codeOf (fn : Func) : Code := match fn.body with
  | some c => c
  | none => .skip
end Go.Zv
