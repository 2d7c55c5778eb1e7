/- Zv: earlier calls are looked up. No condition. -/
import Derived.Test.YtdddbifjkkhpbaaGreatDoorZvChk
namespace Go.Zv
open Go

def beqI : Int → Int → Bool
  | .ofNat a, .ofNat b => Nat.beq a b
  | .negSucc a, .negSucc b => Nat.beq a b
  | _, _ => false
theorem beqI_eq {a b : Int} (h : beqI a b = true) : a = b := by
  unfold beqI at h
  split at h
  · rw [Nat.eq_of_beq_eq_true h]
  · rw [Nat.eq_of_beq_eq_true h]
  · cases h
def beqS : List UInt8 → List UInt8 → Bool
  | [], [] => true
  | x :: xs, y :: ys => cond (Nat.beq x.toNat y.toNat) (beqS xs ys) false
  | _, _ => false
theorem beqS_eq : ∀ {a b : List UInt8}, beqS a b = true → a = b
  | [], [], _ => rfl
  | x :: xs, y :: ys, h => by
    simp only [beqS] at h
    cases e : Nat.beq x.toNat y.toNat with
    | false => rw [e] at h; cases h
    | true =>
      rw [e, cond_true] at h
      rw [UInt8.toNat_inj.1 (Nat.eq_of_beq_eq_true e), beqS_eq h]
  | [], _ :: _, h => by cases h
  | _ :: _, [], h => by cases h
def beqL {α : Type} (f : α → α → Bool) : List α → List α → Bool
  | [], [] => true
  | x :: xs, y :: ys => cond (f x y) (beqL f xs ys) false
  | _, _ => false
theorem beqL_eq {α : Type} {f : α → α → Bool} (hf : ∀ {a b}, f a b = true → a = b) : ∀ {a b : List α}, beqL f a b = true → a = b
  | [], [], _ => rfl
  | x :: xs, y :: ys, h => by
    simp only [beqL] at h
    cases e : f x y with
    | false => rw [e] at h; cases h
    | true =>
      rw [e, cond_true] at h
      rw [hf e, beqL_eq hf h]
  | [], _ :: _, h => by cases h
  | _ :: _, [], h => by cases h
def beqStep (a b : Nat × Nat) : Bool := cond (Nat.beq a.1 b.1) (Nat.beq a.2 b.2) false
theorem beqStep_eq {a b : Nat × Nat} (h : beqStep a b = true) : a = b := by
  unfold beqStep at h
  cases e : Nat.beq a.1 b.1 with
  | false => rw [e] at h; cases h
  | true =>
    rw [e, cond_true] at h
    exact Prod.ext (Nat.eq_of_beq_eq_true e) (Nat.eq_of_beq_eq_true h)
def beqB : Bool → Bool → Bool
  | true, true => true
  | false, false => true
  | _, _ => false
theorem beqB_eq {a b : Bool} (h : beqB a b = true) : a = b := by cases a <;> cases b <;> first | rfl | cases h
/-- Values are the same (so deep). -/
def beqV : Nat → V → V → Bool
  | 0, _, _ => false
  | d + 1, a, b => match a with
    | .undef => (match b with | .undef => true | _ => false)
    | .nilsl => (match b with | .nilsl => true | _ => false)
    | .nilp => (match b with | .nilp => true | _ => false)
    | .int k n => (match b with | .int k' n' => cond (beqI n n') (decide (k = k')) false | _ => false)
    | .bool x => (match b with | .bool y => beqB x y | _ => false)
    | .str s => (match b with | .str t => beqS s t | _ => false)
    | .agg cs => (match b with | .agg ds => beqL (beqV d) cs ds | _ => false)
    | .tup cs => (match b with | .tup ds => beqL (beqV d) cs ds | _ => false)
    | .cl x => (match b with | .cl y => beqV d x y | _ => false)
    | .sl k f rows => (match b with | .sl k' f' rows' => cond (Nat.beq k k') (cond (beqB f f') (beqL (beqL (beqV d)) rows rows') false) false | _ => false)
    | .own k f rows => (match b with | .own k' f' rows' => cond (beqB k k') (cond (Nat.beq f f') (beqL (beqL (beqV d)) rows rows') false) false | _ => false)
    | .obox cs => (match b with | .obox ds => beqL (beqV d) cs ds | _ => false)
    | .ptr r p => (match b with | .ptr r' p' => cond (Nat.beq r r') (beqL beqStep p p') false | _ => false)
    | .ref r p => (match b with | .ref r' p' => cond (Nat.beq r r') (beqL beqStep p p') false | _ => false)
    | .iptr cs o => (match b with | .iptr ds o' => cond (Nat.beq o o') (beqL (beqV d) cs ds) false | _ => false)
    | .bsl r p n => (match b with | .bsl r' p' n' => cond (Nat.beq r r') (cond (Nat.beq n n') (beqL beqStep p p') false) false | _ => false)
    | .fn f cs => (match b with | .fn g ds => cond (Nat.beq f g) (beqL (beqV d) cs ds) false | _ => false)
theorem and_of_cond {a b : Bool} (h : cond a b false = true) : a = true ∧ b = true := by cases a <;> simp_all
theorem beqV_eq : ∀ {d : Nat} {a b : V}, beqV d a b = true → a = b
  | 0, _, _, h => by cases h
  | d + 1, a, b, h => by
    unfold beqV at h
    split at h <;> split at h <;> first | (cases h; done) | skip
    · rfl
    · rfl
    · rfl
    · obtain ⟨h1, h2⟩ := and_of_cond h
      rw [beqI_eq h1, of_decide_eq_true h2]
    · rw [beqB_eq h]
    · rw [beqS_eq h]
    · rw [beqL_eq beqV_eq h]
    · rw [beqL_eq beqV_eq h]
    · rw [beqV_eq h]
    · obtain ⟨h1, h2⟩ := and_of_cond h
      obtain ⟨h2, h3⟩ := and_of_cond h2
      rw [Nat.eq_of_beq_eq_true h1, beqB_eq h2, beqL_eq (beqL_eq beqV_eq) h3]
    · obtain ⟨h1, h2⟩ := and_of_cond h
      obtain ⟨h2, h3⟩ := and_of_cond h2
      rw [Nat.eq_of_beq_eq_true h2, beqB_eq h1, beqL_eq (beqL_eq beqV_eq) h3]
    · rw [beqL_eq beqV_eq h]
    · obtain ⟨h1, h2⟩ := and_of_cond h
      rw [Nat.eq_of_beq_eq_true h1, beqL_eq beqStep_eq h2]
    · obtain ⟨h1, h2⟩ := and_of_cond h
      rw [Nat.eq_of_beq_eq_true h1, beqL_eq beqStep_eq h2]
    · obtain ⟨h1, h2⟩ := and_of_cond h
      rw [Nat.eq_of_beq_eq_true h1, beqL_eq beqV_eq h2]
    · obtain ⟨h1, h2⟩ := and_of_cond h
      obtain ⟨h2, h3⟩ := and_of_cond h2
      rw [Nat.eq_of_beq_eq_true h1, Nat.eq_of_beq_eq_true h2, beqL_eq beqStep_eq h3]
    · obtain ⟨h1, h2⟩ := and_of_cond h
      rw [Nat.eq_of_beq_eq_true h1, beqL_eq beqV_eq h2]

/-- A call that was made: function, arguments, result, what the lent ones hold behind it. -/
structure Ent where
  args : List V
  res : V
  outs : List V
def findE (args : List V) : List Ent → Option (V × List V)
  | [] => none
  | e :: rest => cond (beqL (beqV 12) args e.args) (some (e.res, e.outs)) (findE args rest)
/-- What is known, and what was called. -/
def primsM (prims : Nat → List V → Option (V × List V)) (M : Tr (List Ent)) (f : Nat) (args : List V) : Option (V × List V) :=
  match M.get f with
  | some l => (match findE args l with
    | some r => some r
    | none => prims f args)
  | none => prims f args
def LAll {α : Type} (p : α → Prop) : List α → Prop
  | [] => True
  | e :: l => p e ∧ LAll p l
def entB (T : Tab) (prims : Nat → List V → Option (V × List V)) (fuel d f : Nat) (e : Ent) : Bool :=
  match callD T prims fuel d f e.args with
  | some (res, outs) => cond (beqV 12 res e.res) (beqL (beqV 12) outs e.outs) false
  | none => false
theorem entB_ok {T : Tab} {prims : Nat → List V → Option (V × List V)} {fuel d f : Nat} {e : Ent} (h : entB T prims fuel d f e = true) : callD T prims fuel d f e.args = some (e.res, e.outs) := by
  unfold entB at h
  split at h
  · rename_i res outs hc
    obtain ⟨h1, h2⟩ := and_of_cond h
    rw [hc, beqV_eq h1, beqL_eq beqV_eq h2]
  · cases h
theorem primsM_ok {P : Program} {T : Tab} {prims : Nat → List V → Option (V × List V)} {fuel d : Nat} {M : Tr (List Ent)} (hT : TabOK P T) (hp : PrimsOK P T prims) (hm : P.follows .mixedOrders = true)
    (hM : M.All fun f l => LAll (fun e => entB T prims fuel d f e = true) l) : PrimsOK P T (primsM prims M) := by
  intro f args res outs h
  unfold primsM at h
  split at h
  · rename_i l hl
    have hA := hM.get hl
    split at h
    · rename_i r hr
      simp only [Option.some.injEq] at h
      subst h
      clear hl hM
      induction l with
      | nil => cases hr
      | cons e l ih =>
        simp only [findE] at hr
        cases hb : beqL (beqV 12) args e.args with
        | false => rw [hb, cond_false] at hr; exact ih hA.2 hr
        | true =>
          rw [hb, cond_true] at hr
          simp only [Option.some.injEq, Prod.mk.injEq] at hr
          have ha := beqL_eq beqV_eq hb
          have hc := entB_ok hA.1
          rw [← ha, hr.1, hr.2] at hc
          exact callD_sound hT hp hm d f args res outs hc
    · exact hp f args res outs h
  · exact hp f args res outs h
end Go.Zv
