/- Zv: a pure interpreter of the translated code over values, and that it is right. No condition. -/
import Derived.Test.YtloekbdlmikkcaaGreatDoorZvC6
import Derived.Deep.Slices
import Derived.ChangeArms
import Derived.ChangeShapes
import Derived.Below
namespace Go.Zv
open Go
def ix {α : Type} (l : List α) (i : Int) : Option α := if 0 ≤ i then l[i.toNat]? else none
theorem ix_some {α : Type} {l : List α} {i : Int} {x : α} (h : ix l i = some x) : (0 ≤ i ∧ i < (l.length : Int)) ∧ i.toNat < l.length ∧ l[i.toNat]? = some x := by
 unfold ix at h
 split at h
 ·
  rename_i h0
  obtain ⟨h1, _⟩ := List.getElem?_eq_some_iff.1 h
  exact ⟨⟨h0, by omega⟩, h1, h⟩
 ·
  cases h
def ixO {α : Type} (l : List (Option α)) (i : Int) : Option α := (ix l i).bind fun x => x
theorem ixO_some {α : Type} {l : List (Option α)} {i : Int} {x : α} (h : ixO l i = some x) : (0 ≤ i ∧ i < (l.length : Int)) ∧ i.toNat < l.length ∧ l[i.toNat]? = some (some x) := by
 unfold ixO at h
 obtain ⟨y, h1, h2⟩ := Option.bind_eq_some_iff.1 h
 subst h2
 exact ix_some h1
def rng (x : Int) : Option Int := if -9223372036854775808 ≤ x ∧ x < 9223372036854775808 then some x else none
theorem rng_some {x y : Int} (h : rng x = some y) : y = x ∧ IntKind.i64.wrap x = x := by
 unfold rng at h
 split at h
 ·
  rename_i h0
  exact ⟨by cases h; rfl, by rw [Go.IntKind.wrap_i64] <;> omega⟩
 ·
  cases h
def cutI {α : Type} (l : List α) (lo hi : Int) : Option (List α) := if 0 ≤ lo ∧ lo ≤ hi ∧ hi ≤ (l.length : Int) then some ((l.take hi.toNat).drop lo.toNat) else none
theorem cutI_some {α : Type} {l r : List α} {lo hi : Int} (h : cutI l lo hi = some r) : 0 ≤ lo ∧ lo ≤ hi ∧ 0 ≤ hi ∧ hi ≤ (l.length : Int) ∧ r = (l.take hi.toNat).drop lo.toNat := by
 unfold cutI at h
 split at h
 ·
  rename_i h0
  exact ⟨h0.1, h0.2.1, by omega, h0.2.2, by cases h; rfl⟩
 ·
  cases h
def need (p : Prop) [Decidable p] : Option Unit := if p then some () else none
theorem need_some {p : Prop} [Decidable p] {u : Unit} (h : need p = some u) : p := by
 unfold need at h
 split at h
 ·
  assumption
 ·
  cases h
theorem bind_some {α β : Type} {o : Option α} {f : α → Option β} {r : β} (h : o.bind f = some r) : ∃ x, o = some x ∧ f x = some r := Option.bind_eq_some_iff.1 h
def encB (b : UInt8) : List V := [.int .u8 b.toNat]
theorem bVe (s : List UInt8) : bytesV s = s.map encB := rfl
def encS (s : List UInt8) : List V := [.str s]
def encI (n : Int) : List V := [.int .i64 n]
theorem asBytes_map (s : List UInt8) : asBytes (s.map encB) = some s := by
 induction s with
 | nil => rfl
 | cons b s ih => simp [asBytes, encB, asInt, ih]
theorem wrapL {x : Int} (h1 : -9223372036854775808 ≤ x) (h2 : x < 9223372036854775808) : IntKind.i64.wrap x = x := by rw [Go.IntKind.wrap_i64] <;> omega
theorem wrapLu8 {x : Int} (h1 : 0 ≤ x) (h2 : x < 256) : IntKind.u8.wrap x = x := by simp [IntKind.wrap, IntKind.bits, IntKind.signed]; omega
theorem wrapLu64 {x : Int} (h1 : 0 ≤ x) (h2 : x < 18446744073709551616) : IntKind.u64.wrap x = x := by simp [IntKind.wrap, IntKind.bits, IntKind.signed]; omega
theorem wrapLu32 {x : Int} (h1 : 0 ≤ x) (h2 : x < 4294967296) : IntKind.u32.wrap x = x := by simp [IntKind.wrap, IntKind.bits, IntKind.signed]; omega
theorem wrapLi32 {x : Int} (h1 : -2147483648 ≤ x) (h2 : x < 2147483648) : IntKind.i32.wrap x = x := by simp [IntKind.wrap, IntKind.bits, IntKind.signed]; omega
def lmt {α : Type} (l : List α) : Option (List α) := if l.length ≤ lim then some l else none
def insI {α : Type} (l : List α) (i : Int) (ys : List α) : Option (List α) := if 0 ≤ i ∧ i ≤ (l.length : Int) ∧ 0 < ys.length ∧ l.length + ys.length ≤ lim then some (l.take i.toNat ++ (ys ++ l.drop i.toNat)) else none
def delI {α : Type} (l : List α) (i j : Int) : Option (List α) := if 0 ≤ i ∧ i < j ∧ j ≤ (l.length : Int) ∧ l.length ≤ lim then some (l.take i.toNat ++ l.drop j.toNat) else none
theorem itp {α : Type} {c : Prop} [Decidable c] {a b r : α} (h : (if c then a else b) = r) (hc : c) : a = r := by rw [if_pos hc] at h; exact h
theorem itn {α : Type} {c : Prop} [Decidable c] {a b r : α} (h : (if c then a else b) = r) (hc : ¬ c) : b = r := by rw [if_neg hc] at h; exact h
theorem rngw {x y : Int} (h : rng x = some y) : IntKind.i64.wrap x = y := by rw [(rng_some h).2, (rng_some h).1]
theorem gDm {α : Type} {e : α → List V} {l : List α} {i : Nat} {x : α} (h : l[i]? = some x) : (l.map e).getD i [] = e x := by
 rw [List.getD_eq_getElem?_getD, List.getElem?_map, h]; rfl
theorem gDu {l : List UInt8} {i : Nat} {x : UInt8} (h : l[i]? = some x) : l.getD i 0 = x := by
 rw [List.getD_eq_getElem?_getD, h]; rfl
theorem cl {T : Tab} {prims : Nat → List V → Option (V × List V)} {n m g : Nat} {as : List V} {r : Option (V × List V)} {call : Nat → List V → Option (V × List V)} (hcd : call = callD T prims n m) (h : callD T prims n m g as = r) : call g as = r := by rw [hcd]; exact h
theorem loop_F {β R : Type} {E : Env} {x : Code} {K : XE → List V → Option R} {r : R} (id : Nat) (ks : List Nat) (hd : headReg x = some id) (hk : E.keep id = some ks) (st : β → List V) (P : Nat → β → Prop) (h0 : ∀ b, ¬ P 0 b)
  (hstep : ∀ m b, P (m + 1) b → ∀ (L : Code → List V → (XE → List V → Option R) → Option R) (_ : L = loopR E m) (K' : XE → List V → Option R), (∀ σ' b', P m b' → keepOnly ks σ' = st b' → K' .normal σ' = some r) →
   (∀ i σ', K' (.exit i) σ' = K (.exit i) σ') → (∀ σ', K' .ret σ' = K .ret σ') → runC E L x (st b) K' = some r) :
  ∀ (n : Nat) (b : β) (σ : List V), P n b → keepOnly ks σ = st b → loopR E n x σ K = some r
 | 0, b, σ, hP, _ => absurd hP (h0 b)
 | n + 1, b, σ, hP, hσ => by
  unfold loopR
  rw [runC_keep hd hk, hσ]
  exact hstep n b hP _ rfl _ (fun σ' b' hP' hσ' => loop_F id ks hd hk st P h0 hstep n b' σ' hP' hσ') (fun _ _ => rfl) fun _ => rfl
theorem jR {R : Type} {E : Env} {L : Code → List V → (XE → List V → Option R) → Option R} {x : Code} {K : XE → List V → Option R} {r : R} {σ σ1 : List V} (id : Nat) (ks : List Nat) (hd : headReg x = some id) (hk : E.keep id = some ks) (hσ : keepOnly ks σ = σ1) (h : runC E L x σ1 K = some r) : runC E L x σ K = some r := by
 rw [runC_keep hd hk, hσ]; exact h
theorem call_rule {T : Tab} {prims : Nat → List V → Option (V × List V)} {fuel d f : Nat} {i : FnI} {args : List V} {r : V × List V} (hp : prims f args = none) (hi : T.fns.get f = some i) (h : runBody (envOf T i (callD T prims fuel d)) fuel i.fn i.code args = some r) : callD T prims fuel (d + 1) f args = some r := by
 simp only [callD, hp, hi, h]
theorem prim_rule {T : Tab} {prims : Nat → List V → Option (V × List V)} {fuel d f : Nat} {args : List V} {r : V × List V} (hp : prims f args = some r) : callD T prims fuel (d + 1) f args = some r := by
 simp only [callD, hp]
theorem set_getD_self {σ : List V} {d : Nat} {v : V} (h : σ.getD d .ud = v) (hv : v ≠ .ud) : σ.set d v = σ := by
 apply List.ext_getElem?
 intro i
 rw [List.getElem?_set]
 by_cases hi : d = i
 ·
  subst hi
  rw [List.getD_eq_getElem?_getD] at h
  cases e : σ[d]? with
  | none => rw [e] at h; exact absurd h.symm hv
  | some x =>
   rw [e] at h
   obtain ⟨hl, _⟩ := List.getElem?_eq_some_iff.1 e
   simp [hl]; exact h.symm
 ·
  simp [hi]
section
variable {R : Type} {E : Env} {L : Code → List V → (XE → List V → Option R) → Option R} {r : R} {K : XE → List V → Option R} {σ : List V}
theorem sq {a b : Code} (h : ∀ K1 : XE → List V → Option R, (∀ σ', K1 .normal σ' = runC E L b σ' K) → (∀ i σ', K1 (.exit i) σ' = K (.exit i) σ') → (∀ σ', K1 .ret σ' = K .ret σ') → runC E L a σ K1 = some r) : runC E L (.seq a b) σ K = some r := seq_rule h
theorem sr {id : Nat} {ops : Array Oper} {d : Bool} {l : List Oper} {b : Code} (hl : ops.toList = l) (h : ∀ k1 : List V → Option R, (∀ σ', k1 σ' = runC E L b σ' K) → runOps E ops l σ k1 = some r) (hp : E.plan id = none := by rfl) (hk : E.keep id = none := by rfl) : runC E L (.seq (.region id ops d) b) σ K = some r := by
 simp only [runC, hp, hk, hl]
 exact h _ fun _ => rfl
theorem srk {id : Nat} {ops : Array Oper} {d : Bool} {l : List Oper} {b : Code} {ks : List Nat} {σ1 : List V} (hk : E.keep id = some ks) (hs : keepOnly ks σ = σ1) (hl : ops.toList = l) (h : ∀ k1 : List V → Option R, (∀ σ', k1 σ' = runC E L b σ' K) → runOps E ops l σ1 k1 = some r) (hp : E.plan id = none := by rfl) : runC E L (.seq (.region id ops d) b) σ K = some r := by
 simp only [runC, hp, hk, hl, forceL_eq, hs]
 exact h _ fun _ => rfl
theorem nR {all : Array Oper} {k G : List V → Option R} (h0 : ∀ σ, k σ = G σ) (h : G σ = some r) : runOps E all [] σ k = some r := (h0 σ).trans h
theorem oR {all : Array Oper} {o : Oper} {rest : List Oper} {K : List V → Option R} (h : ∀ k1 : List V → Option R, (∀ σ', k1 σ' = runOps E all rest σ' K) → gstep E all o σ k1 = some r) : runOps E all (o :: rest) σ K = some r := op_rule h
end
theorem itf {α : Type} {e : Bool} {a b r : α} (h : (if e = true then a else b) = r) (hb : e = false) : b = r := by subst hb; exact h
def gv (b : Bool) (v : V) : V := cond b v (.tup [])
theorem gv_true (v : V) : gv true v = v := rfl
theorem gv_false (v : V) : gv false v = .tup [] := rfl
theorem gv_pos {b : Bool} {v : V} (h : b = true) : gv b v = v := by rw [h]; rfl
theorem gv_neg {b : Bool} {v : V} (h : b = false) : gv b v = .tup [] := by rw [h]; rfl
theorem into_gv (d : Nat) (b : Bool) (v : V) : into d (gv b v) = (b && into d v) := by cases b <;> rfl
theorem stale_gv (r d : Nat) (b : Bool) (v : V) : stale r d (gv b v) = (b && stale r d v) := by cases b <;> rfl
theorem refAt_gv (r d : Nat) (b : Bool) (v : V) : refAt r d (gv b v) = (b && refAt r d v) := by cases b <;> rfl
theorem rootIn_gv (ks : List Nat) (b : Bool) (v : V) : rootIn ks (gv b v) = (!b || rootIn ks v) := by cases b <;> rfl
theorem hits_gv (ks : List Nat) (b : Bool) (v : V) : hits ks (gv b v) = (b && hits ks v) := by cases b <;> rfl
theorem dropRoot_nil (r : Nat) : dropRoot r [] = [] := rfl
theorem dropRoot_cons (r : Nat) (v : V) (σ : List V) : dropRoot r (v :: σ) = cond (into r v) .ud v :: dropRoot r σ := rfl
theorem drop_nil (r d : Nat) : drop r d [] = [] := rfl
theorem drop_cons (r d : Nat) (v : V) (σ : List V) : drop r d (v :: σ) = cond (stale r d v) .ud v :: drop r d σ := rfl
theorem dropRef_nil (r d : Nat) : dropRef r d [] = [] := rfl
theorem dropRef_cons (r d : Nat) (v : V) (σ : List V) : dropRef r d (v :: σ) = cond (refAt r d v) .ud v :: dropRef r d σ := rfl
theorem guard_nw {R : Type} {E : Env} {all : Array Oper} {o : Oper} {σ : List V} {K : List V → Option R} {r : R} {j d : Nat} {c b want : Bool} {v : V} (hf : flag E.fixed o.dst = false) (hg : o.guard = some (j, want)) (hd : (all[j]?).bind (·.dst) = some d) (hb : gt σ d = gv c (.bool b))
  (h1 : c = true → b = want → evOpF E o σ K = K (put o.dst v σ)) (h : K (put o.dst (gv (c && (b == want)) v) σ) = some r) : gstep E all o σ K = some r := by
 unfold gstep
 rw [hf, hg]
 simp only [cond_false, hd]
 cases c with
 | false =>
  simp only [hb, gv_false]
  exact h
 | true =>
  rw [gv_true] at hb
  simp only [hb]
  cases b <;> cases want
  ·
   simp only [Bool.false_eq_true, if_false, cond_false]; rw [set_getD_self hb (by simp), h1 rfl rfl]; exact h
  ·
   simp only [Bool.false_eq_true, if_false, cond_true]; rw [set_getD_self hb (by simp)]; exact h
  ·
   simp only [if_true, cond_false]; rw [set_getD_self hb (by simp)]; exact h
  ·
   simp only [if_true, cond_true]; rw [set_getD_self hb (by simp), h1 rfl rfl]; exact h
theorem guard_mt {R : Type} {E : Env} {all : Array Oper} {o : Oper} {σ : List V} {K : List V → Option R} {r : R} {j d : Nat} {b : Bool} {v : V} (hf : flag E.fixed o.dst = false) (hg : o.guard = some (j, true)) (hd : (all[j]?).bind (·.dst) = some d) (hb : gt σ d = .bool b)
  (h1 : b = true → evOpF E o σ K = K (put o.dst v σ)) (h : K (put o.dst (gv b v) σ) = some r) : gstep E all o σ K = some r :=
 guard_nw (c := true) hf hg hd hb (fun _ => h1) (by cases b <;> exact h)
theorem guard_mf {R : Type} {E : Env} {all : Array Oper} {o : Oper} {σ : List V} {K : List V → Option R} {r : R} {j d : Nat} {b : Bool} {v : V} (hf : flag E.fixed o.dst = false) (hg : o.guard = some (j, false)) (hd : (all[j]?).bind (·.dst) = some d) (hb : gt σ d = .bool b)
  (h1 : b = false → evOpF E o σ K = K (put o.dst v σ)) (h : K (put o.dst (gv (!b) v) σ) = some r) : gstep E all o σ K = some r :=
 guard_nw (c := true) hf hg hd hb (fun _ => h1) (by cases b <;> exact h)
theorem guard_nt {R : Type} {E : Env} {all : Array Oper} {o : Oper} {σ : List V} {K : List V → Option R} {r : R} {j d : Nat} {c b : Bool} {v : V} (hf : flag E.fixed o.dst = false) (hg : o.guard = some (j, true)) (hd : (all[j]?).bind (·.dst) = some d) (hb : gt σ d = gv c (.bool b))
  (h1 : c = true → b = true → evOpF E o σ K = K (put o.dst v σ)) (h : K (put o.dst (gv (c && b) v) σ) = some r) : gstep E all o σ K = some r :=
 guard_nw hf hg hd hb h1 (by cases b <;> exact h)
theorem guard_ns {R : Type} {E : Env} {all : Array Oper} {o : Oper} {σ : List V} {K : List V → Option R} {r : R} {j d : Nat} {want b c : Bool} (hf : flag E.fixed o.dst = false) (hg : o.guard = some (j, want)) (hd : (all[j]?).bind (·.dst) = some d) (hb : gt σ d = gv c (.bool b))
  (h1 : c = true → gstep E all o (σ.set d (.bool b)) K = some r) (h2 : c = false → K (put o.dst (.tup []) σ) = some r) : gstep E all o σ K = some r := by
 cases c with
 | true =>
  have h := h1 rfl
  rw [gv_true] at hb
  rwa [set_getD_self hb (by simp)] at h
 | false =>
  rw [gv_false] at hb
  unfold gstep
  rw [hf, hg]
  simp only [cond_false, hd, hb]
  exact h2 rfl
theorem pick_eq {R : Type} {E : Env} {o : Oper} {σ : List V} {K : List V → Option R} {c a b : Operand} {x : Bool} {vc : V} (hop : o.op = .pick c a b) (hc : flag E.fixed o.dst = false ∧ opnd E σ c = .bool x)
  (h1 : x = true → opnd E σ a = vc) (h2 : x = false → opnd E σ b = vc) : evOpF E o σ K = K (put o.dst vc σ) := by
 rw [evOpF_eq]
 unfold evOp
 rw [hc.1, hop]
 simp only [cond_false, hc.2]
 cases x with
 | true => rw [h1 rfl]; simp
 | false => rw [h2 rfl]; simp
theorem steps_split {R : Type} {E : Env} {ops : Array Oper} {steps : List PStep} {σ : List V} {F : List V → Option R} {r : R} (d : Nat) {b : Bool} (hb : gt σ d = .bool b) (h1 : b = true → (runSteps E ops steps σ).bind F = some r) (h2 : b = false → (runSteps E ops steps σ).bind F = some r) : (runSteps E ops steps σ).bind F = some r := by
 cases b with
 | true => exact h1 rfl
 | false => exact h2 rfl
theorem guard_t {R : Type} {E : Env} {all : Array Oper} {o : Oper} {σ : List V} {K : List V → Option R} {r : R} {j d : Nat} {b : Bool} (hf : flag E.fixed o.dst = false) (hg : o.guard = some (j, true)) (hd : (all[j]?).bind (·.dst) = some d) (hb : gt σ d = .bool b)
  (h1 : b = true → evOpF E o (σ.set d (.bool true)) K = some r) (h2 : b = false → K (put o.dst (.tup []) (σ.set d (.bool false))) = some r) : gstep E all o σ K = some r := by
 unfold gstep
 rw [hf, hg]
 simp only [cond_false, hd, hb]
 cases b with
 | true => simpa using h1 rfl
 | false => simpa using h2 rfl
theorem guard_f {R : Type} {E : Env} {all : Array Oper} {o : Oper} {σ : List V} {K : List V → Option R} {r : R} {j d : Nat} {b : Bool} (hf : flag E.fixed o.dst = false) (hg : o.guard = some (j, false)) (hd : (all[j]?).bind (·.dst) = some d) (hb : gt σ d = .bool b)
  (h1 : b = true → K (put o.dst (.tup []) (σ.set d (.bool true))) = some r) (h2 : b = false → evOpF E o (σ.set d (.bool false)) K = some r) : gstep E all o σ K = some r := by
 unfold gstep
 rw [hf, hg]
 simp only [cond_false, hd, hb]
 cases b with
 | true => simpa using h1 rfl
 | false => simpa using h2 rfl
def Unbarred (o : Oper) (all : Array Oper) (σ : List V) : Prop := o.guard = none ∨ ∃ j d want, o.guard = some (j, want) ∧ (all[j]?).bind (·.dst) = some d ∧ gt σ d = .bool want
theorem unbarred_none {o : Oper} {all : Array Oper} {σ : List V} (h : o.guard = none) : Unbarred o all σ := .inl h
theorem gstep_unbarred {R : Type} {E : Env} {all : Array Oper} {o : Oper} {σ : List V} {K : List V → Option R} {r : R} (hf : flag E.fixed o.dst = false) (hu : Unbarred o all σ) (h : evOpF E o σ K = some r) : gstep E all o σ K = some r := by
 unfold gstep
 rw [hf, cond_false]
 rcases hu with hg | ⟨j, d, want, hg, hd, hb⟩
 ·
  rw [hg]; exact h
 ·
  rw [hg]
  simp only [hd, hb]
  have hs : σ.set d (.bool want) = σ := set_getD_self hb (by simp)
  cases want with
  | true => simp only [if_true, cond_true, hs]; exact h
  | false => simp only [Bool.false_eq_true, if_false, cond_false, hs]; exact h
theorem pick_ruleG {R : Type} {E : Env} {all : Array Oper} {o : Oper} {σ : List V} {K : List V → Option R} {r : R} {c a b : Operand} {x : Bool} {vc : V} (hf : flag E.fixed o.dst = false) (hu : Unbarred o all σ) (hop : o.op = .pick c a b) (hc : opnd E σ c = .bool x)
  (h1 : x = true → opnd E σ a = vc) (h2 : x = false → opnd E σ b = vc) (h : K (put o.dst vc σ) = some r) : gstep E all o σ K = some r :=
 gstep_unbarred hf hu (by rw [pick_eq hop ⟨hf, hc⟩ h1 h2]; exact h)
theorem pick_and {R : Type} {E : Env} {all : Array Oper} {o : Oper} {σ : List V} {K : List V → Option R} {r : R} {c a b : Operand} {x y : Bool} (hf : flag E.fixed o.dst = false) (hu : Unbarred o all σ) (hop : o.op = .pick c a b) (hc : opnd E σ c = .bool x) (hb : opnd E σ b = .bool false)
  (ha : x = true → opnd E σ a = .bool y) (h : K (put o.dst (.bool (x && y)) σ) = some r) : gstep E all o σ K = some r :=
 pick_ruleG hf hu hop hc (fun hx => by rw [ha hx, hx]; rfl) (fun hx => by rw [hb, hx]; rfl) h
theorem pick_or {R : Type} {E : Env} {all : Array Oper} {o : Oper} {σ : List V} {K : List V → Option R} {r : R} {c a b : Operand} {x y : Bool} (hf : flag E.fixed o.dst = false) (hu : Unbarred o all σ) (hop : o.op = .pick c a b) (hc : opnd E σ c = .bool x) (ha : opnd E σ a = .bool true)
  (hb : x = false → opnd E σ b = .bool y) (h : K (put o.dst (.bool (x || y)) σ) = some r) : gstep E all o σ K = some r :=
 pick_ruleG hf hu hop hc (fun hx => by rw [ha, hx]; rfl) (fun hx => by rw [hb hx, hx]; rfl) h
end Go.Zv
namespace Go.Zv
open Go Go.ChangeShapes Go.Deep Go.RowKit
section
variable {H : Type} {enc : TypeId × Value → H} {P : Program} {w : World} {spare : Nat → Bool} {held : Bool}
def allS (w : World) : Nat → Prop := fun b => b < w.heap.size
def Opens {α : Type} (enc : TypeId × Value → H) (P : Program) (w : World) (spare : Nat → Bool) (held : Bool) (t : TypeId) (e : α → List V) : Prop :=
 ∀ (fuel : Nat) (cs : List Value) (x : DataW H × List MemPlace), DataW.trod enc P w 0 spare held fuel t cs = some x → ∃ a : α, Reps (allS w) w cs (e a) [] ∧ ∀ v ∈ cs, v.oneCell' = true
theorem opens_str {t : TypeId} (ht : P.underlying t = some .string) : Opens enc P w spare held t fun s : List UInt8 => [V.str s] := by
 intro fuel cs x h
 obtain ⟨s, rfl, _, _⟩ := DataW.trod_string ht h
 exact ⟨s.data.toList, .cons (O1 := []) (O2 := []) (.str s) .nil, fun v hv => by simp at hv; subst hv; rfl⟩
theorem opens_u8 {t : TypeId} (ht : P.underlying t = some (.int .u8)) : Opens enc P w spare held t encB := by
 intro fuel cs x h
 obtain ⟨n, rfl, _, hw⟩ := DataW.trod_int ht h
 have hb : 0 ≤ n ∧ n ≤ 255 := by simp [Lit.wf, IntKind.bits, IntKind.signed, IntKind.min, IntKind.max] at hw; omega
 refine ⟨UInt8.ofNat n.toNat, ?_, fun v hv => by simp at hv; subst hv; rfl⟩
 have e : (((UInt8.ofNat n.toNat).toNat : Nat) : Int) = n := by
  rw [UInt8.toNat_ofNat']
  omega
 unfold encB
 rw [e]
 exact .cons (O1 := []) (O2 := []) (.int _ _) .nil
theorem mapM_get {α β : Type} {f : α → Option β} : ∀ {l : List α} {r : List β}, l.mapM f = some r → r.length = l.length ∧ ∀ i (h : i < l.length) (h' : i < r.length), f l[i] = some r[i]
 | [], r, h => by simp at h; subst h; simp
 | a :: l, r, h => by
  rw [List.mapM_cons] at h
  simp only [bind, Option.bind_eq_some_iff, pure, Option.some.injEq] at h
  obtain ⟨b, hb, r', hr, rfl⟩ := h
  obtain ⟨h1, h2⟩ := mapM_get hr
  refine ⟨by simp [h1], fun i hi hi' => ?_⟩
  cases i with
  | zero => simpa using hb
  | succ i => simpa using h2 i (by simpa using hi) (by simpa using hi')
theorem cells_get {base n : Nat} {a : Addr} {cs : List Value} (h : w.cells? base a n = some cs) : cs.length = n ∧ ∀ i (hi : i < cs.length), w.cell? (a.add i) = some cs[i] := by
 unfold World.cells? at h
 split at h
 ·
  obtain ⟨h1, h2⟩ := mapM_get h
  simp at h1
  refine ⟨h1, fun i hi => ?_⟩
  have := h2 i (by simp; omega) hi
  simpa using this
 ·
  cases h
theorem spot_none {a : Addr} {v : Value} (h : w.cell? a = some v) : a = ⟨a.block, a.off, none⟩ ∧ a.block < w.heap.size := by
 unfold World.cell? at h
 split at h
 ·
  rename_i c _ _ hc
  have hlt : a.block < w.heap.size := (Array.getElem?_eq_some_iff.1 hc).1
  split at h
  ·
   cases h
  ·
   rename_i hs
   have hsp : a.spot = none := by simpa using hs
   obtain ⟨b, o, sp⟩ := a
   simp at hsp
   subst hsp
   exact ⟨rfl, hlt⟩
 ·
  cases h
theorem addr_add (b o i : Nat) : (⟨b, o, none⟩ : Addr).add i = ⟨b, o + i, none⟩ := by
 unfold Addr.add
 split <;> simp_all
theorem mem_of_reps {b : Nat} : ∀ {cs : List Value} {xs : List V} {o : Nat}, Reps (allS w) w cs xs [] → (∀ i (h : i < cs.length), w.cell? ⟨b, o + i, none⟩ = some cs[i]) → (∀ v ∈ cs, v.oneCell' = true) → Mem (allS w) w b o xs []
 | [], _, o, h, _, _ => by
  cases h
  exact .nil b o
 | c :: cs, _, o, h, hc, h1 => by
  generalize hO : ([] : List Nat) = O at h
  cases h with
  | cons r1 r2 =>
   rename_i x xs O1 O2
   obtain ⟨e1, e2⟩ := List.append_eq_nil_iff.1 hO.symm
   subst e1; subst e2
   have := hc 0 (by simp)
   refine Mem.cons (O1 := []) (O2 := []) (by simpa using this) (h1 c (by simp)) r1 (mem_of_reps r2 (fun i hi => ?_) fun v hv => h1 v (by simp [hv]))
   have := hc (i + 1) (by simpa using hi)
   rw [show o + 1 + i = o + (i + 1) by omega]
   simpa using this
theorem opens_slice {α : Type} {t e : TypeId} {k : Nat} {en : α → List V} (ht : P.underlying t = some (.slice e)) (hk : P.cellsOf e = k) (hpos : 0 < k) (hlen : ∀ a, (en a).length = k) (ho : Opens enc P w spare held e en) :
  Opens enc P w spare held t fun l : List α => [V.sl k false (l.map en)] := by
 intro fuel cs x h
 rcases open_slice ht h with ⟨rfl, _⟩ | ⟨a, len, cap, m, n, D, Pl, rfl, hb, hl, hm, hmm, _, hx⟩
 ·
  exact ⟨[], .cons (O1 := []) (O2 := []) (.sl0 _ _ _ _ (by simp)) .nil, fun v hv => by simp at hv; subst hv; rfl⟩
 have hml : len ≤ m := by rw [hmm]; split <;> omega
 rw [hk] at hx
 by_cases h0 : len = 0
 ·
  subst h0
  exact ⟨[], .cons (O1 := []) (O2 := []) (.sl0 _ _ _ _ (by simp)) .nil, fun v hv => by simp at hv; subst hv; rfl⟩
 obtain ⟨s1, s2⟩ : a = ⟨a.block, a.off, none⟩ ∧ a.block < w.heap.size := by
  obtain ⟨cs', h4, h5⟩ := hx 0 (by omega)
  obtain ⟨y, h6, h7⟩ := ho n cs' _ h5
  obtain ⟨h8, h9⟩ := cells_get h4
  have hc0 := h9 0 (by omega)
  rw [add_add, Nat.zero_mul, Nat.zero_add] at hc0
  refine spot_none (v := cs'[0]'(by omega)) ?_
  simpa [Addr.add] using hc0
 generalize hbk : a.block = bk at s1 s2
 generalize hof : a.off = of at s1
 subst s1
 have key : ∀ i, i ≤ len → ∃ l : List α, l.length = i ∧ Mem (allS w) w bk of (l.map en).flatten [] := by
  intro i
  induction i with
  | zero => intro _; exact ⟨[], rfl, .nil _ _⟩
  | succ i ih =>
   intro hi
   obtain ⟨l, h1, h3⟩ := ih (by omega)
   obtain ⟨cs', h4, h5⟩ := hx i (by omega)
   obtain ⟨y, h6, h7⟩ := ho n cs' _ h5
   obtain ⟨h8, h9⟩ := cells_get h4
   refine ⟨l ++ [y], by simp [h1], ?_⟩
   rw [List.map_append, List.flatten_append]
   have hfl : (l.map en).flatten.length = i * k := by
    rw [List.length_flatten, List.map_map]
    have : (List.length ∘ en) = fun _ => k := funext hlen
    rw [this, List.map_const', List.sum_replicate_nat, h1]
   have hm2 : Mem (allS w) w bk (of + (l.map en).flatten.length) ([y].map en).flatten [] := by
    simp only [List.map_cons, List.map_nil, List.flatten_cons, List.flatten_nil, List.append_nil]
    rw [hfl]
    refine mem_of_reps h6 (fun j hj => ?_) h7
    have := h9 j hj
    rw [addr_add, addr_add] at this
    exact this
   exact Mem.append (O1 := []) (O2 := []) h3 hm2
 obtain ⟨l, h1, h3⟩ := key len (Nat.le_refl _)
 refine ⟨l, ?_, fun v hv => by simp at hv; subst hv; rfl⟩
 refine .cons (O1 := []) (O2 := []) ?_ .nil
 have hll : (l.map en).length = len := by simp [h1]
 rw [show (Value.slice (some ⟨bk, of, none⟩) len cap) = .slice (some ⟨bk, of, none⟩) (l.map en).length cap by rw [hll]]
 refine .sl hpos (fun e => h0 (by rw [← hll, e]; rfl)) (fun r hr => ?_) s2 ⟨by omega, by simp⟩ h3
 obtain ⟨y, _, rfl⟩ := List.mem_map.1 hr
 exact hlen y
theorem reps_append {S : Nat → Prop} {us vs : List Value} {xs ys : List V} (h1 : Reps S w us xs []) (h2 : Reps S w vs ys []) : Reps S w (us ++ vs) (xs ++ ys) [] := by
 generalize hO : ([] : List Nat) = O at h1
 induction us generalizing xs O with
 | nil => cases h1; exact h2
 | cons u us ih =>
  cases h1 with
  | cons r1 r2 =>
   obtain ⟨e1, e2⟩ := List.append_eq_nil_iff.1 hO.symm
   subst e1; subst e2
   exact .cons (O1 := []) (O2 := []) r1 (ih _ rfl r2)
theorem opens_struct2 {α β γ : Type} {t : TypeId} {f0 f1 : Field} {e0 : α → List V} {e1 : β → List V} (mk : α → β → γ) (en : γ → List V) (hen : ∀ a b, en (mk a b) = e0 a ++ e1 b) (ht : P.underlying t = some (.struct #[f0, f1]))
  (ho0 : f0.offset = 0) (ho1 : f1.offset = P.cellsOf f0.type) (hc : P.cellsOf t = P.cellsOf f0.type + P.cellsOf f1.type) (h0 : Opens enc P w spare held f0.type e0) (h1 : Opens enc P w spare held f1.type e1) : Opens enc P w spare held t en := by
 intro fuel cs x h
 obtain ⟨xs, n, _, _, hl, hxs, hf⟩ := DataW.trod_struct ht h
 have k0 := hf 0 f0 rfl
 have k1 := hf 1 f1 rfl
 rw [List.getElem?_eq_getElem (show 0 < xs.length by rw [hxs]; simp)] at k0
 rw [List.getElem?_eq_getElem (show 1 < xs.length by rw [hxs]; simp)] at k1
 obtain ⟨a, r0, o0⟩ := h0 _ _ _ k0
 obtain ⟨b, r1, o1⟩ := h1 _ _ _ k1
 rw [ho0, List.drop_zero] at r0 o0
 rw [ho1] at r1 o1
 have hcs : cs = cs.take (P.cellsOf f0.type) ++ (cs.drop (P.cellsOf f0.type)).take (P.cellsOf f1.type) := by
  rw [List.take_of_length_le (l := cs.drop _) (by simp; omega), List.take_append_drop]
 refine ⟨mk a b, ?_, fun v hv => ?_⟩
 ·
  rw [hen, hcs]
  exact reps_append r0 r1
 ·
  rw [hcs] at hv
  rcases List.mem_append.1 hv with hv | hv
  ·
   exact o0 v hv
  ·
   exact o1 v hv
end
theorem open_calls {P : Program} {G : Nat → Option (List V)} {f : Nat} {vs : List Value} {args outs : List V} (hG : ∀ g, G g = none) (he : ∀ (vs : Array Value) (w : World), (callFunc f vs).run P w = .ok (.enter f vs) w) (h : Does P G f args (.bool true) outs) (w : World) (hr : Reps (allS w) w vs args []) :
  Calls P f vs.toArray w fun e w' => e = .returned (.bool true) ∧ Below w.heap.size w w' := by
 have hg : Given G (allS w) w vs args [] := ⟨hr, by simp, by simp, fun _ h => h, fun g cs hc => by rw [hG g] at hc; cases hc⟩
 rcases h (allS w) w vs [] hg with ⟨_, hc⟩ | ⟨v, w', hv, _⟩
 ·
  refine hc.mono fun e w' ⟨v, h1, S', Or, Oo, hb⟩ => ?_
  obtain rfl : v = .bool true := by
   have := hb.res
   cases this
   rfl
  exact ⟨h1, hb.same.os, hb.same.tape, hb.same.output, hb.size, fun b hlt => hb.keep b hlt (by simp)⟩
 ·
  rw [he] at hv
  cases hv
end Go.Zv
