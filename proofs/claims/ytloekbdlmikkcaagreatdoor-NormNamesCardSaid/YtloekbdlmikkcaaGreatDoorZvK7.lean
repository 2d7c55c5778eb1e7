/- Zv: a pure interpreter of the translated code over values, and that it is right. No condition. -/
import Derived.Test.YtloekbdlmikkcaaGreatDoorZvK6
import Derived.Deep.Slices
import Derived.ChangeArms
import Derived.ChangeShapes
import Derived.Below
import Derived.ChangeKeysEq
import Derived.Laws.CopyRow
import Derived.OpenShut
set_option linter.unusedSimpArgs false
set_option linter.unusedVariables false
namespace Go.Zv
open Go
def ix {α : Type} (l : List α) (i : Int) : Option α := if 0 ≤ i then l[i.toNat]? else none
theorem ix_some {α : Type} {l : List α} {i : Int} {x : α} (h : ix l i = some x) : (0 ≤ i ∧ i < (l.length : Int)) ∧ i.toNat < l.length ∧ l[i.toNat]? = some x := by
 unfold ix at h
 split at h
 ·
  rename_i h0
  obtain ⟨h1, _⟩ := List.getElem?_eq_some_iff.1 h
  exact ⟨⟨h0, by omega⟩, h1, h⟩
 ·
  cases h
def rng (x : Int) : Option Int := if -9223372036854775808 ≤ x ∧ x < 9223372036854775808 then some x else none
theorem rng_some {x y : Int} (h : rng x = some y) : y = x ∧ IntKind.i64.wrap x = x := by
 unfold rng at h
 split at h
 ·
  rename_i h0
  exact ⟨by cases h; rfl, by rw [Go.IntKind.wrap_i64] <;> omega⟩
 ·
  cases h
def cutI {α : Type} (l : List α) (lo hi : Int) : Option (List α) := if 0 ≤ lo ∧ lo ≤ hi ∧ hi ≤ (l.length : Int) then some ((l.take hi.toNat).drop lo.toNat) else none
theorem cutI_some {α : Type} {l r : List α} {lo hi : Int} (h : cutI l lo hi = some r) : 0 ≤ lo ∧ lo ≤ hi ∧ 0 ≤ hi ∧ hi ≤ (l.length : Int) ∧ r = (l.take hi.toNat).drop lo.toNat := by
 unfold cutI at h
 split at h
 ·
  rename_i h0
  exact ⟨h0.1, h0.2.1, by omega, h0.2.2, by cases h; rfl⟩
 ·
  cases h
def need (p : Prop) [Decidable p] : Option Unit := if p then some () else none
theorem need_some {p : Prop} [Decidable p] {u : Unit} (h : need p = some u) : p := by
 unfold need at h
 split at h
 ·
  assumption
 ·
  cases h
theorem bind_some {α β : Type} {o : Option α} {f : α → Option β} {r : β} (h : o.bind f = some r) : ∃ x, o = some x ∧ f x = some r := Option.bind_eq_some_iff.1 h
def encB (b : UInt8) : List V := [.int .u8 b.toNat]
theorem bVe (s : List UInt8) : bytesV s = s.map encB := rfl
def encS (s : List UInt8) : List V := [.str s]
def encI (n : Int) : List V := [.int .i64 n]
theorem asBytes_map (s : List UInt8) : asBytes (s.map encB) = some s := by
 induction s with
 | nil => rfl
 | cons b s ih => simp [asBytes, encB, asInt, ih]
theorem wrapL {x : Int} (h1 : -9223372036854775808 ≤ x) (h2 : x < 9223372036854775808) : IntKind.i64.wrap x = x := by rw [Go.IntKind.wrap_i64] <;> omega
theorem wrapLu8 {x : Int} (h1 : 0 ≤ x) (h2 : x < 256) : IntKind.u8.wrap x = x := by simp [IntKind.wrap, IntKind.bits, IntKind.signed]; omega
theorem wrapLu64 {x : Int} (h1 : 0 ≤ x) (h2 : x < 18446744073709551616) : IntKind.u64.wrap x = x := by simp [IntKind.wrap, IntKind.bits, IntKind.signed]; omega
theorem wrapLu32 {x : Int} (h1 : 0 ≤ x) (h2 : x < 4294967296) : IntKind.u32.wrap x = x := by simp [IntKind.wrap, IntKind.bits, IntKind.signed]; omega
theorem wrapLi32 {x : Int} (h1 : -2147483648 ≤ x) (h2 : x < 2147483648) : IntKind.i32.wrap x = x := by simp [IntKind.wrap, IntKind.bits, IntKind.signed]; omega
def lmt {α : Type} (l : List α) : Option (List α) := if l.length ≤ lim then some l else none
theorem itp {α : Type} {c : Prop} [Decidable c] {a b r : α} (h : (if c then a else b) = r) (hc : c) : a = r := by rw [if_pos hc] at h; exact h
theorem itn {α : Type} {c : Prop} [Decidable c] {a b r : α} (h : (if c then a else b) = r) (hc : ¬ c) : b = r := by rw [if_neg hc] at h; exact h
theorem rngw {x y : Int} (h : rng x = some y) : IntKind.i64.wrap x = y := by rw [(rng_some h).2, (rng_some h).1]
theorem gDm {α : Type} {e : α → List V} {l : List α} {i : Nat} {x : α} (h : l[i]? = some x) : (l.map e).getD i [] = e x := by
 rw [List.getD_eq_getElem?_getD, List.getElem?_map, h]; rfl
theorem gDu {l : List UInt8} {i : Nat} {x : UInt8} (h : l[i]? = some x) : l.getD i 0 = x := by
 rw [List.getD_eq_getElem?_getD, h]; rfl
theorem cl {T : Tab} {prims : Nat → List V → Option (V × List V)} {n m g : Nat} {as : List V} {r : Option (V × List V)} {call : Nat → List V → Option (V × List V)} (hcd : call = callD T prims n m) (h : callD T prims n m g as = r) : call g as = r := by rw [hcd]; exact h
theorem loop_F {β R : Type} {E : Env} {x : Code} {K : XE → List V → Option R} {r : R} (id : Nat) (ks : List Nat) (hd : headReg x = some id) (hk : E.keep id = some ks) (st : β → List V) (P : Nat → β → Prop) (h0 : ∀ b, ¬ P 0 b)
  (hstep : ∀ m b, P (m + 1) b → ∀ (L : Code → List V → (XE → List V → Option R) → Option R) (_ : L = loopR E m) (K' : XE → List V → Option R), (∀ σ' b', P m b' → keepOnly ks σ' = st b' → K' .normal σ' = some r) →
   (∀ i σ', K' (.exit i) σ' = K (.exit i) σ') → (∀ σ', K' .ret σ' = K .ret σ') → runC E L x (st b) K' = some r) :
  ∀ (n : Nat) (b : β) (σ : List V), P n b → keepOnly ks σ = st b → loopR E n x σ K = some r
 | 0, b, σ, hP, _ => absurd hP (h0 b)
 | n + 1, b, σ, hP, hσ => by
  unfold loopR
  rw [runC_keep hd hk, hσ]
  exact hstep n b hP _ rfl _ (fun σ' b' hP' hσ' => loop_F id ks hd hk st P h0 hstep n b' σ' hP' hσ') (fun _ _ => rfl) fun _ => rfl
theorem jR {R : Type} {E : Env} {L : Code → List V → (XE → List V → Option R) → Option R} {x : Code} {K : XE → List V → Option R} {r : R} {σ σ1 : List V} (id : Nat) (ks : List Nat) (hd : headReg x = some id) (hk : E.keep id = some ks) (hσ : keepOnly ks σ = σ1) (h : runC E L x σ1 K = some r) : runC E L x σ K = some r := by
 rw [runC_keep hd hk, hσ]; exact h
theorem call_rule {T : Tab} {prims : Nat → List V → Option (V × List V)} {fuel d f : Nat} {i : FnI} {args : List V} {r : V × List V} (hp : prims f args = none) (hi : T.fns.get f = some i) (h : runBody (envOf T i (callD T prims fuel d)) fuel i.fn i.code args = some r) : callD T prims fuel (d + 1) f args = some r := by
 simp only [callD, hp, hi, h]
theorem prim_rule {T : Tab} {prims : Nat → List V → Option (V × List V)} {fuel d f : Nat} {args : List V} {r : V × List V} (hp : prims f args = some r) : callD T prims fuel (d + 1) f args = some r := by
 simp only [callD, hp]
theorem set_getD_self {σ : List V} {d : Nat} {v : V} (h : σ.getD d .ud = v) (hv : v ≠ .ud) : σ.set d v = σ := by
 apply List.ext_getElem?
 intro i
 rw [List.getElem?_set]
 by_cases hi : d = i
 ·
  subst hi
  rw [List.getD_eq_getElem?_getD] at h
  cases e : σ[d]? with
  | none => rw [e] at h; exact absurd h.symm hv
  | some x =>
   rw [e] at h
   obtain ⟨hl, _⟩ := List.getElem?_eq_some_iff.1 e
   simp [hl]; exact h.symm
 ·
  simp [hi]
section
variable {R : Type} {E : Env} {L : Code → List V → (XE → List V → Option R) → Option R} {r : R} {K : XE → List V → Option R} {σ : List V}
theorem sq {a b : Code} (h : ∀ K1 : XE → List V → Option R, (∀ σ', K1 .normal σ' = runC E L b σ' K) → (∀ i σ', K1 (.exit i) σ' = K (.exit i) σ') → (∀ σ', K1 .ret σ' = K .ret σ') → runC E L a σ K1 = some r) : runC E L (.seq a b) σ K = some r := seq_rule h
theorem sr {id : Nat} {ops : Array Oper} {d : Bool} {l : List Oper} {b : Code} (hl : ops.toList = l) (h : ∀ k1 : List V → Option R, (∀ σ', k1 σ' = runC E L b σ' K) → runOps E ops l σ k1 = some r) (hp : E.plan id = none := by rfl) (hk : E.keep id = none := by rfl) : runC E L (.seq (.region id ops d) b) σ K = some r := by
 simp only [runC, hp, hk, hl]
 exact h _ fun _ => rfl
theorem srk {id : Nat} {ops : Array Oper} {d : Bool} {l : List Oper} {b : Code} {ks : List Nat} {σ1 : List V} (hk : E.keep id = some ks) (hs : keepOnly ks σ = σ1) (hl : ops.toList = l) (h : ∀ k1 : List V → Option R, (∀ σ', k1 σ' = runC E L b σ' K) → runOps E ops l σ1 k1 = some r) (hp : E.plan id = none := by rfl) : runC E L (.seq (.region id ops d) b) σ K = some r := by
 simp only [runC, hp, hk, hl, forceL_eq, hs]
 exact h _ fun _ => rfl
theorem nR {all : Array Oper} {k G : List V → Option R} (h0 : ∀ σ, k σ = G σ) (h : G σ = some r) : runOps E all [] σ k = some r := (h0 σ).trans h
theorem oR {all : Array Oper} {o : Oper} {rest : List Oper} {K : List V → Option R} (h : ∀ k1 : List V → Option R, (∀ σ', k1 σ' = runOps E all rest σ' K) → gstep E all o σ k1 = some r) : runOps E all (o :: rest) σ K = some r := op_rule h
end
theorem itf {α : Type} {e : Bool} {a b r : α} (h : (if e = true then a else b) = r) (hb : e = false) : b = r := by subst hb; exact h
def gv (b : Bool) (v : V) : V := cond b v (.tup [])
theorem gv_true (v : V) : gv true v = v := rfl
theorem gv_false (v : V) : gv false v = .tup [] := rfl
theorem gv_pos {b : Bool} {v : V} (h : b = true) : gv b v = v := by rw [h]; rfl
theorem gv_neg {b : Bool} {v : V} (h : b = false) : gv b v = .tup [] := by rw [h]; rfl
theorem into_gv (d : Nat) (b : Bool) (v : V) : into d (gv b v) = (b && into d v) := by cases b <;> rfl
theorem stale_gv (r d : Nat) (b : Bool) (v : V) : stale r d (gv b v) = (b && stale r d v) := by cases b <;> rfl
theorem refAt_gv (r d : Nat) (b : Bool) (v : V) : refAt r d (gv b v) = (b && refAt r d v) := by cases b <;> rfl
theorem rootIn_gv (ks : List Nat) (b : Bool) (v : V) : rootIn ks (gv b v) = (!b || rootIn ks v) := by cases b <;> rfl
theorem hits_gv (ks : List Nat) (b : Bool) (v : V) : hits ks (gv b v) = (b && hits ks v) := by cases b <;> rfl
theorem dropRoot_nil (r : Nat) : dropRoot r [] = [] := rfl
theorem dropRoot_cons (r : Nat) (v : V) (σ : List V) : dropRoot r (v :: σ) = cond (into r v) .ud v :: dropRoot r σ := rfl
theorem drop_nil (r d : Nat) : drop r d [] = [] := rfl
theorem drop_cons (r d : Nat) (v : V) (σ : List V) : drop r d (v :: σ) = cond (stale r d v) .ud v :: drop r d σ := rfl
theorem dropRef_nil (r d : Nat) : dropRef r d [] = [] := rfl
theorem dropRef_cons (r d : Nat) (v : V) (σ : List V) : dropRef r d (v :: σ) = cond (refAt r d v) .ud v :: dropRef r d σ := rfl
theorem guard_nw {R : Type} {E : Env} {all : Array Oper} {o : Oper} {σ : List V} {K : List V → Option R} {r : R} {j d : Nat} {c b want : Bool} {v : V} (hf : flag E.fixed o.dst = false) (hg : o.guard = some (j, want)) (hd : (all[j]?).bind (·.dst) = some d) (hb : gt σ d = gv c (.bool b))
  (h1 : c = true → b = want → evOpF E o σ K = K (put o.dst v σ)) (h : K (put o.dst (gv (c && (b == want)) v) σ) = some r) : gstep E all o σ K = some r := by
 unfold gstep
 rw [hf, hg]
 simp only [cond_false, hd]
 cases c with
 | false =>
  simp only [hb, gv_false]
  exact h
 | true =>
  rw [gv_true] at hb
  simp only [hb]
  cases b <;> cases want
  ·
   simp only [Bool.false_eq_true, if_false, cond_false]; rw [set_getD_self hb (by simp), h1 rfl rfl]; exact h
  ·
   simp only [Bool.false_eq_true, if_false, cond_true]; rw [set_getD_self hb (by simp)]; exact h
  ·
   simp only [if_true, cond_false]; rw [set_getD_self hb (by simp)]; exact h
  ·
   simp only [if_true, cond_true]; rw [set_getD_self hb (by simp), h1 rfl rfl]; exact h
theorem guard_mt {R : Type} {E : Env} {all : Array Oper} {o : Oper} {σ : List V} {K : List V → Option R} {r : R} {j d : Nat} {b : Bool} {v : V} (hf : flag E.fixed o.dst = false) (hg : o.guard = some (j, true)) (hd : (all[j]?).bind (·.dst) = some d) (hb : gt σ d = .bool b)
  (h1 : b = true → evOpF E o σ K = K (put o.dst v σ)) (h : K (put o.dst (gv b v) σ) = some r) : gstep E all o σ K = some r :=
 guard_nw (c := true) hf hg hd hb (fun _ => h1) (by cases b <;> exact h)
theorem guard_mf {R : Type} {E : Env} {all : Array Oper} {o : Oper} {σ : List V} {K : List V → Option R} {r : R} {j d : Nat} {b : Bool} {v : V} (hf : flag E.fixed o.dst = false) (hg : o.guard = some (j, false)) (hd : (all[j]?).bind (·.dst) = some d) (hb : gt σ d = .bool b)
  (h1 : b = false → evOpF E o σ K = K (put o.dst v σ)) (h : K (put o.dst (gv (!b) v) σ) = some r) : gstep E all o σ K = some r :=
 guard_nw (c := true) hf hg hd hb (fun _ => h1) (by cases b <;> exact h)
theorem pick_eq {R : Type} {E : Env} {o : Oper} {σ : List V} {K : List V → Option R} {c a b : Operand} {x : Bool} {vc : V} (hop : o.op = .pick c a b) (hc : flag E.fixed o.dst = false ∧ opnd E σ c = .bool x)
  (h1 : x = true → opnd E σ a = vc) (h2 : x = false → opnd E σ b = vc) : evOpF E o σ K = K (put o.dst vc σ) := by
 rw [evOpF_eq]
 unfold evOp
 rw [hc.1, hop]
 simp only [cond_false, hc.2]
 cases x with
 | true => rw [h1 rfl]; simp
 | false => rw [h2 rfl]; simp
theorem steps_split {R : Type} {E : Env} {ops : Array Oper} {steps : List PStep} {σ : List V} {F : List V → Option R} {r : R} (d : Nat) {b : Bool} (hb : gt σ d = .bool b) (h1 : b = true → (runSteps E ops steps σ).bind F = some r) (h2 : b = false → (runSteps E ops steps σ).bind F = some r) : (runSteps E ops steps σ).bind F = some r := by
 cases b with
 | true => exact h1 rfl
 | false => exact h2 rfl
theorem guard_t {R : Type} {E : Env} {all : Array Oper} {o : Oper} {σ : List V} {K : List V → Option R} {r : R} {j d : Nat} {b : Bool} (hf : flag E.fixed o.dst = false) (hg : o.guard = some (j, true)) (hd : (all[j]?).bind (·.dst) = some d) (hb : gt σ d = .bool b)
  (h1 : b = true → evOpF E o (σ.set d (.bool true)) K = some r) (h2 : b = false → K (put o.dst (.tup []) (σ.set d (.bool false))) = some r) : gstep E all o σ K = some r := by
 unfold gstep
 rw [hf, hg]
 simp only [cond_false, hd, hb]
 cases b with
 | true => simpa using h1 rfl
 | false => simpa using h2 rfl
theorem guard_f {R : Type} {E : Env} {all : Array Oper} {o : Oper} {σ : List V} {K : List V → Option R} {r : R} {j d : Nat} {b : Bool} (hf : flag E.fixed o.dst = false) (hg : o.guard = some (j, false)) (hd : (all[j]?).bind (·.dst) = some d) (hb : gt σ d = .bool b)
  (h1 : b = true → K (put o.dst (.tup []) (σ.set d (.bool true))) = some r) (h2 : b = false → evOpF E o (σ.set d (.bool false)) K = some r) : gstep E all o σ K = some r := by
 unfold gstep
 rw [hf, hg]
 simp only [cond_false, hd, hb]
 cases b with
 | true => simpa using h1 rfl
 | false => simpa using h2 rfl
def Unbarred (o : Oper) (all : Array Oper) (σ : List V) : Prop := o.guard = none ∨ ∃ j d want, o.guard = some (j, want) ∧ (all[j]?).bind (·.dst) = some d ∧ gt σ d = .bool want
theorem unbarred_none {o : Oper} {all : Array Oper} {σ : List V} (h : o.guard = none) : Unbarred o all σ := .inl h
theorem gstep_unbarred {R : Type} {E : Env} {all : Array Oper} {o : Oper} {σ : List V} {K : List V → Option R} {r : R} (hf : flag E.fixed o.dst = false) (hu : Unbarred o all σ) (h : evOpF E o σ K = some r) : gstep E all o σ K = some r := by
 unfold gstep
 rw [hf, cond_false]
 rcases hu with hg | ⟨j, d, want, hg, hd, hb⟩
 ·
  rw [hg]; exact h
 ·
  rw [hg]
  simp only [hd, hb]
  have hs : σ.set d (.bool want) = σ := set_getD_self hb (by simp)
  cases want with
  | true => simp only [if_true, cond_true, hs]; exact h
  | false => simp only [Bool.false_eq_true, if_false, cond_false, hs]; exact h
theorem pick_ruleG {R : Type} {E : Env} {all : Array Oper} {o : Oper} {σ : List V} {K : List V → Option R} {r : R} {c a b : Operand} {x : Bool} {vc : V} (hf : flag E.fixed o.dst = false) (hu : Unbarred o all σ) (hop : o.op = .pick c a b) (hc : opnd E σ c = .bool x)
  (h1 : x = true → opnd E σ a = vc) (h2 : x = false → opnd E σ b = vc) (h : K (put o.dst vc σ) = some r) : gstep E all o σ K = some r :=
 gstep_unbarred hf hu (by rw [pick_eq hop ⟨hf, hc⟩ h1 h2]; exact h)
theorem pick_and {R : Type} {E : Env} {all : Array Oper} {o : Oper} {σ : List V} {K : List V → Option R} {r : R} {c a b : Operand} {x y : Bool} (hf : flag E.fixed o.dst = false) (hu : Unbarred o all σ) (hop : o.op = .pick c a b) (hc : opnd E σ c = .bool x) (hb : opnd E σ b = .bool false)
  (ha : x = true → opnd E σ a = .bool y) (h : K (put o.dst (.bool (x && y)) σ) = some r) : gstep E all o σ K = some r :=
 pick_ruleG hf hu hop hc (fun hx => by rw [ha hx, hx]; rfl) (fun hx => by rw [hb, hx]; rfl) h
theorem pick_or {R : Type} {E : Env} {all : Array Oper} {o : Oper} {σ : List V} {K : List V → Option R} {r : R} {c a b : Operand} {x y : Bool} (hf : flag E.fixed o.dst = false) (hu : Unbarred o all σ) (hop : o.op = .pick c a b) (hc : opnd E σ c = .bool x) (ha : opnd E σ a = .bool true)
  (hb : x = false → opnd E σ b = .bool y) (h : K (put o.dst (.bool (x || y)) σ) = some r) : gstep E all o σ K = some r :=
 pick_ruleG hf hu hop hc (fun hx => by rw [ha, hx]; rfl) (fun hx => by rw [hb hx, hx]; rfl) h
end Go.Zv
namespace Go.Zv
open Go Go.ChangeShapes Go.Deep Go.RowKit
section
variable {H : Type} {enc : TypeId × Value → H} {P : Program} {w : World} {spare : Nat → Bool} {held : Bool}
def allS (w : World) : Nat → Prop := fun b => b < w.heap.size
theorem mem_of_reps {b : Nat} : ∀ {cs : List Value} {xs : List V} {o : Nat}, Reps (allS w) w cs xs [] → (∀ i (h : i < cs.length), w.cell? ⟨b, o + i, none⟩ = some cs[i]) → (∀ v ∈ cs, v.oneCell' = true) → Mem (allS w) w b o xs []
 | [], _, o, h, _, _ => by
  cases h
  exact .nil b o
 | c :: cs, _, o, h, hc, h1 => by
  generalize hO : ([] : List Nat) = O at h
  cases h with
  | cons r1 r2 =>
   rename_i x xs O1 O2
   obtain ⟨e1, e2⟩ := List.append_eq_nil_iff.1 hO.symm
   subst e1; subst e2
   have := hc 0 (by simp)
   refine Mem.cons (O1 := []) (O2 := []) (by simpa using this) (h1 c (by simp)) r1 (mem_of_reps r2 (fun i hi => ?_) fun v hv => h1 v (by simp [hv]))
   have := hc (i + 1) (by simpa using hi)
   rw [show o + 1 + i = o + (i + 1) by omega]
   simpa using this
end
end Go.Zv
namespace Go.Zv
open Go
section
variable {P : Program}
theorem run_eqItems_int {e : Nat} {k : IntKind} (hu : P.underlying e = some (.int k)) (hc : P.cellsOf e = 1) (d : Nat) {S : Nat → Prop} {w : World} : ∀ (is : List Nat) (xs ys : Array Value) (us vs : List Value) (vx vy : List V) (b : Bool),
  (∀ j, j < us.length → us.length = is.length ∧ xs[is.getD j 0]? = us[j]?) → (∀ j, j < vs.length → xs.size = xs.size ∧ ys[is.getD j 0]? = vs[j]?) → us.length = is.length → vs.length = is.length →
  Reps S w us vx [] → Reps S w vs vy [] → eqCells (List.replicate is.length (.int k)) vx vy = some b → (Op.eqItems (d + 1) e (P.cellsOf e) xs ys is).run P w = .ok b w
 | [], xs, ys, us, vs, vx, vy, b, _, _, hu1, hv1, hx, hy, he => by
  have h1 : vx = [] := by
   have := hx.len
   rw [hu1] at this
   exact List.eq_nil_of_length_eq_zero this.symm
  have h2 : vy = [] := by
   have := hy.len
   rw [hv1] at this
   exact List.eq_nil_of_length_eq_zero this.symm
  subst h1; subst h2
  simp only [List.length_nil, List.replicate_zero, eqCells, Option.some.injEq] at he
  subst he
  simp [Op.eqItems]
 | i :: is, xs, ys, us, vs, vx, vy, b, hux, hvy, hu1, hv1, hx, hy, he => by
  generalize hO : ([] : List Nat) = O at hx
  cases hx with
  | nil => simp at hu1
  | @cons u x us xs' O1 O2 r1 r2 =>
  obtain ⟨rfl, rfl⟩ := List.append_eq_nil_iff.1 hO.symm
  generalize hO' : ([] : List Nat) = O' at hy
  cases hy with
  | nil => simp at hv1
  | @cons v y vs ys' O3 O4 q1 q2 =>
  obtain ⟨rfl, rfl⟩ := List.append_eq_nil_iff.1 hO'.symm
  simp only [List.length_cons, List.replicate_succ, eqCells, Option.bind_eq_some_iff, Option.some.injEq] at he
  obtain ⟨a, ha, c, hc', r, hr, rfl⟩ := he
  have val : ∀ {u : Value} {x : V} {a : Int}, Rep S w u x [] → asInt k x.strip = some a → u = .int k a := by
   intro u x a h1 h2
   have base : ∀ {x : V}, Rep S w u x [] → asInt k x = some a → u = .int k a := by
    intro x h1 h2
    cases x <;> simp only [asInt, reduceCtorEq] at h2
    split at h2
    ·
     rename_i hk
     cases h2; cases h1; rw [hk]
    ·
     cases h2
   cases x
   case cl x =>
    cases h1 with
    | cl h1 => exact base h1 h2
   case sl => simp [V.strip, asInt] at h2
   all_goals exact base h1 h2
  have e1 := val r1 ha
  have e2 := val q1 hc'
  have hp : P.plainKey e = true := by simp [Program.plainKey, hu]
  have p1 := run_part_plain (P := P) w hp (xs := xs) (off := i * P.cellsOf e) (v := u) (by
   have := (hux 0 (by simp)).2
   simpa [hc] using this)
  have p2 := run_part_plain (P := P) w hp (xs := ys) (off := i * P.cellsOf e) (v := v) (by
   have := (hvy 0 (by simp)).2
   simpa [hc] using this)
  have ih := run_eqItems_int hu hc d is xs ys us vs xs' ys' r (fun j hj => ⟨by simpa using hu1, by
   have := (hux (j + 1) (by simpa using hj)).2
   simpa using this⟩) (fun j hj => ⟨rfl, by
   have := (hvy (j + 1) (by simpa using hj)).2
   simpa using this⟩) (by simpa using hu1) (by simpa using hv1) r2 q2 hr
  have heq : (Op.equalIn (d + 1) e u v).run P w = .ok (a == c) w := by
   rw [e1, e2]
   simp [Op.equalIn, run_underlying hu]
  simp only [Op.eqItems, Sem.run_bind, p1, p2, Result.andThen_ok, heq]
  cases hab : a == c with
  | false => simp
  | true => simpa using ih
theorem eqOK_arr {t e n : Nat} {k : IntKind} {ie : TypeInfo} {i : TI} (hu : P.underlying t = some (.array n e)) (he : P.underlying e = some (.int k)) (hc : P.cellsOf e = 1) (hi : P.info? e = some ie) (hsk : i.sk = List.replicate n (.int k)) (hg : P.eqGuardType P.depth t = false) : EqOK P t i := by
 refine ⟨hg, fun S w xs ys vx vy b hx hy h => ?_⟩
 have key : ∀ (m : Nat) (ts : List TK) (vx vy : List V) (b : Bool), ts = List.replicate m (.int k) → eqCells ts vx vy = some b → vx.length = m ∧ vy.length = m := by
  intro m
  induction m with
  | zero =>
   intro ts vx vy b e h
   subst e
   cases vx <;> cases vy <;> simp [eqCells] at h ⊢
  | succ m ih =>
   intro ts vx vy b e h
   subst e
   rw [List.replicate_succ] at h
   cases vx <;> cases vy <;> simp only [eqCells, reduceCtorEq, Option.bind_eq_some_iff] at h
   obtain ⟨_, _, _, _, c, h3, _⟩ := h
   have := ih _ _ _ _ rfl h3
   simpa using this
 obtain ⟨l1, l2⟩ := key n i.sk vx vy b hsk h
 rw [hsk] at h
 have hn : n = (List.range n).length := by simp
 rw [hn] at h
 have hxl := hx.len
 have hyl := hy.len
 have := run_eqItems_int (P := P) he hc 9998 (w := w) (List.range n) xs ys xs.toList ys.toList vx vy b (fun j hj => ⟨by rw [hxl, l1]; simp, by
  have hj' : j < n := by rw [hxl, l1] at hj; exact hj
  rw [List.getD_eq_getElem?_getD, List.getElem?_range hj']; simp⟩) (fun j hj => ⟨rfl, by
  have hj' : j < n := by rw [hyl, l2] at hj; exact hj
  rw [List.getD_eq_getElem?_getD, List.getElem?_range hj']; simp⟩) (by rw [hxl, l1]; simp) (by rw [hyl, l2]; simp) hx hy h
 have h2 := run_equalIn_array (P := P) w 9999 xs ys hu hi
 show (Op.equalIn 10000 t (.agg xs) (.agg ys)).run P w = _
 rw [h2]
 exact this
end
end Go.Zv
namespace Go.Zv
open Go Go.RowKit
section
variable {P : Program} {G : Nat → Option (List V)} {S : Nat → Prop} {w w' : World}
def WriterOut (w : World) (kd T e b : Nat) (O : List Nat) (bs : List UInt8) (w' : World) : Prop :=
 ∃ O', LibBox w' kd T e b bs O' ∧ (∀ y ∈ O', y ∈ O ∨ w.heap.size ≤ y) ∧ w.heap.size ≤ w'.heap.size ∧ (∀ k, k < w.heap.size → k ≠ b → k ∉ O → w'.heap[k]? = w.heap[k]?) ∧ Same w w'
theorem LibBox.nodup {kd T e b : Nat} {bs : List UInt8} {O : List Nat} (h : LibBox w kd T e b bs O) : (b :: O).Nodup := by
 have row : ∀ {v : Value}, LibRow w e b v bs O → (b :: O).Nodup := by
  rintro v (⟨_, _, rfl⟩ | ⟨g, cap, cur, _, _, rfl, hg, _⟩)
  ·
   simp
  ·
   simpa using fun h : b = g => hg h.symm
 rcases h with ⟨_, p, v, _, _, h⟩ | ⟨_, v, lr, _, h⟩ | ⟨_, rfl, _⟩
 ·
  exact row h
 ·
  exact row h
 ·
  simp
theorem back_writer {v : Value} {vs : List Value} {args : List V} {O1 O : List Nat} {b kd T e kd' : Nat} {bs bs' : List UInt8} {rv : Value} {res : V} {S' : Nat → Prop} {Or : List Nat}
  (hG : Given G S w (.pointer (some ⟨b, 0, none⟩) :: vs) (.lib kd T e bs :: args) ((b :: O1) ++ O)) (hO : O = []) (hw : WriterOut w kd' T e b O1 bs' w') (hr : Rep S w' rv res []) :
  ∃ S' Or Oo, Back S w ((b :: O1) ++ O) (.pointer (some ⟨b, 0, none⟩) :: vs) rv res (.lib kd' T e bs' :: args.map fun _ => .ud) S' w' Or Oo := by
 subst hO
 obtain ⟨O', hB, hin, hsz, hkeep, hsame⟩ := hw
 have hl : vs.length = args.length := by simpa using hG.rep.len
 have hap : ∀ y ∈ b :: O', ¬ S y ∧ (y ∈ (b :: O1) ++ [] ∨ w.heap.size ≤ y) := by
  intro y hy
  have h1 : y ∈ b :: O1 ∨ w.heap.size ≤ y := by
   rcases List.mem_cons.1 hy with rfl | hy
   ·
    exact .inl (by simp)
   ·
    exact (hin y hy).imp (fun h => by simp [h]) id
  refine ⟨fun hs => ?_, h1.imp (fun h => by simpa using h) id⟩
  rcases h1 with h1 | h1
  ·
   exact hG.apart y (by simpa using h1) hs
  ·
   exact absurd (hG.low y hs) (Nat.not_lt.2 h1)
 refine ⟨S, [], (b :: O') ++ [], hr, .cons (.lib hB) (undefs hl), by simpa using hB.nodup, ?_, hsz, fun _ h => h, fun _ h => .inl h, fun y h => Nat.lt_of_lt_of_le (hG.low y h) hsz, fun k hk hn => ?_, hsame⟩
 ·
  intro y hy
  exact hap y (by simpa using hy)
 ·
  have hn' : k ≠ b ∧ k ∉ O1 := by simpa using hn
  exact hkeep k hk hn'.1 hn'.2
def primWS (kd T e : Nat) : List V → Option (V × List V)
 | [.lib kd' T' e' bs, .str s] => if kd' = kd ∧ T' = T ∧ e' = e ∧ s ≠ [] ∧ bs.length + s.length ≤ lim then some (.tup [.int .i64 s.length, .ud], [.lib kd T e (bs ++ s), .ud]) else none
 | _ => none
theorem lib_two {vs : List Value} {kd T e : Nat} {bs : List UInt8} {x : V} {O : List Nat} (h : Reps S w vs [.lib kd T e bs, x] O) :
  ∃ b O1 u O2, vs = [.pointer (some ⟨b, 0, none⟩), u] ∧ O = (b :: O1) ++ (O2 ++ []) ∧ LibBox w kd T e b bs O1 ∧ Rep S w u x O2 := by
 cases h with
 | cons h1 h2 => cases h1 with
  | lib hB => cases h2 with
   | cons h2 h3 => cases h3 with
    | nil => exact ⟨_, _, _, _, rfl, rfl, hB, h2⟩
theorem lib_one {vs : List Value} {kd T e : Nat} {bs : List UInt8} {O : List Nat} (h : Reps S w vs [.lib kd T e bs] O) :
  ∃ b O1, vs = [.pointer (some ⟨b, 0, none⟩)] ∧ O = (b :: O1) ++ [] ∧ LibBox w kd T e b bs O1 := by
 cases h with
 | cons h1 h2 => cases h1 with
  | lib hB => cases h2 with
   | nil => exact ⟨_, _, rfl, rfl, hB⟩
theorem writeS_ok {f kd T e : Nat} {args outs : List V} {res : V} (he : ∀ (vs : Array Value) (w : World), (callFunc f vs).run P w = .ok (.enter f vs) w)
  (hc : ∀ (w : World) (b : Nat) (O : List Nat) (bs : List UInt8) (s : ByteArray), LibBox w kd T e b bs O → 1 ≤ s.size → bs.length + s.size ≤ lim →
   Calls P f #[.pointer (some ⟨b, 0, none⟩), .string s] w fun ex w' => ex = .returned (.tuple #[.int .i64 s.size, .nilIface]) ∧ WriterOut w kd T e b O (bs ++ s.data.toList) w')
  (h : primWS kd T e args = some (res, outs)) : Does P G f args res outs := by
 unfold primWS at h
 split at h
 ·
  rename_i kd' T' e' bs s
  split at h
  ·
   rename_i hle
   obtain ⟨rfl, rfl, rfl, hs, hle⟩ := hle
   simp only [Option.some.injEq, Prod.mk.injEq] at h
   obtain ⟨rfl, rfl⟩ := h
   intro S w vs O hG
   obtain ⟨b, O1, u, O2, rfl, rfl, hB, hu⟩ := lib_two hG.rep
   cases hu with
   | str sb =>
   have hsz : sb.data.toList.length = sb.size := Array.length_toList
   have hp : 1 ≤ sb.size := by
    rw [← hsz]; exact Nat.pos_of_ne_zero fun h0 => hs (List.eq_nil_of_length_eq_zero h0)
   refine .inl ⟨he _ _, (hc w b O1 bs sb hB hp (by rw [hsz] at hle; exact hle)).mono fun ex w' ⟨h1, h2⟩ => ⟨_, h1, ?_⟩⟩
   have hr : Rep S w' (.tuple #[.int .i64 sb.size, .nilIface]) (.tup [.int .i64 (sb.data.toList.length : Int), .ud]) [] := by
    rw [hsz]
    exact .tup (O := []) (.cons (O1 := []) (O2 := []) (.int _ _) (.cons (O1 := []) (O2 := []) (.ud _) .nil))
   exact back_writer (args := [.str sb.data.toList]) (S' := S) (Or := []) (v := .nilIface) hG rfl h2 hr
  ·
   cases h
 ·
  cases h
def primLenW (T e : Nat) : List V → Option (V × List V)
 | [.lib 0 T' e' bs] => if T' = T ∧ e' = e then some (.int .i64 bs.length, [.lib 0 T e bs]) else none
 | _ => none
theorem lenW_ok {f T e : Nat} {args outs : List V} {res : V} (he : ∀ (vs : Array Value) (w : World), (callFunc f vs).run P w = .ok (.enter f vs) w)
  (hc : ∀ (w : World) (b : Nat) (O : List Nat) (bs : List UInt8), LibBox w 0 T e b bs O → Calls P f #[.pointer (some ⟨b, 0, none⟩)] w fun ex w' => ex = .returned (.int .i64 bs.length) ∧ w' = w)
  (h : primLenW T e args = some (res, outs)) : Does P G f args res outs := by
 unfold primLenW at h
 split at h
 ·
  rename_i T' e' bs
  split at h
  ·
   rename_i hle
   obtain ⟨rfl, rfl⟩ := hle
   simp only [Option.some.injEq, Prod.mk.injEq] at h
   obtain ⟨rfl, rfl⟩ := h
   intro S w vs O hG
   obtain ⟨b, O1, rfl, rfl, hB⟩ := lib_one hG.rep
   refine .inl ⟨he _ _, (hc w b O1 bs hB).mono fun ex w' ⟨h1, h2⟩ => ⟨_, h1, ?_⟩⟩
   subst h2
   exact back_writer (args := []) (S' := S) (Or := []) (v := .nilIface) hG rfl ⟨O1, hB, fun y hy => .inl hy, Nat.le_refl _, fun _ _ _ _ => rfl, Same.refl _⟩ (.int _ _)
  ·
   cases h
 ·
  cases h
def primStrW (T e : Nat) : List V → Option (V × List V)
 | [.lib 0 T' e' bs] => if T' = T ∧ e' = e ∧ bs ≠ [] then some (.str bs, [.lib 2 T e []]) else none
 | _ => none
theorem strW_ok {f T e : Nat} {args outs : List V} {res : V} (he : ∀ (vs : Array Value) (w : World), (callFunc f vs).run P w = .ok (.enter f vs) w)
  (hc : ∀ (w : World) (b : Nat) (O : List Nat) (bs : List UInt8), LibBox w 0 T e b bs O → bs ≠ [] →
   Calls P f #[.pointer (some ⟨b, 0, none⟩)] w fun ex w' => ex = .returned (.string ⟨bs.toArray⟩) ∧ w.heap.size ≤ w'.heap.size ∧ (∀ k, k < w.heap.size → k ∉ O → w'.heap[k]? = w.heap[k]?) ∧ Same w w')
  (h : primStrW T e args = some (res, outs)) : Does P G f args res outs := by
 unfold primStrW at h
 split at h
 ·
  rename_i T' e' bs
  split at h
  ·
   rename_i hle
   obtain ⟨rfl, rfl, hne⟩ := hle
   simp only [Option.some.injEq, Prod.mk.injEq] at h
   obtain ⟨rfl, rfl⟩ := h
   intro S w vs O hG
   obtain ⟨b, O1, rfl, rfl, hB⟩ := lib_one hG.rep
   refine .inl ⟨he _ _, (hc w b O1 bs hB hne).mono fun ex w' ⟨h1, h2, h3, h4⟩ => ⟨_, h1, ?_⟩⟩
   have hbO : b ∉ O1 := (List.nodup_cons.1 hB.nodup).1
   have hlt := hB.lt b (by simp)
   have hb : w'.heap[b]? = w.heap[b]? := h3 b hlt hbO
   have hcs : ∃ cs, w.heap[b]? = some (.cells cs T' (0, 0)) := by
    rcases hB with ⟨_, p, v, h, _⟩ | ⟨h0, _⟩ | ⟨h0, _⟩
    ·
     exact ⟨_, h⟩
    ·
     cases h0
    ·
     cases h0
   obtain ⟨cs, hcs⟩ := hcs
   refine back_writer (args := []) (S' := S) (Or := []) (v := .nilIface) hG rfl ⟨[], .inr (.inr ⟨rfl, rfl, cs, by rw [hb]; exact hcs⟩), by simp, h2, fun k hk _ hn => h3 k hk hn, h4⟩ ?_
   exact .str (S := S) (w := w') ⟨bs.toArray⟩
  ·
   cases h
 ·
  cases h
def primBytesW (T e : Nat) : List V → Option (V × List V)
 | [.lib 1 T' e' bs] => if T' = T ∧ e' = e then some (.sl 1 false (bytesV bs), [.lib 2 T e []]) else none
 | _ => none
theorem bytesV_len (bs : List UInt8) : (bytesV bs).length = bs.length := by simp [bytesV]
theorem bytesV_flat (bs : List UInt8) : (bytesV bs).flatten = bs.map fun b => V.int .u8 b.toNat := flat_single _ bs
theorem mem_bytes {g : Nat} {cur : Array Value} {e : Nat} {fz : Nat × Nat} (h : w.heap[g]? = some (.cells cur e fz)) : ∀ (bs : List UInt8) (o : Nat), (cur.toList.drop o).take bs.length = (bs.map fun c => Value.int .u8 c.toNat) →
  Mem S w g o (bs.map fun b => V.int .u8 b.toNat) []
 | [], o, _ => .nil _ _
 | x :: bs, o, ht => by
  have hx : cur.toList[o]? = some (.int .u8 x.toNat) := by
   have := congrArg (·[0]?) ht
   simpa [List.getElem?_take, List.getElem?_drop] using this
  have hc : w.cell? ⟨g, o, none⟩ = some (.int .u8 x.toNat) := by
   simp only [World.cell?, h]
   rw [← Array.getElem?_toList]
   exact hx
  have hd : cur.toList.drop o = .int .u8 x.toNat :: cur.toList.drop (o + 1) := by
   have hlt : o < cur.toList.length := (List.getElem?_eq_some_iff.1 hx).1
   rw [List.drop_eq_getElem_cons hlt]
   rw [List.getElem?_eq_getElem hlt] at hx
   rw [Option.some.inj hx]
  have ht' : (cur.toList.drop (o + 1)).take bs.length = (bs.map fun c => Value.int .u8 c.toNat) := by
   rw [hd] at ht
   simpa using ht
  simpa using Mem.cons (O1 := []) (O2 := []) hc rfl (.int _ _) (mem_bytes h bs (o + 1) ht')
theorem bytesW_ok {f T e : Nat} {args outs : List V} {res : V} (he : ∀ (vs : Array Value) (w : World), (callFunc f vs).run P w = .ok (.enter f vs) w)
  (hc : ∀ (w : World) (b : Nat) (v : Value) (lr : Int) (O : List Nat) (bs : List UInt8), w.heap[b]? = some (.cells #[v, .int .i64 0, .int .i8 lr] T (0, 0)) → LibRow w e b v bs O →
   Calls P f #[.pointer (some ⟨b, 0, none⟩)] w fun ex w' => ex = .returned v ∧ w'.heap = w.heap ∧ Same w w')
  (h : primBytesW T e args = some (res, outs)) : Does P G f args res outs := by
 unfold primBytesW at h
 split at h
 ·
  rename_i T' e' bs
  split at h
  ·
   rename_i hle
   obtain ⟨rfl, rfl⟩ := hle
   simp only [Option.some.injEq, Prod.mk.injEq] at h
   obtain ⟨rfl, rfl⟩ := h
   intro S w vs O hG
   obtain ⟨b, O1, rfl, rfl, hB⟩ := lib_one hG.rep
   have hnd := hB.nodup
   rcases hB with ⟨h0, _⟩ | ⟨_, v, lr, hbk, hrow⟩ | ⟨h0, _⟩
   ·
    cases h0
   ·
    refine .inl ⟨he _ _, (hc w b v lr O1 bs hbk hrow).mono fun ex w' ⟨h1, hh, hsame⟩ => ⟨_, h1, ?_⟩⟩
    have hbk' : w'.heap[b]? = some (.cells #[v, .int .i64 0, .int .i8 lr] T' (0, 0)) := by rw [hh]; exact hbk
    have hb0 : b < w.heap.size := lt_of_some hbk
    have hG1 := hG.apart b (by simp)
    have hres : ∀ S' : Nat → Prop, (∀ y ∈ O1, S' y) → Rep S' w' v (.sl 1 false (bytesV bs)) [] := by
     intro S' hS'
     rcases hrow with ⟨rfl, rfl, rfl⟩ | ⟨g, cap, cur, _, rfl, rfl, hgb, hg, hle, hcm, hcs, htk⟩
     ·
      exact .sl0 none 0 1 false (by simp)
     ·
      cases bs with
      | nil => exact .sl0 _ _ _ _ (by simp)
      | cons x bs =>
       have hm : Mem S' w' g 0 (bytesV (x :: bs)).flatten [] := by
        rw [bytesV_flat]
        exact mem_bytes (w := w') (by rw [hh]; exact hg) _ 0 (by simpa using htk)
       have := Rep.sl (S := S') (w := w') (b := g) (o := 0) (c := cap) (k := 1) (f := false) (rows := bytesV (x :: bs)) (by decide) (by simp [bytesV]) (by
        intro r hr
        obtain ⟨y, _, rfl⟩ := List.mem_map.1 hr
        rfl) (hS' g (by simp)) ⟨by rw [bytesV_len]; exact hle, by simp⟩ hm
       rw [bytesV_len] at this
       exact this
    refine ⟨fun y => S y ∨ y ∈ O1, [], (b :: []) ++ [], hres _ fun y hy => .inr hy, .cons (.lib (.inr (.inr ⟨rfl, rfl, _, hbk'⟩))) .nil, by simp, ?_, by rw [hh]; exact Nat.le_refl _, fun y h => .inl h, fun y h => ?_, fun y h => ?_, fun k _ _ => by rw [hh], hsame⟩
    ·
     intro y hy
     have : y = b := by simpa using hy
     subst this
     refine ⟨?_, .inl (by simp)⟩
     rintro (h | h)
     ·
      exact hG1 h
     ·
      exact (List.nodup_cons.1 hnd).1 h
    ·
     exact h.imp id fun h => .inl (by simp [h])
    ·
     rw [hh]
     rcases h with h | h
     ·
      exact hG.low y h
     ·
      rcases hrow with ⟨_, _, rfl⟩ | ⟨g, cap, cur, _, _, rfl, _, hg, _⟩
      ·
       cases h
      ·
       rw [List.mem_singleton.1 h]; exact lt_of_some hg
   ·
    cases h0
  ·
   cases h
 ·
  cases h
def u8s? : List (List V) → Option (List UInt8)
 | [] => some []
 | r :: rest => match r with
  | [.int .u8 n] => if 0 ≤ n ∧ n < 256 then (u8s? rest).bind fun l => some (UInt8.ofNat n.toNat :: l) else none
  | _ => none
theorem u8s_rows : ∀ {rows : List (List V)} {l : List UInt8}, u8s? rows = some l → rows = bytesV l
 | [], l, h => by simp only [u8s?, Option.some.injEq] at h; subst h; rfl
 | r :: rest, l, h => by
  simp only [u8s?] at h
  split at h
  ·
   rename_i n
   split at h
   ·
    rename_i hn
    simp only [Option.bind_eq_some_iff, Option.some.injEq] at h
    obtain ⟨l', h1, rfl⟩ := h
    rw [u8s_rows h1]
    have : ((UInt8.ofNat n.toNat).toNat : Int) = n := by
     simp only [UInt8.toNat_ofNat']
     omega
    simp only [bytesV, List.map_cons, this]
   ·
    cases h
  ·
   cases h
def primWB (T e : Nat) : List V → Option (V × List V)
 | [.lib 1 T' e' bs, .sl 1 _ rows] => (u8s? rows).bind fun s => if T' = T ∧ e' = e ∧ s ≠ [] ∧ bs.length + s.length ≤ lim then some (.tup [.int .i64 s.length, .ud], [.lib 1 T e (bs ++ s), .ud]) else none
 | _ => none
theorem writeB_ok {f T e : Nat} {args outs : List V} {res : V} (he : ∀ (vs : Array Value) (w : World), (callFunc f vs).run P w = .ok (.enter f vs) w)
  (hc : ∀ (w : World) (b : Nat) (O : List Nat) (bs s : List UInt8) (a o c : Nat), LibBox w 1 T e b bs O → 1 ≤ s.length → bs.length + s.length ≤ lim → a ≠ b → a ∉ O → a < w.heap.size → s.length ≤ c → (∀ j, j < s.length → w.cell? ⟨a, o + j, none⟩ = some (.int .u8 (s.getD j 0).toNat)) →
   Calls P f #[.pointer (some ⟨b, 0, none⟩), .slice (some ⟨a, o, none⟩) s.length c] w fun ex w' => ex = .returned (.tuple #[.int .i64 s.length, .nilIface]) ∧ WriterOut w 1 T e b O (bs ++ s) w')
  (h : primWB T e args = some (res, outs)) : Does P G f args res outs := by
 unfold primWB at h
 split at h
 ·
  rename_i T' e' bs fl rows
  simp only [Option.bind_eq_some_iff] at h
  obtain ⟨s, hs, h⟩ := h
  split at h
  ·
   rename_i hle
   obtain ⟨rfl, rfl, hne, hle⟩ := hle
   simp only [Option.some.injEq, Prod.mk.injEq] at h
   obtain ⟨rfl, rfl⟩ := h
   intro S w vs O hG
   obtain ⟨b, O1, u, O2, rfl, rfl, hB, hu⟩ := lib_two hG.rep
   have hrows := u8s_rows hs
   generalize hk : (1 : Nat) = k at hu
   cases hu with
   | sl0 =>
    cases s with
    | nil => exact absurd rfl hne
    | cons => simp [bytesV] at hrows
   | @sl a o c _ _ _ h1 h2 h3 h4 h5 h6 =>
   subst hk
   subst hrows
   have hm := h6
   rw [bytesV_flat] at hm
   have hab : a ∉ b :: O1 := fun hin => hG.apart a (by simp at hin ⊢; exact hin) h4
   have hcell : ∀ j, j < s.length → w.cell? ⟨a, o + j, none⟩ = some (.int .u8 (s.getD j 0).toNat) := by
    intro j hj
    obtain ⟨P1, P2, P3, v, _, hc1, hr, _, _, _⟩ := hm.at (j := j) (by simpa using hj)
    rw [hc1]
    have : (s.map fun b => V.int .u8 b.toNat).getD j .ud = .int .u8 (s.getD j 0).toNat := by simp [List.getD_eq_getElem?_getD, hj]
    rw [this] at hr
    cases hr
    rfl
   have hp : 1 ≤ s.length := Nat.pos_of_ne_zero fun h0 => hne (List.eq_nil_of_length_eq_zero h0)
   have hcall := hc w b O1 bs s a o c hB hp hle (fun h => hab (by simp [h])) (fun h => hab (by simp [h])) (hG.low a h4) (by rw [← bytesV_len]; exact h5.1) hcell
   refine .inl ⟨he _ _, ?_⟩
   rw [bytesV_len]
   refine hcall.mono fun ex w' ⟨h1, h2⟩ => ⟨_, h1, ?_⟩
   have hr : Rep S w' (.tuple #[.int .i64 s.length, .nilIface]) (.tup [.int .i64 (s.length : Int), .ud]) [] :=
    .tup (O := []) (.cons (O1 := []) (O2 := []) (.int _ _) (.cons (O1 := []) (O2 := []) (.ud _) .nil))
   rw [bytesV_len] at hG
   exact back_writer (args := [.sl 1 fl (bytesV s)]) (S' := S) (Or := []) (v := .nilIface) hG rfl h2 hr
  ·
   cases h
 ·
  cases h
def dig10 (n : Nat) : List UInt8 := if n < 10 then [UInt8.ofNat (48 + n)] else [UInt8.ofNat (48 + n / 10), UInt8.ofNat (48 + n % 10)]
def primItoa : List V → Option (V × List V)
 | [.int .i64 n] => if 0 ≤ n ∧ n < 100 then some (.str (dig10 n.toNat), [.ud]) else none
 | _ => none
theorem itoa_ok {f : Nat} {args outs : List V} {res : V} (he : ∀ (vs : Array Value) (w : World), (callFunc f vs).run P w = .ok (.enter f vs) w)
  (hc : ∀ (i : Nat), i < 100 → ∀ w : World, Calls P f #[.int .i64 i] w fun ex w' => ex = .returned (.string ⟨(dig10 i).toArray⟩) ∧ w' = w)
  (h : primItoa args = some (res, outs)) : Does P G f args res outs := by
 unfold primItoa at h
 split at h
 ·
  rename_i n
  split at h
  ·
   rename_i hn
   simp only [Option.some.injEq, Prod.mk.injEq] at h
   obtain ⟨rfl, rfl⟩ := h
   refine does_calls (args := [.int .i64 n]) he fun S w vs O hG => ?_
   obtain ⟨u, O1, rfl, r1⟩ := one hG.rep
   cases r1
   have hcc := hc n.toNat (by omega) w
   rw [show ((n.toNat : Nat) : Int) = n by omega] at hcc
   refine hcc.mono fun e w' ⟨h1, h2⟩ => ⟨_, [], h1, ?_, .str (S := S) (w := w') ⟨(dig10 n.toNat).toArray⟩, by simp, by simp⟩
   rw [h2]; exact Below.refl _ _
  ·
   cases h
 ·
  cases h
end
end Go.Zv
namespace Go.Zv
open Go Go.RowKit
section
variable {P : Program} {w w' : World}
def u8cells (bs : List UInt8) : List Value := bs.map fun c => Value.int .u8 c.toNat
theorem u8cells_len (bs : List UInt8) : (u8cells bs).length = bs.length := by simp [u8cells]
theorem u8cells_one (bs : List UInt8) : ∀ v ∈ u8cells bs, v.oneCell' = true := by
 intro v hv
 obtain ⟨c, _, rfl⟩ := List.mem_map.1 hv
 rfl
structure RowOut (w : World) (e b : Nat) (O : List Nat) (v' : Value) (bs : List UInt8) (w' : World) (O' : List Nat) : Prop where
 row : LibRow w' e b v' bs O'
 own : ∀ y ∈ O', y ∈ O ∨ w.heap.size ≤ y
 size : w.heap.size ≤ w'.heap.size
 keep : ∀ k, k < w.heap.size → k ∉ O → w'.heap[k]? = w.heap[k]?
 same : Same w w'
theorem str_cells (s : ByteArray) : ∀ w : World, (Builtin.firstCells 1 s.size (.string s)).run P w = .ok (u8cells s.data.toList).toArray w := fun w => by
 have he : (s.extract 0 s.size).data.map (fun b : UInt8 => Value.int .u8 b.toNat) = (s.data.toList.map fun b => Value.int .u8 b.toNat).toArray := by
  rw [ByteArray.data_extract]
  have : s.data.extract 0 s.size = s.data := by
   have : s.size = s.data.size := rfl
   rw [this, Array.extract_size]
  rw [this]
  apply Array.ext'
  simp
 have h0 : s.size ≠ 0 → (Builtin.firstCells 1 s.size (.string s)).run P w = .ok ((s.extract 0 s.size).data.map (fun b : UInt8 => Value.int .u8 b.toNat)) w := fun h => by
  simp [Builtin.firstCells]
 by_cases h : s.size = 0
 ·
  have hs : s.data.toList = [] := by
   apply List.eq_nil_of_length_eq_zero
   rw [Array.length_toList]; exact h
  rw [h]
  simp [Builtin.firstCells, u8cells, hs]
 ·
  rw [h0 h, he]; rfl
theorem row_append_str {t u ty e b : Nat} {i : TypeInfo} {v : Value} {bs : List UInt8} {O : List Nat} (ht : P.underlying t = some (.slice e)) (hu : P.underlying u = some .string) (hi : P.info? e = some i) (hz : i.zero = some (.int .u8 0)) (hsz : i.size = 1) (hby : i.bytes ≤ 65536)
  (hrow : LibRow w e b v bs O) (hbw : b < w.heap.size) (s : ByteArray) (hs : 1 ≤ s.size) (hle : bs.length + s.size ≤ lim) :
  ∃ v' w' O', (Builtin.append_ #[t, u] ty #[v, .string s]).run P w = .ok v' w' ∧ RowOut w e b O v' (bs ++ s.data.toList) w' O' := by
 have hlen : s.data.toList.length = s.size := Array.length_toList
 have hlim : lim = 2147483648 := rfl
 have hne : bs ++ s.data.toList ≠ [] := by
  intro h
  have := congrArg List.length h
  rw [List.length_append, hlen] at this
  change bs.length + s.size = 0 at this
  omega
 have hsrc : Src P w (.int .u8 0) i.size .string (.string s) s.size (u8cells s.data.toList) := by
  rw [hsz]
  exact .inr ⟨by simp, fun _ => rfl, str_cells s w, str_cells s w.drew⟩
 have hnl : (bs ++ s.data.toList).length = bs.length + s.size := by rw [List.length_append, hlen]
 have fresh : ∀ {base : Option Addr} {sCap : Nat}, (Builtin.firstCells i.size bs.length (.slice base bs.length sCap)).run P w.drew = .ok (u8cells bs).toArray w.drew → ¬ bs.length + s.size ≤ sCap →
   ∃ v' w' O', (Builtin.append_ #[t, u] ty #[.slice base bs.length sCap, .string s]).run P w = .ok v' w' ∧ RowOut w e b O v' (bs ++ s.data.toList) w' O' := by
  intro base sCap hold hroom
  have hrun := (run_append (P := P) (w := w) (ty := ty) (z := .int .u8 0) ht hu hi hz (by simp [Value.cells, hsz]) hby hle hsrc hold).2 hroom
  have hcap := grownCap_ge w (bs.length + s.size) sCap e
  have hcm := grownCap_le_maxLen w (bs.length + s.size) sCap e (by unfold maxLen; omega)
  refine ⟨_, _, [w.heap.size], hrun, ⟨.inr ⟨w.heap.size, _, _, hne, by rw [hnl], rfl, by omega, heap_new w.drew _, by rw [hnl]; exact hcap, hcm, ?_, ?_⟩, fun y hy => .inr (Nat.le_of_eq (List.mem_singleton.1 hy).symm), by show w.heap.size ≤ (w.heap.push _).size; rw [Array.size_push]; omega, fun k hk _ => heap_alloc_old w.drew _ k hk, ⟨rfl, rfl, rfl⟩⟩⟩
  ·
   rw [Array.size_append, Array.size_append, size_zeroCells, List.size_toArray, List.size_toArray, u8cells_len, u8cells_len, hlen]
   show bs.length + s.size + (grownCap w (bs.length + s.size) sCap e - (bs.length + s.size)) * 1 = _
   omega
  ·
   have hk : ((u8cells bs).toArray ++ (u8cells s.data.toList).toArray ++ Builtin.zeroCells (Value.int .u8 0).cells (grownCap w (bs.length + s.size) sCap e - (bs.length + s.size))).toList = (u8cells bs ++ u8cells s.data.toList) ++ (Builtin.zeroCells (Value.int .u8 0).cells (grownCap w (bs.length + s.size) sCap e - (bs.length + s.size))).toList := by simp
   rw [hk, List.take_left' (by simp [u8cells])]
   simp [u8cells]
 rcases hrow with ⟨rfl, rfl, rfl⟩ | ⟨g, cap, cur, hbs, rfl, rfl, hgb, hg, hlc, hcm, hcs, htk⟩
 ·
  exact fresh (by rfl) (by show ¬ 0 + s.size ≤ 0; omega)
 ·
  by_cases hroom : bs.length + s.size ≤ cap
  ·
   have hold : (Builtin.firstCells i.size bs.length (.slice (some ⟨g, 0, none⟩) bs.length cap)).run P w.drew = .ok (u8cells bs).toArray w.drew := by
    rw [hsz]
    refine run_firstCells_some (P := P) w.drew 1 bs.length ⟨g, 0, none⟩ bs.length cap (u8cells bs) (by simp [u8cells]) fun j x hj => ?_
    rw [add_none, Nat.zero_add]
    have hg' : w.drew.heap[g]? = some (.cells cur e (0, 0)) := hg
    simp only [World.cell?, hg']
    have : cur.toList[j]? = some x := by
     have hjl : j < bs.length := by
      have := (List.getElem?_eq_some_iff.1 hj).1
      rwa [u8cells_len] at this
     have h1 := congrArg (·[j]?) htk
     simp only [List.getElem?_take, if_pos hjl] at h1
     rw [h1]; exact hj
    rw [← Array.getElem?_toList]; exact this
   have hst := run_storeCells_at P g bs.length e (u8cells s.data.toList) 0 cur w hg (by rw [u8cells_len, hlen, hcs]; omega) (u8cells_one _)
   rw [Nat.add_zero] at hst
   have hrun := (run_append (P := P) (w := w) (ty := ty) (z := .int .u8 0) ht hu hi hz (by simp [Value.cells, hsz]) hby hle hsrc hold).1 hroom _ (by
    simp only [hsz, Nat.mul_one, add_none, Nat.zero_add]
    exact hst)
   have hgl : g < w.heap.size := lt_of_some hg
   refine ⟨_, _, [g], hrun, ⟨.inr ⟨g, cap, _, hne, by rw [hnl], rfl, hgb, setRow_heap _ _ cur _ e (0, 0) hg, by rw [hnl]; exact hroom, hcm, ?_, ?_⟩, by simp, by simp [World.setRow], fun k hk hn => setRow_other _ _ _ _ (by simpa using hn), ⟨rfl, rfl, rfl⟩⟩⟩
   ·
    rw [List.size_toArray, List.length_append, List.length_append, List.length_take, List.length_drop, Array.length_toList (xs := cur), u8cells_len, hlen, hcs]
    omega
   ·
    rw [htk]
    have hk : ((bs.map fun c => Value.int .u8 c.toNat) ++ u8cells s.data.toList ++ cur.toList.drop (bs.length + (u8cells s.data.toList).length)).toArray.toList = (u8cells bs ++ u8cells s.data.toList) ++ cur.toList.drop (bs.length + (u8cells s.data.toList).length) := by simp [u8cells]
    rw [hk, List.take_left' (by simp [u8cells])]
    simp [u8cells]
  ·
   refine fresh ?_ hroom
   rw [hsz]
   refine run_firstCells_some (P := P) w.drew 1 bs.length ⟨g, 0, none⟩ bs.length cap (u8cells bs) (by simp [u8cells]) fun j x hj => ?_
   rw [add_none, Nat.zero_add]
   have hg' : w.drew.heap[g]? = some (.cells cur e (0, 0)) := hg
   simp only [World.cell?, hg']
   have : cur.toList[j]? = some x := by
    have hjl : j < bs.length := by
     have := (List.getElem?_eq_some_iff.1 hj).1
     rwa [u8cells_len] at this
    have h1 := congrArg (·[j]?) htk
    simp only [List.getElem?_take, if_pos hjl] at h1
    rw [h1]; exact hj
   rw [← Array.getElem?_toList]; exact this
theorem freeze_size (w : World) (a : Addr) (n : Nat) : (w.freeze a n).heap.size = w.heap.size := by
 unfold World.freeze
 split
 ·
  rfl
 ·
  simp
theorem freeze_other (w : World) (a : Addr) (n : Nat) {k : Nat} (h : k ≠ a.block) : (w.freeze a n).heap[k]? = w.heap[k]? := by
 unfold World.freeze
 split
 ·
  rfl
 ·
  simp [Array.getElem?_modify, Ne.symm h]
theorem freeze_same (w : World) (a : Addr) (n : Nat) : Same w (w.freeze a n) := by
 unfold World.freeze
 split
 ·
  exact Same.refl _
 ·
  exact ⟨rfl, rfl, rfl⟩
theorem RowOut.writer {kd T e b : Nat} {O O' : List Nat} {p v v' : Value} {bs : List UInt8} {w w' : World} (h : RowOut w e b O v' bs w' O') (hkd : kd = 0) (hbO : b ∉ O) (hp : p = .pointer none ∨ p = .pointer (some ⟨b, 0, none⟩))
  (hb : w.heap[b]? = some (.cells #[p, v] T (0, 0))) : WriterOut w kd T e b O bs (w'.setCell ⟨b, 1, none⟩ v') := by
 have hlt := lt_of_some hb
 have hb' : w'.heap[b]? = some (.cells #[p, v] T (0, 0)) := by rw [h.keep b hlt hbO]; exact hb
 have hoth : ∀ k, k ≠ b → (w'.setCell ⟨b, 1, none⟩ v').heap[k]? = w'.heap[k]? := fun k hk => Below.heap_setCell _ _ _ _ (fun e => hk (by simp [e]))
 have hO' : b ∉ O' := fun hin => by
  rcases h.own b hin with h1 | h1
  ·
   exact hbO h1
  ·
   omega
 subst hkd
 refine ⟨O', .inl ⟨rfl, p, v', ?_, hp, h.row.of_heap fun y hy => hoth y fun e => hO' (e ▸ hy)⟩, h.own, by simpa [World.setCell] using h.size, fun k hk hkb hn => by rw [hoth k hkb]; exact h.keep k hk hn, ?_⟩
 ·
  simp [World.setCell, Array.getElem?_modify, hb']
 ·
  exact h.same.trans ⟨rfl, rfl, rfl⟩
def Room (w : World) (T e b : Nat) (O : List Nat) (bs : List UInt8) (n : Nat) (w' : World) : Prop :=
 ∃ g cap cur lr, w'.heap[b]? = some (.cells #[.slice (some ⟨g, 0, none⟩) (bs.length + n) cap, .int .i64 0, .int .i8 lr] T (0, 0)) ∧ g ≠ b ∧ (g ∈ O ∨ w.heap.size ≤ g) ∧ w'.heap[g]? = some (.cells cur e (0, 0)) ∧
  bs.length + n ≤ cap ∧ cap ≤ maxLen ∧ cur.size = cap ∧ cur.toList.take bs.length = u8cells bs ∧ w.heap.size ≤ w'.heap.size ∧ (∀ k, k < w.heap.size → k ≠ b → w'.heap[k]? = w.heap[k]?) ∧ Same w w'
theorem room_written {T e b : Nat} {O : List Nat} {bs s : List UInt8} {w w' : World} {g cap : Nat} {cur : Array Value} {lr : Int} (hs : s ≠ [])
  (h1 : w'.heap[b]? = some (.cells #[.slice (some ⟨g, 0, none⟩) (bs.length + s.length) cap, .int .i64 0, .int .i8 lr] T (0, 0))) (h2 : g ≠ b) (h3 : g ∈ O ∨ w.heap.size ≤ g) (h4 : w'.heap[g]? = some (.cells cur e (0, 0)))
  (h5 : bs.length + s.length ≤ cap) (h6 : cap ≤ maxLen) (h7 : cur.size = cap) (h8 : cur.toList.take bs.length = u8cells bs) (h9 : w.heap.size ≤ w'.heap.size) (h10 : ∀ k, k < w.heap.size → k ≠ b → w'.heap[k]? = w.heap[k]?) (h11 : Same w w')
  (hbw : b < w.heap.size) : WriterOut w 1 T e b O (bs ++ s) (w'.setRow g (cur.toList.take bs.length ++ u8cells s ++ cur.toList.drop (bs.length + s.length)).toArray) := by
 have hoth : ∀ k, k ≠ g → (w'.setRow g (cur.toList.take bs.length ++ u8cells s ++ cur.toList.drop (bs.length + s.length)).toArray).heap[k]? = w'.heap[k]? := fun k hk => setRow_other _ _ _ _ hk
 refine ⟨[g], .inr (.inl ⟨rfl, _, lr, by rw [hoth b (Ne.symm h2)]; exact h1, .inr ⟨g, cap, _, ?_, by rw [List.length_append], rfl, h2, setRow_heap _ _ cur _ e (0, 0) h4, by rw [List.length_append]; exact h5, h6, ?_, ?_⟩⟩), ?_, by simpa [World.setRow] using h9, fun k hk hkb hn => ?_, h11.trans ⟨rfl, rfl, rfl⟩⟩
 ·
  intro h
  exact hs (List.append_eq_nil_iff.1 h).2
 ·
  rw [List.size_toArray, List.length_append, List.length_append, List.length_take, List.length_drop, Array.length_toList (xs := cur), u8cells_len, h7]
  omega
 ·
  rw [h8]
  have hk : (u8cells bs ++ u8cells s ++ cur.toList.drop (bs.length + s.length)).toArray.toList = (u8cells bs ++ u8cells s) ++ cur.toList.drop (bs.length + s.length) := by simp
  rw [hk, List.take_left' (by simp [u8cells])]
  simp [u8cells]
 ·
  intro y hy
  rw [List.mem_singleton.1 hy]; exact h3
 ·
  rw [hoth k fun e => ?_]
  ·
   exact h10 k hk hkb
  ·
   subst e
   rcases h3 with h | h
   ·
    exact hn h
   ·
    omega
theorem setCell_heap {w : World} {b i : Nat} {cs : Array Value} {T : Nat} {fz : Nat × Nat} (h : w.heap[b]? = some (.cells cs T fz)) (v : Value) : (w.setCell ⟨b, i, none⟩ v).heap[b]? = some (.cells (cs.setIfInBounds i v) T fz) := by
 simp [World.setCell, Array.getElem?_modify, h]
theorem setCell_other {w : World} {b i k : Nat} (v : Value) (h : k ≠ b) : (w.setCell ⟨b, i, none⟩ v).heap[k]? = w.heap[k]? := Below.heap_setCell _ _ _ _ (fun e => h (by simp [e]))
end
end Go.Zv
namespace Go.Zv
open Go Go.RowKit
section
variable {P : Program} {w : World}
theorem clone_append {t ty e : Nat} {i : TypeInfo} (ht : P.underlying t = some (.slice e)) (hi : P.info? e = some i) (hz : i.zero = some (.int .u8 0)) (hsz : i.size = 1) (hby : i.bytes ≤ 65536)
  (w : World) (a : Addr) (n c : Nat) (xs : List Int) (hx : xs.length = n) (hn : n ≤ lim) (hc : ∀ j, j < n → w.cell? (a.add j) = some (.int .u8 (xs.getD j 0))) :
  ∃ A' c' w', (Builtin.append_ #[t, t] ty #[.slice (some ⟨w.heap.size, 0, none⟩) 0 0, .slice (some a) n c]).run P (w.alloc (.cells #[] e)) = .ok (.slice (some A') n c') w' ∧
   w'.ownsRow w.heap.size e 1 (.slice (some A') n c') n (xs.map (Value.int .u8)) ∧ Below w.heap.size w w' := by
 have hlim : lim = 2147483648 := rfl
 have hvl : (xs.map (Value.int .u8)).length = n * 1 := by simp [hx]
 have hcell : ∀ j v, (xs.map (Value.int .u8))[j]? = some v → w.cell? (a.add j) = some v := by
  intro j v hj
  have hjn : j < n := by
   have := (List.getElem?_eq_some_iff.1 hj).1
   simpa [hx] using this
  rw [hc j hjn]
  rw [List.getElem?_map] at hj
  obtain ⟨y, h1, h2⟩ := Option.map_eq_some_iff.1 hj
  rw [← h2, List.getD_eq_getElem?_getD, h1]; rfl
 have hcell1 : ∀ j v, (xs.map (Value.int .u8))[j]? = some v → (w.alloc (.cells #[] e)).cell? (a.add j) = some v := by
  intro j v hj
  have h1 := hcell j v hj
  have hlt : (a.add j).block < w.heap.size := World.block_lt_of_cell? w _ h1
  rw [World.cell?_of_block (heap_alloc_old w _ _ hlt)]
  exact h1
 have f1 := run_firstCells_some (P := P) (w.alloc (.cells #[] e)) 1 n a n c _ hvl hcell1
 have f2 := run_firstCells_some (P := P) (w.alloc (.cells #[] e)).drew 1 n a n c _ hvl hcell1
 have hsrc : Src P (w.alloc (.cells #[] e)) (.int .u8 0) i.size (.slice e) (.slice (some a) n c) n (xs.map (Value.int .u8)) := by
  rw [hsz]
  exact .inr ⟨by simp, fun _ => rfl, f1, f2⟩
 have hold : (Builtin.firstCells i.size 0 (.slice (some ⟨w.heap.size, 0, none⟩) 0 0)).run P (w.alloc (.cells #[] e)).drew = .ok ([] : List Value).toArray (w.alloc (.cells #[] e)).drew := by
  rw [hsz]
  simp [Builtin.firstCells]; rfl
 have hrun := run_append (P := P) (w := w.alloc (.cells #[] e)) (ty := ty) (z := .int .u8 0) (base := some ⟨w.heap.size, 0, none⟩) (sCap := 0) ht ht hi hz (by simp [Value.cells, hsz]) hby (by omega) hsrc hold
 by_cases h0 : n = 0
 ·
  subst h0
  have hxs : xs = [] := List.eq_nil_of_length_eq_zero hx
  subst hxs
  have := hrun.1 (by omega) (w.alloc (.cells #[] e)) (by simp [storeCells])
  refine ⟨⟨w.heap.size, 0, none⟩, 0, _, this, World.ownsRow_made w #[] 0 (Nat.le_refl _) (Nat.zero_le _) rfl, (Below.refl _ w).alloc (Nat.le_refl _) _⟩
 ·
  have := hrun.2 (by omega)
  rw [Nat.zero_add] at this
  have hcap := grownCap_ge (w.alloc (.cells #[] e)) n 0 e
  have hcm := grownCap_le_maxLen (w.alloc (.cells #[] e)) n 0 e (by unfold maxLen; omega)
  refine ⟨_, _, _, this, ⟨by simp [hx], .inr ⟨_, _, _, rfl, by simp, heap_new (w.alloc (.cells #[] e)).drew _, hcap, hcm, ?_, ?_⟩⟩, ?_⟩
  ·
   rw [Array.size_append, Array.size_append, size_zeroCells, List.size_toArray, List.size_toArray, List.length_map, hx]
   show 0 + n + (grownCap (w.alloc (.cells #[] e)) n 0 e - n) * 1 = _
   omega
  ·
   have hk : (([] : List Value).toArray ++ (xs.map (Value.int .u8)).toArray ++ Builtin.zeroCells (Value.int .u8 0).cells (grownCap (w.alloc (.cells #[] e)) n 0 e - n)).toList = xs.map (Value.int .u8) ++ (Builtin.zeroCells (Value.int .u8 0).cells (grownCap (w.alloc (.cells #[] e)) n 0 e - n)).toList := by simp
   rw [hk, List.take_left' hvl]
  ·
   exact ((Below.refl _ w).alloc (Nat.le_refl _) (.cells #[] e)).drew.alloc (by simp) _
theorem grow_append {t u ty e : Nat} {i : TypeInfo} {k : IntKind} (ht : P.underlying t = some (.slice e)) (hu : P.underlying u = some (.int k)) (hi : P.info? e = some i) (hz : i.zero = some (.int .u8 0)) (hsz : i.size = 1) (hby : i.bytes ≤ 65536)
  (w : World) (A : Option Addr) (n : Nat) (h0 : 0 < n) (hn : n ≤ lim) :
  ∃ cap cur, (Builtin.append_ #[t, u] ty #[.slice A 0 0, .int .i64 n]).run P w = .ok (.slice (some ⟨w.heap.size, 0, none⟩) n cap) (w.drew.alloc (.cells cur e)) ∧ n ≤ cap ∧ cap ≤ maxLen ∧ cur.size = cap := by
 have hlim : lim = 2147483648 := rfl
 have hsrc : Src P w (.int .u8 0) i.size (.int k) (.int .i64 n) n (Builtin.zeroCells (.int .u8 0 : Value).cells n).toList := .inl ⟨⟨_, rfl⟩, ⟨_, rfl⟩, hn, rfl⟩
 have hold : (Builtin.firstCells i.size 0 (.slice A 0 0)).run P w.drew = .ok ([] : List Value).toArray w.drew := by
  rw [hsz]
  cases A with
  | none => rfl
  | some a => simp [Builtin.firstCells]; rfl
 have := (run_append (P := P) (w := w) (ty := ty) (z := .int .u8 0) (base := A) (sCap := 0) ht hu hi hz (by simp [Value.cells, hsz]) hby (by omega) hsrc hold).2 (by omega)
 rw [Nat.zero_add] at this
 have hcap := grownCap_ge w n 0 e
 have hcm := grownCap_le_maxLen w n 0 e (by unfold maxLen; omega)
 refine ⟨_, _, this, hcap, hcm, ?_⟩
 have h1 : (Builtin.zeroCells (.int .u8 0 : Value).cells n).toList.toArray.size = n := by simp [size_zeroCells, Value.cells]
 rw [Array.size_append, Array.size_append, h1, size_zeroCells, List.size_toArray]
 show 0 + n + (grownCap w n 0 e - n) * 1 = _
 omega
def primGrow : List V → Option (V × List V)
 | [.sl 1 true [], .int .i64 n] => if 0 ≤ n ∧ n ≤ (lim : Int) then some (.own false 1 [], [.ud, .ud]) else none
 | _ => none
theorem grow_ok {G : Nat → Option (List V)} {f e : Nat} {args outs : List V} {res : V} (he : ∀ (vs : Array Value) (w : World), (callFunc f vs).run P w = .ok (.enter f vs) w)
  (h0 : ∀ (A : Option Addr) (w : World), Calls P f #[.slice A 0 0, .int .i64 0] w fun ex w' => ex = .returned (.slice A 0 0) ∧ w' = w)
  (hc : ∀ (A : Option Addr) (n : Nat) (w : World), 0 < n → n ≤ lim → Calls P f #[.slice A 0 0, .int .i64 n] w fun ex w' => ∃ cap cur, ex = .returned (.slice (some ⟨w.heap.size, 0, none⟩) 0 cap) ∧ w' = w.drew.alloc (.cells cur e) ∧ cur.size = cap)
  (h : primGrow args = some (res, outs)) : Does P G f args res outs := by
 unfold primGrow at h
 split at h
 ·
  rename_i n
  split at h
  ·
   rename_i hn
   simp only [Option.some.injEq, Prod.mk.injEq] at h
   obtain ⟨rfl, rfl⟩ := h
   refine does_calls (args := [.sl 1 true [], .int .i64 n]) he fun S w vs O hG => ?_
   obtain ⟨u, v, O1, O2, rfl, r1, r2⟩ := two hG.rep
   cases r2
   have hu : ∃ A, u = .slice A 0 0 := by
    generalize hk : (1 : Nat) = k at r1
    generalize hf : true = f at r1
    generalize hr : ([] : List (List V)) = rows at r1
    cases r1 with
    | sl0 a c _ _ hf' => rw [hf' hf.symm]; exact ⟨a, rfl⟩
    | sl h1 h2 => exact absurd hr.symm h2
   obtain ⟨A, rfl⟩ := hu
   obtain ⟨m, rfl⟩ := Int.eq_ofNat_of_zero_le hn.1
   by_cases hm : m = 0
   ·
    subst hm
    refine (h0 A w).mono fun e w' ⟨h1, h2⟩ => ⟨_, [], h1, ?_, .own0 _ _ _, by simp, by simp⟩
    rw [h2]; exact Below.refl _ _
   ·
    refine (hc A m w (by omega) (by omega)).mono fun ex w' ⟨cap, cur, h1, h2, h3⟩ => ⟨_, [w.heap.size], h1, ?_, ?_, by simp, by simp⟩
    ·
     rw [h2]
     exact (Below.refl _ w).drew.alloc (Nat.le_refl _) _
    ·
     rw [h2]
     have hh : (w.drew.alloc (.cells cur e)).heap[w.heap.size]? = some (.cells cur e (0, 0)) := heap_new w.drew _
     have := Rep.own (S := S) (w := w.drew.alloc (.cells cur e)) (b := w.heap.size) (o := 0) (c := cap) (k := 1) (n := false) (rows := []) (O := []) (by decide) (by simp) ⟨cur, e, 0, 0, hh, by omega, .inl rfl⟩ (Nat.zero_le _) (fun _ => rfl) (.nil _ _)
     exact this
  ·
   cases h
 ·
  cases h
end
end Go.Zv
namespace Go.Zv
open Go
def arrV (n : Nat) (k : IntKind) (a : Nat → Int) : List V := (List.range n).map fun i => .int k (a i)
def updA (a : Nat → Int) (i : Nat) (x : Int) : Nat → Int := fun j => cond (Nat.beq j i) x (a j)
def cpyA (a b : Nat → Int) (o m o' : Nat) : Nat → Int := fun j => cond (Nat.ble o j && Nat.blt j (o + m)) (b (j - o + o')) (a j)
def zeroA : Nat → Int := fun _ => 0
def litA (l : List Int) : Nat → Int := fun i => l.getD i 0
def eqA (n : Nat) (a b : Nat → Int) : Bool := (List.range n).all fun i => a i == b i
theorem arrV_length (n : Nat) (k : IntKind) (a : Nat → Int) : (arrV n k a).length = n := by simp [arrV]
theorem arrV_get {n : Nat} {k : IntKind} {a : Nat → Int} {i : Nat} (h : i < n) : (arrV n k a)[i]? = some (.int k (a i)) := by
 simp [arrV, h]
theorem arrV_getD {n : Nat} {k : IntKind} {a : Nat → Int} {i : Nat} {d : V} (h : i < n) : (arrV n k a).getD i d = .int k (a i) := by
 rw [List.getD_eq_getElem?_getD, arrV_get h]; rfl
theorem arrV_getElem {n : Nat} {k : IntKind} {a : Nat → Int} {i : Nat} (h : i < (arrV n k a).length) : (arrV n k a)[i] = .int k (a i) := by
 simp [arrV]
theorem arrV_ext {n : Nat} {k : IntKind} {l : List V} {a : Nat → Int} (hl : l.length = n) (h : ∀ i, i < n → l[i]? = some (.int k (a i))) : l = arrV n k a := by
 apply List.ext_getElem?
 intro i
 by_cases hi : i < n
 ·
  rw [h i hi, arrV_get hi]
 ·
  rw [List.getElem?_eq_none (by omega), List.getElem?_eq_none (by rw [arrV_length]; omega)]
theorem setRange_len {cells cs : List V} {o : Nat} (h : o + cs.length ≤ cells.length) : (setRange cells o cs).length = cells.length := by
 simp [setRange]; omega
theorem setRange_get {cells cs : List V} {o : Nat} (h : o + cs.length ≤ cells.length) (i : Nat) : (setRange cells o cs)[i]? = if o ≤ i ∧ i < o + cs.length then cs[i - o]? else cells[i]? := by
 unfold setRange
 have ht : (cells.take o).length = o := by simp; omega
 by_cases h1 : i < o
 ·
  rw [List.append_assoc, List.getElem?_append_left (by omega), List.getElem?_take_of_lt h1, if_neg (by omega)]
 ·
  by_cases h2 : i < o + cs.length
  ·
   rw [List.append_assoc, List.getElem?_append_right (by omega), List.getElem?_append_left (by omega), if_pos ⟨by omega, h2⟩, ht]
  ·
   rw [List.getElem?_append_right (by simp; omega), List.getElem?_drop, if_neg (by omega)]
   congr 1
   simp; omega
theorem setRange_arrV {n : Nat} {k : IntKind} {a : Nat → Int} {o : Nat} {x : Int} (h : o < n) : setRange (arrV n k a) o [.int k x] = arrV n k (updA a o x) := by
 refine arrV_ext (by rw [setRange_len (by rw [arrV_length]; exact h), arrV_length]) fun i hi => ?_
 rw [setRange_get (by rw [arrV_length]; exact h)]
 by_cases e : i = o
 ·
  subst e
  rw [if_pos (by simp)]
  simp [updA]
 ·
  rw [if_neg (by simp; omega), arrV_get hi]
  have : Nat.beq i o = false := by
   cases hb : Nat.beq i o with
   | false => rfl
   | true => exact absurd (Nat.eq_of_beq_eq_true hb) e
  simp [updA, this]
theorem setRange_copy {n n' : Nat} {k : IntKind} {a b : Nat → Int} {o m o' : Nat} (h : o + m ≤ n) (h' : o' + m ≤ n') : setRange (arrV n k a) o (((arrV n' k b).drop o').take m) = arrV n k (cpyA a b o m o') := by
 have hl : (((arrV n' k b).drop o').take m).length = m := by simp [arrV_length]; omega
 refine arrV_ext (by rw [setRange_len (by rw [arrV_length, hl]; exact h), arrV_length]) fun i hi => ?_
 rw [setRange_get (by rw [arrV_length, hl]; exact h), hl]
 by_cases e : o ≤ i ∧ i < o + m
 ·
  rw [if_pos e, List.getElem?_take, if_pos (by omega), List.getElem?_drop, arrV_get (by omega)]
  have h1 : Nat.ble o i = true := by rw [Nat.ble_eq]; exact e.1
  have h2 : Nat.blt i (o + m) = true := by rw [Nat.blt_eq]; exact e.2
  simp only [cpyA, h1, h2, Bool.and_true, cond_true]
  rw [show o' + (i - o) = i - o + o' by omega]
 ·
  rw [if_neg e, arrV_get hi]
  have : (Nat.ble o i && Nat.blt i (o + m)) = false := by
   rw [Bool.and_eq_false_iff]
   by_cases h3 : o ≤ i
   ·
    right
    cases hb : Nat.blt i (o + m) with
    | false => rfl
    | true => rw [Nat.blt_eq] at hb; exact absurd ⟨h3, hb⟩ e
   ·
    left
    cases hb : Nat.ble o i with
    | false => rfl
    | true => rw [Nat.ble_eq] at hb; exact absurd hb h3
  simp only [cpyA, this, cond_false]
theorem setRange_copy0 {n n' : Nat} {k : IntKind} {a b : Nat → Int} {o m : Nat} (h : o + m ≤ n) (h' : m ≤ n') : setRange (arrV n k a) o ((arrV n' k b).take m) = arrV n k (cpyA a b o m 0) := by
 have := setRange_copy (a := a) (b := b) (k := k) (o' := 0) h (by omega : 0 + m ≤ n')
 simpa using this
theorem arrV_all {n : Nat} {k : IntKind} {a : Nat → Int} {f : V → Bool} (h : ∀ x, f (.int k x) = true) : (arrV n k a).all f = true := by
 simp [arrV, h]
theorem arrV_any {n : Nat} {k : IntKind} {a : Nat → Int} {f : V → Bool} (h : ∀ x, f (.int k x) = false) : (arrV n k a).any f = false := by
 simp [arrV, h]
theorem arrT_all {n m o : Nat} {k : IntKind} {a : Nat → Int} {f : V → Bool} (h : ∀ x, f (.int k x) = true) : (((arrV n k a).drop o).take m).all f = true := by
 rw [List.all_eq_true]
 intro x hx
 have h1 := List.mem_of_mem_drop (List.mem_of_mem_take hx)
 obtain ⟨i, _, rfl⟩ := List.mem_map.1 h1
 exact h _
theorem arrT_any {n m o : Nat} {k : IntKind} {a : Nat → Int} {f : V → Bool} (h : ∀ x, f (.int k x) = false) : (((arrV n k a).drop o).take m).any f = false := by
 rw [List.any_eq_false]
 intro x hx
 have h1 := List.mem_of_mem_drop (List.mem_of_mem_take hx)
 obtain ⟨i, _, rfl⟩ := List.mem_map.1 h1
 simp [h]
theorem arrK_all {n m : Nat} {k : IntKind} {a : Nat → Int} {f : V → Bool} (h : ∀ x, f (.int k x) = true) : ((arrV n k a).take m).all f = true := arrT_all (o := 0) h
theorem arrK_any {n m : Nat} {k : IntKind} {a : Nat → Int} {f : V → Bool} (h : ∀ x, f (.int k x) = false) : ((arrV n k a).take m).any f = false := arrT_any (o := 0) h
theorem goodCells_arrT (n m o : Nat) (k : IntKind) (a : Nat → Int) : goodCells (((arrV n k a).drop o).take m) = true := arrT_all fun _ => rfl
theorem goodCells_arrK (n m : Nat) (k : IntKind) (a : Nat → Int) : goodCells ((arrV n k a).take m) = true := arrK_all fun _ => rfl
theorem anySlice_arrT (n m o : Nat) (k : IntKind) (a : Nat → Int) : (((arrV n k a).drop o).take m).any isSliceB = false := arrT_any fun _ => rfl
theorem anySlice_arrK (n m : Nat) (k : IntKind) (a : Nat → Int) : ((arrV n k a).take m).any isSliceB = false := arrK_any fun _ => rfl
theorem anySlice_arrV (n : Nat) (k : IntKind) (a : Nat → Int) : (arrV n k a).any isSliceB = false := arrV_any fun _ => rfl
theorem goodCells_arrV (n : Nat) (k : IntKind) (a : Nat → Int) : goodCells (arrV n k a) = true := arrV_all fun _ => rfl
theorem goodCells_app (n : Nat) (k : IntKind) (a : Nat → Int) (t : List V) : goodCells (arrV n k a ++ t) = goodCells t := by
 unfold goodCells
 rw [List.all_append, show (arrV n k a).all _ = true from goodCells_arrV n k a, Bool.true_and]
theorem hasOwn_arrV (n : Nat) (k : IntKind) (a : Nat → Int) : hasOwn (arrV n k a) = false := arrV_any fun _ => rfl
theorem hasOwn_app (n : Nat) (k : IntKind) (a : Nat → Int) (t : List V) : hasOwn (arrV n k a ++ t) = hasOwn t := by
 unfold hasOwn
 rw [List.any_append, show (arrV n k a).any _ = false from hasOwn_arrV n k a, Bool.false_or]
theorem shareCells_app : ∀ (xs ys : List V), shareCells (xs ++ ys) = shareCells xs ++ shareCells ys
 | [], _ => rfl
 | x :: xs, ys => by simp only [List.cons_append, shareCells, shareCells_app xs ys]
theorem shareCells_map (k : IntKind) (a : Nat → Int) : ∀ l : List Nat, shareCells (l.map fun i => V.int k (a i)) = l.map fun i => V.int k (a i)
 | [] => rfl
 | i :: l => by simp only [List.map_cons, shareCells, shareCells_map k a l]
theorem shareCells_arrV (n : Nat) (k : IntKind) (a : Nat → Int) : shareCells (arrV n k a) = arrV n k a := shareCells_map k a _
theorem shareCells_arrA (n : Nat) (k : IntKind) (a : Nat → Int) (t : List V) : shareCells (arrV n k a ++ t) = arrV n k a ++ shareCells t := by
 rw [shareCells_app, shareCells_arrV]
theorem stripAll_arrV (n : Nat) (k : IntKind) (a : Nat → Int) : stripAll (arrV n k a) = arrV n k a := by
 unfold stripAll arrV
 rw [List.map_map]; rfl
theorem take_arrA (n : Nat) (k : IntKind) (a : Nat → Int) (t : List V) : (arrV n k a ++ t).take n = arrV n k a := List.take_left' (arrV_length n k a)
theorem take_arrB {n : Nat} {k : IntKind} {a : Nat → Int} {t : List V} {m : Nat} (h : n ≤ m) : (arrV n k a ++ t).take m = arrV n k a ++ t.take (m - n) := by
 rw [List.take_append, List.take_of_length_le (by rw [arrV_length]; exact h), arrV_length]
theorem take_arrV (n : Nat) (k : IntKind) (a : Nat → Int) : (arrV n k a).take n = arrV n k a := List.take_of_length_le (by rw [arrV_length]; exact Nat.le_refl _)
theorem drop_arrA {n : Nat} {k : IntKind} {a : Nat → Int} {t : List V} {m : Nat} (h : n ≤ m) : (arrV n k a ++ t).drop m = t.drop (m - n) := by
 rw [List.drop_append, List.drop_of_length_le (by rw [arrV_length]; exact h), arrV_length, List.nil_append]
theorem drop_arrV (n : Nat) (k : IntKind) (a : Nat → Int) : (arrV n k a).drop n = [] := List.drop_of_length_le (by rw [arrV_length]; exact Nat.le_refl _)
theorem getD_arrA {n : Nat} {k : IntKind} {a : Nat → Int} {t : List V} {m : Nat} {d : V} (h : n ≤ m) : (arrV n k a ++ t).getD m d = t.getD (m - n) d := by
 rw [List.getD_eq_getElem?_getD, List.getElem?_append_right (by rw [arrV_length]; exact h), arrV_length, ← List.getD_eq_getElem?_getD]
theorem getD_arrAl {n : Nat} {k : IntKind} {a : Nat → Int} {t : List V} {m : Nat} {d : V} (h : m < n) : (arrV n k a ++ t).getD m d = .int k (a m) := by
 rw [List.getD_eq_getElem?_getD, List.getElem?_append_left (by rw [arrV_length]; exact h), ← List.getD_eq_getElem?_getD, arrV_getD h]
theorem set_arrA {n : Nat} {k : IntKind} {a : Nat → Int} {t : List V} {m : Nat} {x : V} (h : n ≤ m) : (arrV n k a ++ t).set m x = arrV n k a ++ t.set (m - n) x := by
 rw [List.set_append, if_neg (by rw [arrV_length]; omega), arrV_length]
theorem setRange_arrA {n : Nat} {k : IntKind} {a : Nat → Int} {t : List V} {m : Nat} {cs : List V} (h : n ≤ m) : setRange (arrV n k a ++ t) m cs = arrV n k a ++ setRange t (m - n) cs := by
 unfold setRange
 rw [List.take_append, List.take_of_length_le (by rw [arrV_length]; exact h), arrV_length, List.drop_append, List.drop_of_length_le (by rw [arrV_length]; omega), arrV_length]
 simp only [List.append_assoc, List.nil_append]
 rw [show m + cs.length - n = m - n + cs.length by omega]
theorem setRange_arr0 (n : Nat) (k : IntKind) (a b : Nat → Int) (t : List V) : setRange (arrV n k a ++ t) 0 (arrV n k b) = arrV n k b ++ t := by
 unfold setRange
 rw [List.take_zero, List.nil_append, Nat.zero_add, arrV_length, drop_arrA (Nat.le_refl _), Nat.sub_self, List.drop_zero]
theorem setRange_arrV0 (n : Nat) (k : IntKind) (a b : Nat → Int) : setRange (arrV n k a) 0 (arrV n k b) = arrV n k b := by
 have := setRange_arr0 n k a b []
 simpa using this
theorem setRange_arrAll (n : Nat) (k : IntKind) (a b : Nat → Int) (t u : List V) (h : u.length = t.length) : setRange (arrV n k a ++ t) 0 (arrV n k b ++ u) = arrV n k b ++ u := by
 unfold setRange
 rw [List.take_zero, List.nil_append, Nat.zero_add, List.length_append, arrV_length, drop_arrA (by omega), List.drop_of_length_le (by omega), List.append_nil]
theorem eqCells_arrV (k : IntKind) (a b : Nat → Int) : ∀ l : List Nat, eqCells (List.replicate l.length (.int k)) (l.map fun i => .int k (a i)) (l.map fun i => .int k (b i)) = some (l.all fun i => a i == b i)
 | [] => rfl
 | i :: l => by
  simp only [List.length_cons, List.replicate_succ, List.map_cons, eqCells, V.strip, asInt, if_true, Option.bind_some, eqCells_arrV k a b l, List.all_cons]
theorem eqCells_arr (n : Nat) (k : IntKind) (a b : Nat → Int) : eqCells (List.replicate n (.int k)) (arrV n k a) (arrV n k b) = some (eqA n a b) := by
 have := eqCells_arrV k a b (List.range n)
 rwa [List.length_range] at this
def frc (x : Int) : Option Int := match x with
 | .ofNat 0 => some 0
 | .ofNat (m + 1) => some (.ofNat (m + 1))
 | .negSucc m => some (.negSucc m)
theorem frcw {x y : Int} (h : frc x = some y) : x = y := by
 unfold frc at h
 split at h <;> exact Option.some.inj h
theorem frc_eq (x : Int) : frc x = some x := by
 unfold frc
 split <;> rfl
def frc8 (x : Int) : Option UInt8 := (frc x).bind fun y => some (UInt8.ofNat y.toNat)
theorem frc8w {x : Int} {y : UInt8} (h : frc8 (IntKind.u8.wrap x) = some y) : IntKind.u8.wrap x = (y.toNat : Int) := by
 unfold frc8 at h
 rw [frc_eq] at h
 simp only [Option.bind_some, Option.some.injEq] at h
 subst h
 have h1 : 0 ≤ IntKind.u8.wrap x ∧ IntKind.u8.wrap x < 256 := by
  simp only [IntKind.wrap, IntKind.bits, IntKind.signed]
  simp; omega
 rw [UInt8.toNat_ofNat']
 omega
end Go.Zv
namespace Go.Zv
open Go Go.ChangeShapes Go.Deep Go.RowKit
section
variable {P : Program} {w : World}
theorem laidVars_at {l : List (String × DataW Unit)} : ∀ {ps : List MemPlace} {i : Nat} {n : String} {d : DataW Unit}, DataW.LaidVars P w l ps → l[i]? = some (n, d) →
  ∃ g t cs fuel p, P.globalNamed n = some g ∧ (P.globals[g]?).map (·.type) = some t ∧ w.var? P n = some cs ∧ DataW.trod (fun _ => ()) P w 0 (fun _ => true) false fuel t cs.toList = some (d, p) := by
 induction l with
 | nil => intro ps i n d _ h; simp at h
 | cons a r ih =>
  intro ps i n d hL h
  obtain ⟨g, t, cs, fuel, p, q, e1, e2, e3, e4, hr, _⟩ := hL
  cases i with
  | zero =>
   simp only [List.getElem?_cons_zero, Option.some.injEq] at h
   subst h
   exact ⟨g, t, cs, fuel, p, e1, e2, e3, e4⟩
  | succ i => exact ih hr (by simpa using h)
theorem reps_ints {S : Nat → Prop} {k : IntKind} : ∀ l : List Int, Reps S w (l.map (Value.int k)) (l.map (V.int k)) []
 | [] => .nil
 | n :: l => .cons (O1 := []) (O2 := []) (.int k n) (reps_ints l)
theorem glob_ints {l : List (String × DataW Unit)} {n : String} {g t e m : Nat} {k : IntKind} (i : Nat) (ns : List Int) (hL : laidMet P l w) (hi : l[i]? = some (n, .agg (ns.map fun x => .lit (.int k x))))
  (hg : P.globalNamed n = some g) (ht : (P.globals[g]?).map (·.type) = some t) (hu : P.underlying t = some (.array m e)) (he : P.underlying e = some (.int k)) (h1 : P.cellsOf e = 1) (hm : P.cellsOf t = m) :
  GlobAt (allS w) w g (arrV m k (litA ns)) := by
 obtain ⟨ps, hv, _⟩ := hL
 obtain ⟨g', t', cs, fuel, p, e1, e2, e3, e4⟩ := laidVars_at hv hi
 obtain rfl : g' = g := by rw [hg] at e1; exact (Option.some.inj e1).symm
 obtain rfl : t' = t := by rw [ht] at e2; exact (Option.some.inj e2).symm
 obtain ⟨xs, f, _, ex, hlen, hl, hel⟩ := DataW.trod_array hu e4
 have ex1 : (DataW.agg (ns.map fun x => DataW.lit (Lit.int k x)) : DataW Unit) = DataW.agg (xs.map (·.1)) := congrArg Prod.fst ex
 have ex2 : (ns.map fun x => (DataW.lit (Lit.int k x) : DataW Unit)) = xs.map (·.1) := DataW.agg.inj ex1
 have hnl : ns.length = m := by rw [← hl]; simpa using congrArg List.length ex2
 have hcs : cs.toList = ns.map (Value.int k) := by
  apply List.ext_getElem
  ·
   rw [hlen, hm, List.length_map, hnl]
  ·
   intro j a b
   have hj : j < m := by rw [← hm, ← hlen]; exact a
   have hx : j < xs.length := by omega
   have := hel j hj
   rw [List.getElem?_eq_getElem hx, h1, Nat.mul_one] at this
   obtain ⟨n0, q1, q2, _⟩ := DataW.trod_int he this
   have q3 : cs.toList[j] = Value.int k n0 := by
    have : ((cs.toList.drop j).take 1)[0]? = some (Value.int k n0) := by rw [q1]; rfl
    rw [List.getElem?_take_of_lt (by omega), List.getElem?_drop, Nat.add_zero, List.getElem?_eq_getElem a] at this
    exact Option.some.inj this
   have q4 : ns[j]'(by omega) = n0 := by
    have h1 : (ns.map fun x => (DataW.lit (Lit.int k x) : DataW Unit))[j]? = (xs.map (·.1))[j]? := by rw [ex2]
    rw [List.getElem?_map, List.getElem?_map, List.getElem?_eq_getElem hx, List.getElem?_eq_getElem (show j < ns.length by omega), q2] at h1
    simpa using h1
   rw [q3, List.getElem_map, q4]
 have hheap : ∃ c1 c2, w.heap[g']? = some (.cells cs c1 c2) := by
  unfold World.var? at e3
  rw [hg] at e3
  simp only [Option.bind_some] at e3
  split at e3
  ·
   rename_i c a b hc
   cases e3
   exact ⟨a, b, hc⟩
  ·
   cases e3
 obtain ⟨c1, c2, hh⟩ := hheap
 refine ⟨?_, ?_, fun c t z e => ?_⟩
 ·
  show g' < w.heap.size
  rw [Array.getElem?_eq_some_iff] at hh
  exact hh.1
 ·
  have ha : arrV m k (litA ns) = ns.map (V.int k) := by
   apply List.ext_getElem
   ·
    simp [arrV, hnl]
   ·
    intro j a b
    have : j < ns.length := by simpa using b
    simp [arrV, litA, List.getD_eq_getElem?_getD, this]
  rw [ha]
  refine mem_of_reps (cs := cs.toList) (by rw [hcs]; exact reps_ints ns) (fun j hj => ?_) (fun v hv => ?_)
  ·
   simp only [World.cell?, hh, Nat.zero_add]
   simp
  ·
   rw [hcs] at hv
   obtain ⟨x, _, rfl⟩ := List.mem_map.1 hv
   rfl
 ·
  rw [hh] at e
  cases e
  rw [arrV_length, ← hnl, ← List.length_map (f := Value.int k), ← hcs, Array.length_toList]
theorem open_callsG {G : Nat → Option (List V)} {f : Nat} {vs : List Value} {args outs : List V} (hG : ∀ g cs, G g = some cs → GlobAt (allS w) w g cs) (he : ∀ (vs : Array Value) (w : World), (callFunc f vs).run P w = .ok (.enter f vs) w) (h : Does P G f args (.bool true) outs) (hr : Reps (allS w) w vs args []) :
  Calls P f vs.toArray w fun e w' => e = .returned (.bool true) ∧ Below w.heap.size w w' := by
 have hg : Given G (allS w) w vs args [] := ⟨hr, by simp, by simp, fun _ h => h, hG⟩
 rcases h (allS w) w vs [] hg with ⟨_, hc⟩ | ⟨v, w', hv, _⟩
 ·
  refine hc.mono fun e w' ⟨v, h1, S', Or, Oo, hb⟩ => ?_
  obtain rfl : v = .bool true := by
   have := hb.res
   cases this
   rfl
  exact ⟨h1, hb.same.os, hb.same.tape, hb.same.output, hb.size, fun b hlt => hb.keep b hlt (by simp)⟩
 ·
  rw [he] at hv
  cases hv
end
section
variable {H : Type} {enc : TypeId × Value → H} {P : Program} {w : World} {spare : Nat → Bool} {held : Bool}
end
end Go.Zv
