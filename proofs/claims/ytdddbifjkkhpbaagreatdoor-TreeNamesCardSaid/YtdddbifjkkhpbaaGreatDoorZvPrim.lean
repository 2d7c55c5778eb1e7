/- Zv: what the functions of the model do. No condition. -/
import Derived.Test.YtdddbifjkkhpbaaGreatDoorZvChk
import Derived.Lib.Bytealg
import Derived.Laws.Externs
namespace Go.Zv
open Go

section
variable {P : Program} {G : Nat → Option (List V)} {S : Nat → Prop} {w : World}

/-- A call that leaves the world as it is. -/
theorem back_same {O : List Nat} {vs : List Value} {args : List V} {v : Value} {res : V} (hG : Given G S w vs args O) (hr : Rep S w v res []) : ∃ S' Or Oo, Back S w O vs v res (args.map fun _ => .undef) S' w Or Oo := by
  have hu : ∀ {vs : List Value} {args : List V}, vs.length = args.length → Reps S w vs (args.map fun _ => V.undef) [] := by
    intro vs
    induction vs with
    | nil => intro args h; cases args with
      | nil => exact .nil
      | cons => simp at h
    | cons v vs ih => intro args h; cases args with
      | nil => simp at h
      | cons x args => simpa using Reps.cons (.undef v) (ih (by simpa using h))
  exact ⟨S, [], [], hr, hu hG.rep.len, by simp, by simp, Nat.le_refl _, fun _ h => h, fun _ h => .inl h, hG.low, fun _ _ _ => rfl, Same.refl _⟩

theorem does_extern {f : Nat} {fn : Func} {e : Array Value → Sem Value} {args : List V} {res : V} (hf : P.funcs[f]? = some fn) (hname : (fn.name == "runtime.NumGoroutine") = false)
    (hb : fn.body.isNone = true) (hn : Extern.findNext fn = none) (he : Extern.find fn = some e)
    (h : ∀ (S : Nat → Prop) (w : World) (vs : List Value) (O : List Nat), Reps S w vs args O → ∃ v, (e vs.toArray).run P w = .ok v w ∧ Rep S w v res []) : Does P G f args res (args.map fun _ => .undef) := by
  intro S w vs O hG
  obtain ⟨v, h1, h2⟩ := h S w vs O hG.rep
  refine .inr ⟨v, w, ?_, back_same hG h2⟩
  rw [run_callFunc_extern hf hname hb hn he, h1]
  rfl

theorem asBytes_cons {r : List V} {rest : List (List V)} {s : List UInt8} (h : asBytes (r :: rest) = some s) : ∃ n s', r.getD 0 .undef = .int .u8 n ∧ asBytes rest = some s' ∧ s = UInt8.ofNat n.toNat :: s' := by
  simp only [asBytes, Option.bind_eq_some_iff] at h
  obtain ⟨n, h1, s', h2, h3⟩ := h
  refine ⟨n, s', ?_, h2, by simpa using h3.symm⟩
  generalize r.getD 0 .undef = v at h1
  cases v <;> simp only [asInt, reduceCtorEq] at h1
  split at h1
  · rename_i hk; cases h1; rw [hk]
  · cases h1
theorem run_loadBytes {b : Nat} : ∀ {rows : List (List V)} {o : Nat} {O : List Nat} {s : List UInt8} {acc : ByteArray}, (∀ r ∈ rows, r.length = 1) → Mem S w b o rows.flatten O → asBytes rows = some s →
    (Extern.Bytes.loadBytes ⟨b, o, none⟩ rows.length acc).run P w = .ok ⟨acc.data ++ s.toArray⟩ w
  | [], o, O, s, acc, _, _, h => by
    simp only [asBytes, Option.some.injEq] at h
    subst h
    simp [Extern.Bytes.loadBytes]
  | r :: rest, o, O, s, acc, hl, hm, h => by
    obtain ⟨n, s', h1, h2, rfl⟩ := asBytes_cons h
    have hr : r = [.int .u8 n] := by
      have := hl r (by simp)
      match r, this with
      | [x], _ => simpa using h1
    subst hr
    simp only [List.flatten_cons, List.cons_append, List.nil_append] at hm
    cases hm with
    | @cons _ _ v _ _ _ _ g1 g0 g2 g3 =>
      cases g2
      have ih := run_loadBytes (acc := acc.push n.toNat.toUInt8) (fun r hr => hl r (by simp [hr])) g3 h2
      simp only [List.length_cons, Extern.Bytes.loadBytes, Sem.run_bind]
      have hload : (Go.load ⟨b, o, none⟩).run P w = .ok (.int .u8 n) w := by
        unfold Go.load
        simp only [Sem.run, g1]
      rw [hload]
      simp only [Result.andThen_ok, add_none, ih]
      congr 1
      apply ByteArray.ext
      simp [ByteArray.push, Nat.toUInt8]

/-- Bytes that can be read. -/
def bytesV? : V → Option (List UInt8)
  | .str s => some s
  | .nilsl => some []
  | .sl 1 _ rows => asBytes rows
  | .own false 1 rows => asBytes rows
  | _ => none
theorem run_bytesOf {v : Value} {x : V} {O : List Nat} {s : List UInt8} (h : Rep S w v x O) (hs : bytesV? x = some s) : (Extern.Bytes.bytesOf v).run P w = .ok ⟨s.toArray⟩ w := by
  have empty : ∀ {a : Option Addr} {c : Nat}, (Extern.Bytes.bytesOf (.slice a 0 c)).run P w = .ok ⟨#[]⟩ w := fun {a c} => by
    cases a <;> rfl
  unfold bytesV? at hs
  split at hs
  · cases hs
    cases h
    simp [Extern.Bytes.bytesOf]
  · cases hs
    cases h
    exact empty
  · rename_i f rows
    generalize hk : (1 : Nat) = k at h
    cases h with
    | sl0 => simp only [asBytes, Option.some.injEq] at hs; subst hs; exact empty
    | sl h1 h2 h3 h4 h5 h6 =>
      subst hk
      have := run_loadBytes (P := P) (acc := .empty) h3 h6 hs
      simp only [Extern.Bytes.bytesOf]
      rw [this]
      congr 1
      apply ByteArray.ext
      show (#[] : Array UInt8) ++ s.toArray = s.toArray
      simp
  · rename_i rows
    generalize hk : (1 : Nat) = k at h
    cases h with
    | own0 => simp only [asBytes, Option.some.injEq] at hs; subst hs; exact empty
    | own h1 h2 h3 h4 h5 h6 =>
      subst hk
      have := run_loadBytes (P := P) (acc := .empty) h2 h6 hs
      simp only [Extern.Bytes.bytesOf]
      rw [this]
      congr 1
      apply ByteArray.ext
      show (#[] : Array UInt8) ++ s.toArray = s.toArray
      simp
  · cases hs

/-- Counting a byte. -/
def cnt8 (c : UInt8) : List UInt8 → Nat
  | [] => 0
  | x :: xs => cond (x == c) (cnt8 c xs + 1) (cnt8 c xs)
theorem cnt8_eq (c : UInt8) : ∀ l : List UInt8, cnt8 c l = Lib.countByte l c
  | [] => rfl
  | x :: xs => by
    unfold cnt8 Lib.countByte
    rw [List.count_cons, cnt8_eq c xs]
    cases e : x == c <;> simp [Lib.countByte]
/-- Where a byte stands. -/
def idx8 (c : UInt8) : List UInt8 → Nat → Int
  | [], _ => -1
  | x :: xs, i => cond (x == c) i (idx8 c xs (i + 1))
theorem indexByte_cons (c x : UInt8) (xs : List UInt8) : Lib.indexByte (x :: xs) c = if x == c then 0 else if Lib.indexByte xs c == -1 then -1 else Lib.indexByte xs c + 1 := rfl
theorem idx8_eq (c : UInt8) : ∀ (l : List UInt8) (i : Nat), idx8 c l i = if Lib.indexByte l c = -1 then -1 else Lib.indexByte l c + i
  | [], i => rfl
  | x :: xs, i => by
    have ih := idx8_eq c xs (i + 1)
    have hge := Lib.indexByte_ge xs c
    have hc := indexByte_cons c x xs
    generalize Lib.indexByte xs c = m at ih hge hc
    generalize Lib.indexByte (x :: xs) c = q at hc ⊢
    unfold idx8
    rw [ih, hc]
    cases e : x == c with
    | true => simp
    | false =>
      simp only [cond_false, Bool.false_eq_true, if_false, beq_iff_eq]
      by_cases h : m = -1
      · simp [h]
      · rw [if_neg h, if_neg h, if_neg (by omega)]
        omega
theorem idx8_zero (c : UInt8) (l : List UInt8) : idx8 c l 0 = Lib.indexByte l c := by
  rw [idx8_eq]
  split
  · rename_i h; exact h.symm
  · simp

def primCount : List V → Option (V × List V)
  | [x, .int .u8 c] => (bytesV? x).bind fun s => some (.int .i64 (cnt8 c.toNat.toUInt8 s : Nat), [.undef, .undef])
  | _ => none
def primIndex : List V → Option (V × List V)
  | [x, .int .u8 c] => (bytesV? x).bind fun s => some (.int .i64 (idx8 c.toNat.toUInt8 s 0), [.undef, .undef])
  | _ => none
def primCmp : List V → Option (V × List V)
  | [x, y] => (bytesV? x).bind fun s => (bytesV? y).bind fun t => some (.int .i64 (Lib.compareBytes s t), [.undef, .undef])
  | _ => none

theorem two {vs : List Value} {x y : V} {O : List Nat} (h : Reps S w vs [x, y] O) : ∃ u v O1 O2, vs = [u, v] ∧ Rep S w u x O1 ∧ Rep S w v y O2 := by
  cases h with
  | cons h1 h2 => cases h2 with
    | cons h2 h3 => cases h3 with
      | nil => exact ⟨_, _, _, _, rfl, h1, h2⟩

theorem count_ok {f : Nat} {fn : Func} {args outs : List V} {res : V} (hf : P.funcs[f]? = some fn) (hname : (fn.name == "runtime.NumGoroutine") = false)
    (hb : fn.body.isNone = true) (hn : Extern.findNext fn = none) (he : Extern.find fn = some Extern.BytealgCount.count) (h : primCount args = some (res, outs)) : Does P G f args res outs := by
  unfold primCount at h
  split at h
  · rename_i x c
    simp only [Option.bind_eq_some_iff, Option.some.injEq, Prod.mk.injEq] at h
    obtain ⟨s, hs, rfl, rfl⟩ := h
    refine does_extern hf hname hb hn he fun S w vs O hr => ?_
    obtain ⟨u, v, O1, O2, rfl, h1, h2⟩ := two hr
    cases h2
    refine ⟨_, ?_, .int _ _⟩
    have hs' := Lib.run_countString (P := P) ⟨s.toArray⟩ c w
    rw [cnt8_eq]
    change Sem.run P (do
      let b ← Extern.Bytes.bytesOf u
      let c' ← Extern.Bytes.asByte (.int .u8 c)
      pure (goInt (b.foldl (fun n x => if x == c' then n + 1 else n) (0 : Nat)))) w = _
    change Sem.run P (do
      let b ← Extern.Bytes.bytesOf (.string ⟨s.toArray⟩)
      let c' ← Extern.Bytes.asByte (.int .u8 c)
      pure (goInt (b.foldl (fun n x => if x == c' then n + 1 else n) (0 : Nat)))) w = _ at hs'
    rw [Sem.run_bind, run_bytesOf h1 hs]
    simpa only [Extern.Bytes.bytesOf, Sem.run_bind, Sem.run_pure, Result.andThen_ok] using hs'
  · cases h
theorem index_ok {f : Nat} {fn : Func} {args outs : List V} {res : V} (hf : P.funcs[f]? = some fn) (hname : (fn.name == "runtime.NumGoroutine") = false)
    (hb : fn.body.isNone = true) (hn : Extern.findNext fn = none) (he : Extern.find fn = some Extern.BytealgIndexByte.indexByte) (h : primIndex args = some (res, outs)) : Does P G f args res outs := by
  unfold primIndex at h
  split at h
  · rename_i x c
    simp only [Option.bind_eq_some_iff, Option.some.injEq, Prod.mk.injEq] at h
    obtain ⟨s, hs, rfl, rfl⟩ := h
    refine does_extern hf hname hb hn he fun S w vs O hr => ?_
    obtain ⟨u, v, O1, O2, rfl, h1, h2⟩ := two hr
    cases h2
    refine ⟨_, ?_, .int _ _⟩
    have hs' := Lib.run_indexByteString (P := P) ⟨s.toArray⟩ c w
    rw [idx8_zero]
    change Sem.run P (do
      let b ← Extern.Bytes.bytesOf u
      let c ← Extern.Bytes.asByte (.int .u8 c)
      match (List.range b.size).find? fun i => b[i]! == c with
      | some i => pure (goInt i)
      | none => pure (goInt (-1))) w = _
    change Sem.run P (do
      let b ← Extern.Bytes.bytesOf (.string ⟨s.toArray⟩)
      let c ← Extern.Bytes.asByte (.int .u8 c)
      match (List.range b.size).find? fun i => b[i]! == c with
      | some i => pure (goInt i)
      | none => pure (goInt (-1))) w = _ at hs'
    rw [Sem.run_bind, run_bytesOf h1 hs]
    rw [Sem.run_bind] at hs'
    simpa only [Extern.Bytes.bytesOf, Sem.run_pure, Result.andThen_ok] using hs'
  · cases h
theorem cmp_ok {f : Nat} {fn : Func} {args outs : List V} {res : V} (hf : P.funcs[f]? = some fn) (hname : (fn.name == "runtime.NumGoroutine") = false)
    (hb : fn.body.isNone = true) (hn : Extern.findNext fn = none) (he : Extern.find fn = some Extern.BytealgCompare.compare) (h : primCmp args = some (res, outs)) : Does P G f args res outs := by
  unfold primCmp at h
  split at h
  · rename_i x y
    simp only [Option.bind_eq_some_iff, Option.some.injEq, Prod.mk.injEq] at h
    obtain ⟨s, hs, t, ht, rfl, rfl⟩ := h
    refine does_extern hf hname hb hn he fun S w vs O hr => ?_
    obtain ⟨u, v, O1, O2, rfl, h1, h2⟩ := two hr
    refine ⟨_, ?_, .int _ _⟩
    have hs' := Lib.run_compareString (P := P) ⟨s.toArray⟩ ⟨t.toArray⟩ w
    change Sem.run P (do pure (goInt (Extern.BytealgCompare.cmp (← Extern.Bytes.bytesOf u) (← Extern.Bytes.bytesOf v)))) w = _
    change Sem.run P (do pure (goInt (Extern.BytealgCompare.cmp (← Extern.Bytes.bytesOf (.string ⟨s.toArray⟩)) (← Extern.Bytes.bytesOf (.string ⟨t.toArray⟩))))) w = _ at hs'
    rw [Sem.run_bind, run_bytesOf h1 hs, Result.andThen_ok, Sem.run_bind, run_bytesOf h2 ht]
    simpa only [Extern.Bytes.bytesOf, Sem.run_bind, Sem.run_pure, Result.andThen_ok] using hs'
  · cases h
end
end Go.Zv
