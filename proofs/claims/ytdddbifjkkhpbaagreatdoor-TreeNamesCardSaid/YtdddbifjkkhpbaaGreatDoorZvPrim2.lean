/- Zv: from contracts of the library to what the pure interpreter is told. No condition. -/
import Derived.Test.YtdddbifjkkhpbaaGreatDoorZvPrim
import Derived.Laws.AppendOwn
import Derived.Below
import Derived.Lib.Join
namespace Go.Zv
open Go Go.RowKit

section
variable {P : Program} {G : Nat → Option (List V)} {S : Nat → Prop} {w w' : World}

theorem flat_single {α : Type} (f : α → V) : ∀ l : List α, (l.map fun s => [f s]).flatten = l.map f
  | [] => rfl
  | x :: l => by simp only [List.map_cons, List.flatten_cons, flat_single f l]; rfl
theorem undefs : ∀ {vs : List Value} {args : List V}, vs.length = args.length → Reps S w vs (args.map fun _ => V.undef) []
  | [], [], _ => .nil
  | v :: vs, x :: args, h => by simpa using Reps.cons (.undef v) (undefs (vs := vs) (args := args) (by simpa using h))
  | [], _ :: _, h => by simp at h
  | _ :: _, [], h => by simp at h

/-- A call that leaves what there was as it was, and gives a value in memory of its own. -/
theorem back_below {O Or : List Nat} {vs : List Value} {args : List V} {v : Value} {res : V} (hG : Given G S w vs args O) (hb : Below w.heap.size w w') (hr : Rep S w' v res Or) (hn : Or.Nodup) (hnew : ∀ b ∈ Or, w.heap.size ≤ b) :
    ∃ S' Or Oo, Back S w O vs v res (args.map fun _ => .undef) S' w' Or Oo :=
  ⟨S, Or, [], hr, undefs hG.rep.len, by simpa using hn, fun b hb' => by
    simp only [List.append_nil] at hb'
    exact ⟨fun hs => absurd (hG.low b hs) (Nat.not_lt.2 (hnew b hb')), .inr (hnew b hb')⟩, hb.size, fun _ h => h, fun _ h => .inl h, fun b h => Nat.lt_of_lt_of_le (hG.low b h) hb.size, fun b hlt _ => hb.block b hlt, ⟨hb.os, hb.tape, hb.output⟩⟩

/-- By a contract over the function's text. -/
theorem does_calls {f : Nat} {args : List V} {res : V} (he : ∀ (vs : Array Value) (w : World), (callFunc f vs).run P w = .ok (.enter f vs) w)
    (h : ∀ (S : Nat → Prop) (w : World) (vs : List Value) (O : List Nat), Given G S w vs args O → Calls P f vs.toArray w fun e w' => ∃ v Or, e = .returned v ∧ Below w.heap.size w w' ∧ Rep S w' v res Or ∧ Or.Nodup ∧ ∀ b ∈ Or, w.heap.size ≤ b) :
    Does P G f args res (args.map fun _ => .undef) := by
  intro S w vs O hG
  refine .inl ⟨he _ _, (h S w vs O hG).mono fun e w' ⟨v, Or, h1, h2, h3, h4, h5⟩ => ⟨v, h1, ?_⟩⟩
  exact back_below hG h2 h3 h4 h5

/-- What a call owns, in the words of the kit. -/
theorem own_of_row {B e k n : Nat} {v : Value} {xs : List Value} {rows : List (List V)} (hk : 0 < k) (h : w'.ownsRow B e k v n xs) (hl : rows.length = n) (hun : ∀ r ∈ rows, r.length = k) (hr : Reps S w' xs rows.flatten []) (h1 : ∀ x ∈ xs, x.oneCell' = true) :
    ∃ O, Rep S w' v (.own false k rows) O ∧ O.Nodup ∧ ∀ b ∈ O, B ≤ b := by
  obtain ⟨hxl, h⟩ := h
  rcases h with ⟨rfl, rfl⟩ | ⟨g, cap, cur, rfl, hB, hheap, hcap, _, hsz, hcur⟩
  · have : rows = [] := List.eq_nil_of_length_eq_zero hl
    subst this
    exact ⟨[], .own0 _ _ _, by simp, by simp⟩
  · subst hl
    refine ⟨[g], .own hk hun ⟨cur, e, 0, 0, hheap, by rw [hsz]; simp, .inl rfl⟩ hcap (fun _ => rfl) ?_, by simp, by simp [hB]⟩
    refine Mem.fresh hr h1 fun j hj => ?_
    rw [Nat.zero_add]
    have hjc : j < cur.size := by rw [hsz]; rw [hxl] at hj; exact Nat.lt_of_lt_of_le hj (Nat.mul_le_mul_right k hcap)
    have : xs[j]? = some cur[j] := by
      rw [← hcur, List.getElem?_take, if_pos (by rw [hxl] at hj; exact hj)]
      simp [hjc]
    rw [List.getD_eq_getElem?_getD, this]
    simp [World.cell?, hheap, hjc]

/-- Strings in a slice of strings. -/
def strs : List (List V) → Option (List (List UInt8))
  | [] => some []
  | r :: rest => match r with
    | [.str s] => (strs rest).bind fun l => some (s :: l)
    | _ => none
def rowsOf : V → Option (List (List V))
  | .sl 1 _ rows => some rows
  | .own false 1 rows => some rows
  | .nilsl => some []
  | _ => none
theorem strs_rows : ∀ {rows : List (List V)} {l : List (List UInt8)}, strs rows = some l → rows = l.map fun s => [.str s]
  | [], l, h => by simp only [strs, Option.some.injEq] at h; subst h; rfl
  | r :: rest, l, h => by
    simp only [strs] at h
    split at h
    · rename_i s
      simp only [Option.bind_eq_some_iff, Option.some.injEq] at h
      obtain ⟨l', h1, rfl⟩ := h
      rw [strs_rows h1]; rfl
    · cases h
theorem rowsOf_rep {x : V} {rows : List (List V)} {v : Value} {O : List Nat} (h : Rep S w v x O) (hx : rowsOf x = some rows) (hS : ∀ b, S b → b < w.heap.size) :
    (rows = [] ∧ ∃ a c, v = .slice a 0 c) ∨ (rows ≠ [] ∧ ∃ b o c, v = .slice (some ⟨b, o, none⟩) rows.length c ∧ rows.length ≤ c ∧ b < w.heap.size ∧ (∀ r ∈ rows, r.length = 1) ∧ Mem S w b o rows.flatten []) := by
  unfold rowsOf at hx
  split at hx
  · cases hx
    generalize hk : (1 : Nat) = k at h
    cases h with
    | sl0 => exact .inl ⟨rfl, _, _, rfl⟩
    | sl h1 h2 h3 h4 h5 h6 => subst hk; exact .inr ⟨h2, _, _, _, rfl, h5.1, hS _ h4, h3, h6⟩
  · cases hx
    generalize hk : (1 : Nat) = k at h
    cases h with
    | own0 => exact .inl ⟨rfl, _, _, rfl⟩
    | @own b o c _ _ rows O h1 h2 h3 h4 h5 h6 =>
      subst hk
      by_cases hr : rows = []
      · subst hr; exact .inl ⟨rfl, _, _, rfl⟩
      · have := h5 rfl
        subst this
        obtain ⟨cs, e, lo, hi, g1, g2⟩ := h3
        exact .inr ⟨hr, _, _, _, rfl, h4, lt_of_some g1, h2, h6⟩
  · cases hx
    cases h
    exact .inl ⟨rfl, _, _, rfl⟩
  · cases hx
theorem mem_strs {b o : Nat} {l : List (List UInt8)} (h : Mem S w b o (l.map fun s => [V.str s]).flatten []) : ∀ j s, l[j]? = some s → w.cell? ⟨b, o + j, none⟩ = some (.string ⟨s.toArray⟩) := by
  intro j s hj
  have hlt : j < l.length := (List.getElem?_eq_some_iff.1 hj).1
  have e : (l.map fun s => [V.str s]).flatten = l.map V.str := flat_single _ l
  rw [e] at h
  obtain ⟨O1, O2, O3, v, _, hc, hr, _, _, _⟩ := h.at (j := j) (by simpa using hlt)
  rw [hc]
  have : (l.map V.str).getD j .undef = .str s := by simp [List.getD_eq_getElem?_getD, hj]
  rw [this] at hr
  cases hr with
  | str s' => rfl

/-- Joining as it is told. -/
def joinL : List (List UInt8) → List UInt8 → List UInt8
  | [], _ => []
  | [x], _ => x
  | x :: y :: rest, sep => x ++ (sep ++ joinL (y :: rest) sep)
theorem joinL_eq : ∀ (l : List (List UInt8)) (sep : List UInt8), joinL l sep = Lib.join l sep
  | [], sep => by simp [joinL, Lib.join_nil]
  | [x], sep => by simp [joinL, Lib.join_one]
  | x :: y :: rest, sep => by
    rw [joinL, joinL_eq (y :: rest) sep, Lib.join_cons, Lib.join_cons]
    simp [Lib.joinTail]
def primJoin : List V → Option (V × List V)
  | [x, .str sep] => (rowsOf x).bind fun rows => (strs rows).bind fun l =>
      if l.length ≤ lim ∧ (joinL l sep).length ≤ lim then some (.str (joinL l sep), [.undef, .undef]) else none
  | _ => none
theorem join_ok {f : Nat} {args outs : List V} {res : V} (he : ∀ (vs : Array Value) (w : World), (callFunc f vs).run P w = .ok (.enter f vs) w)
    (h0 : ∀ (a : Option Addr) (c : Nat) (sep : ByteArray) (w : World), Calls P f #[.slice a 0 c, .string sep] w fun e w' => e = .returned (.string ⟨#[]⟩) ∧ w' = w)
    (h1 : ∀ (bk o c : Nat) (xs : List ByteArray) (sep : ByteArray) (w : World), (∀ (j : Nat) x, xs[j]? = some x → w.cell? ⟨bk, o + j, none⟩ = some (.string x)) → bk < w.heap.size → xs.length ≤ 140737488355328 → xs.length ≤ c →
      (Lib.join (xs.map (·.data.toList)) sep.data.toList).length ≤ 140737488355328 →
      Calls P f #[.slice (some ⟨bk, o, none⟩) xs.length c, .string sep] w fun e w' => e = .returned (.string ⟨(Lib.join (xs.map (·.data.toList)) sep.data.toList).toArray⟩) ∧ Below w.heap.size w w')
    (h : primJoin args = some (res, outs)) : Does P G f args res outs := by
  unfold primJoin at h
  split at h
  · rename_i x sep
    simp only [Option.bind_eq_some_iff] at h
    obtain ⟨rows, hx, l, hl, h⟩ := h
    split at h
    · rename_i hle
      simp only [Option.some.injEq, Prod.mk.injEq] at h
      obtain ⟨rfl, rfl⟩ := h
      refine does_calls he fun S w vs O hG => ?_
      obtain ⟨u, v, O1, O2, rfl, r1, r2⟩ := two hG.rep
      cases r2 with
      | str sepb =>
      have hrows := strs_rows hl
      rcases rowsOf_rep r1 hx hG.low with ⟨e0, a, c, rfl⟩ | ⟨hne, b, o, c, rfl, g1, g2, g3, g4⟩
      · subst e0
        have : l = [] := by cases l with
          | nil => rfl
          | cons => simp at hrows
        subst this
        refine (h0 a c sepb w).mono fun e w' ⟨h2, h3⟩ => ?_
        subst h3
        exact ⟨_, [], h2, Below.refl _ _, .str ⟨#[]⟩, by simp, by simp⟩
      · subst hrows
        have hlen : (l.map fun s => [V.str s]).length = (l.map fun s => (⟨s.toArray⟩ : ByteArray)).length := by simp
        rw [hlen]
        have hm : (l.map fun s => (⟨s.toArray⟩ : ByteArray)).map (·.data.toList) = l := by
          rw [List.map_map]
          conv => rhs; rw [← List.map_id l]
          rfl
        have hc := h1 b o c (l.map fun s => (⟨s.toArray⟩ : ByteArray)) sepb w (fun j y hj => by
          rw [List.getElem?_map, Option.map_eq_some_iff] at hj
          obtain ⟨s, hs, rfl⟩ := hj
          exact mem_strs g4 j s hs) g2 (by simp; have := hle.1; unfold lim at this; omega) (by simpa using g1) (by
          rw [hm, ← joinL_eq]; have := hle.2; unfold lim at this; omega)
        rw [hm, ← joinL_eq] at hc
        refine hc.mono fun e w' ⟨h2, h3⟩ => ⟨_, [], h2, h3, ?_, by simp, by simp⟩
        simpa using Rep.str (S := S) (w := w') ⟨(joinL l sepb.data.toList).toArray⟩
    · cases h
  · cases h

theorem one {vs : List Value} {x : V} {O : List Nat} (h : Reps S w vs [x] O) : ∃ u O1, vs = [u] ∧ Rep S w u x O1 := by
  cases h with
  | cons h1 h2 => cases h2 with
    | nil => exact ⟨_, _, rfl, h1⟩

/-- A slice of strings copied. -/
def primCloneS : List V → Option (V × List V)
  | [x] => (rowsOf x).bind fun rows => (strs rows).bind fun l => if l.length ≤ lim then some (.own false 1 rows, [.undef]) else none
  | _ => none
theorem strs_reps (l : List (List UInt8)) : Reps S w (l.map fun s => Value.string ⟨s.toArray⟩) (l.map fun s => [V.str s]).flatten [] := by
  have e : (l.map fun s => [V.str s]).flatten = l.map V.str := flat_single _ l
  rw [e]
  induction l with
  | nil => exact .nil
  | cons s l ih =>
    have h1 : Rep S w (.string ⟨s.toArray⟩) (.str s) [] := by simpa using Rep.str (S := S) (w := w) ⟨s.toArray⟩
    simpa using Reps.cons h1 (ih (flat_single _ l))
theorem cloneS_ok {f ty : Nat} {args outs : List V} {res : V} (he : ∀ (vs : Array Value) (w : World), (callFunc f vs).run P w = .ok (.enter f vs) w)
    (h0 : ∀ (n c : Nat) (w : World), Calls P f #[.slice none n c] w fun e w' => e = .returned (.slice none 0 0) ∧ w' = w)
    (h1 : ∀ (a : Addr) (c : Nat) (w : World), Calls P f #[.slice (some a) 0 c] w fun e w' => ∃ v', e = .returned v' ∧ w'.ownsRow w.heap.size ty 1 v' 0 [] ∧ v' ≠ .slice none 0 0 ∧ Below w.heap.size w w')
    (h2 : ∀ (b off n c : Nat) (zs : List ByteArray) (w : World), n ≤ zs.length → n * 16 ≤ 140737488355328 → (∀ j, j < zs.length → w.cell? ⟨b, off + j, none⟩ = some (.string (zs.getD j ByteArray.empty))) →
      Calls P f #[.slice (some ⟨b, off, none⟩) n c] w fun e w' => ∃ v', e = .returned v' ∧ w'.ownsRow w.heap.size ty 1 v' n ((zs.take n).map (Value.string)) ∧ v' ≠ .slice none 0 0 ∧ Below w.heap.size w w')
    (h : primCloneS args = some (res, outs)) : Does P G f args res outs := by
  unfold primCloneS at h
  split at h
  · rename_i x
    simp only [Option.bind_eq_some_iff] at h
    obtain ⟨rows, hx, l, hl, h⟩ := h
    split at h
    · rename_i hle
      simp only [Option.some.injEq, Prod.mk.injEq] at h
      obtain ⟨rfl, rfl⟩ := h
      refine does_calls he fun S w vs O hG => ?_
      obtain ⟨u, O1, rfl, r1⟩ := one hG.rep
      have hrows := strs_rows hl
      rcases rowsOf_rep r1 hx hG.low with ⟨e0, a, c, rfl⟩ | ⟨hne, b, o, c, rfl, g1, g2, g3, g4⟩
      · subst e0
        cases a with
        | none =>
          refine (h0 0 c w).mono fun e w' ⟨h2, h3⟩ => ?_
          subst h3
          exact ⟨_, [], h2, Below.refl _ _, .own0 _ _ _, by simp, by simp⟩
        | some a =>
          refine (h1 a c w).mono fun e w' ⟨v', h2, h3, _, h4⟩ => ?_
          obtain ⟨O, k1, k2, k3⟩ := own_of_row (S := S) (rows := []) (by decide) h3 rfl (by simp) .nil (by simp)
          exact ⟨v', O, h2, h4, k1, k2, k3⟩
      · subst hrows
        have hlen : (l.map fun s => [V.str s]).length = l.length := by simp
        rw [hlen]
        have hc := h2 b o l.length c (l.map fun s => (⟨s.toArray⟩ : ByteArray)) w (by simp) (by have := hle; unfold lim at this; omega) (fun j hj => by
          have hj' : j < l.length := by simpa using hj
          rw [mem_strs g4 j l[j] (by simp [hj'])]
          simp [List.getD_eq_getElem?_getD, hj'])
        refine hc.mono fun e w' ⟨v', h2, h3, _, h4⟩ => ?_
        have e : ((l.map fun s => (⟨s.toArray⟩ : ByteArray)).take l.length).map Value.string = l.map fun s => Value.string ⟨s.toArray⟩ := by
          rw [List.take_of_length_le (by simp), List.map_map]; rfl
        rw [e] at h3
        obtain ⟨O, k1, k2, k3⟩ := own_of_row (S := S) (rows := l.map fun s => [V.str s]) (by decide) h3 (by simp) (by simp) (strs_reps l) (by intro x hx; obtain ⟨s, _, rfl⟩ := List.mem_map.1 hx; rfl)
        exact ⟨v', O, h2, h4, k1, k2, k3⟩
    · cases h
  · cases h

/-- Bytes copied. -/
def ints? : List (List V) → Option (List Int)
  | [] => some []
  | r :: rest => match r with
    | [.int .u8 n] => (ints? rest).bind fun l => some (n :: l)
    | _ => none
theorem ints_rows : ∀ {rows : List (List V)} {l : List Int}, ints? rows = some l → rows = l.map fun n => [.int .u8 n]
  | [], l, h => by simp only [ints?, Option.some.injEq] at h; subst h; rfl
  | r :: rest, l, h => by
    simp only [ints?] at h
    split at h
    · rename_i s
      simp only [Option.bind_eq_some_iff, Option.some.injEq] at h
      obtain ⟨l', h1, rfl⟩ := h
      rw [ints_rows h1]; rfl
    · cases h
def primCloneB : List V → Option (V × List V)
  | [x] => (rowsOf x).bind fun rows => (ints? rows).bind fun l => if l.length ≤ lim then some (.own false 1 rows, [.undef]) else none
  | _ => none
theorem ints_reps (l : List Int) : Reps S w (l.map (Value.int .u8)) (l.map fun n => [V.int .u8 n]).flatten [] := by
  have e : (l.map fun n => [V.int .u8 n]).flatten = l.map (V.int .u8) := flat_single _ l
  rw [e]
  induction l with
  | nil => exact .nil
  | cons s l ih => simpa using Reps.cons (Rep.int (S := S) (w := w) .u8 s) (ih (flat_single _ l))
theorem mem_ints {b o : Nat} {l : List Int} (h : Mem S w b o (l.map fun n => [V.int .u8 n]).flatten []) : ∀ j, j < l.length → w.cell? ⟨b, o + j, none⟩ = some (.int .u8 (l.getD j 0)) := by
  intro j hlt
  have e : (l.map fun n => [V.int .u8 n]).flatten = l.map (V.int .u8) := flat_single _ l
  rw [e] at h
  obtain ⟨O1, O2, O3, v, _, hc, hr, _, _, _⟩ := h.at (j := j) (by simpa using hlt)
  rw [hc]
  have : (l.map (V.int .u8)).getD j .undef = .int .u8 l[j] := by simp [List.getD_eq_getElem?_getD, hlt]
  rw [this] at hr
  cases hr
  simp [List.getD_eq_getElem?_getD, hlt]
theorem cloneB_ok {f ty : Nat} {args outs : List V} {res : V} (he : ∀ (vs : Array Value) (w : World), (callFunc f vs).run P w = .ok (.enter f vs) w)
    (h0 : ∀ (n c : Nat) (w : World), Calls P f #[.slice none n c] w fun e w' => e = .returned (.slice none 0 0) ∧ w' = w)
    (h2 : ∀ (a : Addr) (n c : Nat) (xs : List Int) (w : World), xs.length = n → n ≤ 140737488355328 → (∀ i, i < n → w.cell? (a.add i) = some (.int .u8 (xs.getD i 0))) →
      Calls P f #[.slice (some a) n c] w fun e w' => ∃ v', e = .returned v' ∧ w'.ownsRow w.heap.size ty 1 v' n (xs.map (Value.int .u8)) ∧ v' ≠ .slice none 0 0 ∧ Below w.heap.size w w')
    (h : primCloneB args = some (res, outs)) : Does P G f args res outs := by
  unfold primCloneB at h
  split at h
  · rename_i x
    simp only [Option.bind_eq_some_iff] at h
    obtain ⟨rows, hx, l, hl, h⟩ := h
    split at h
    · rename_i hle
      simp only [Option.some.injEq, Prod.mk.injEq] at h
      obtain ⟨rfl, rfl⟩ := h
      refine does_calls he fun S w vs O hG => ?_
      obtain ⟨u, O1, rfl, r1⟩ := one hG.rep
      have hrows := ints_rows hl
      rcases rowsOf_rep r1 hx hG.low with ⟨e0, a, c, rfl⟩ | ⟨hne, b, o, c, rfl, g1, g2, g3, g4⟩
      · subst e0
        cases a with
        | none =>
          refine (h0 0 c w).mono fun e w' ⟨h2, h3⟩ => ?_
          subst h3
          exact ⟨_, [], h2, Below.refl _ _, .own0 _ _ _, by simp, by simp⟩
        | some a =>
          refine (h2 a 0 c [] w rfl (by omega) (by simp)).mono fun e w' ⟨v', h2, h3, _, h4⟩ => ?_
          obtain ⟨O, k1, k2, k3⟩ := own_of_row (S := S) (rows := []) (by decide) h3 rfl (by simp) .nil (by simp)
          exact ⟨v', O, h2, h4, k1, k2, k3⟩
      · subst hrows
        have hlen : (l.map fun s => [V.int .u8 s]).length = l.length := by simp
        rw [hlen]
        have hc := h2 ⟨b, o, none⟩ l.length c l w rfl (by have := hle; unfold lim at this; omega) (fun j hj => by rw [add_none]; exact mem_ints g4 j hj)
        refine hc.mono fun e w' ⟨v', h2, h3, _, h4⟩ => ?_
        obtain ⟨O, k1, k2, k3⟩ := own_of_row (S := S) (rows := l.map fun s => [V.int .u8 s]) (by decide) h3 (by simp) (by simp) (ints_reps l) (by intro x hx; obtain ⟨s, _, rfl⟩ := List.mem_map.1 hx; rfl)
        exact ⟨v', O, h2, h4, k1, k2, k3⟩
    · cases h
  · cases h
end
end Go.Zv
