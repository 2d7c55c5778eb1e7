/- Zv: the soundness of single operations (second part): loads. No condition. -/
import Derived.Test.YtdddbifjkkhpbaaGreatDoorZvOps
namespace Go.Zv
open Go

section
variable {R : Type} {P : Program} {E : Env} {r : R} {K : List V → Option R} {S S' : Nat → Prop} {who who' : Nat → Option Nat} {w w' : World} {a : Act} {dst : Option Nat} {res : Result Next} {σ σ' : List V}

theorem coerce_sem {t : TK} {c : V} {G : V → Option R} (h : coerce t c G = some r) :
    ∃ v, G v = some r ∧ linkFree v = true ∧ ∀ {S : Nat → Prop} {w : World} {u : Value}, Rep S w u c [] → Rep S w u v [] := by
  unfold coerce at h
  split at h
  · cases e : asInt _ c with
    | none => rw [e] at h; cases h
    | some n =>
      rw [e] at h
      unfold asInt at e
      split at e
      · split at e
        · rename_i hk; subst hk; cases e; exact ⟨_, h, rfl, id⟩
        · cases e
      · cases e
  · cases e : asBool c with
    | none => rw [e] at h; cases h
    | some n =>
      rw [e] at h
      unfold asBool at e
      split at e
      · cases e; exact ⟨_, h, rfl, id⟩
      · cases e
  · cases e : asStr c with
    | none => rw [e] at h; cases h
    | some n =>
      rw [e] at h
      unfold asStr at e
      split at e
      · cases e; exact ⟨_, h, rfl, id⟩
      · cases e
  · cases e : asSl _ c with
    | none => rw [e] at h; cases h
    | some n =>
      rw [e] at h
      unfold asSl at e
      split at e
      · split at e
        · rename_i hk; subst hk; cases e
          refine ⟨_, h, rfl, fun hr => ?_⟩
          cases hr with
          | sl0 a c k f h => exact .sl0 _ _ _ _ (by simp)
          | sl h1 h2 h3 h4 h5 h6 => exact .sl h1 h2 h3 h4 ⟨h5.1, by simp⟩ h6
        · cases e
      · cases e; exact ⟨_, h, rfl, fun hr => by cases hr; exact .sl0 _ _ _ _ (by simp)⟩
      · cases e
  · split at h
    · exact ⟨_, h, rfl, id⟩
    · cases h
  · split at h
    · rename_i f caps
      cases e : linkFree (.fn f caps) with
      | false => rw [e] at h; cases h
      | true => rw [e] at h; exact ⟨_, h, e, id⟩
    · cases h
  · cases h

theorem add_none (b o i : Nat) : (⟨b, o, none⟩ : Addr).add i = ⟨b, o + i, none⟩ := by
  unfold Addr.add; split
  · rename_i h; subst h; rfl
  · rfl

theorem Reps.len : ∀ {vs : List Value} {xs : List V} {O : List Nat}, Reps S w vs xs O → vs.length = xs.length
  | _, _, _, .nil => rfl
  | _, _, _, .cons _ h => by simp [Reps.len h]

/-- Loading a row. -/
theorem run_loadCells {b : Nat} : ∀ {xs : List V} {o i : Nat} {O : List Nat} {acc : Array Value}, Mem S w b (o + i) xs O →
    ∃ cs : List Value, (loadCellsFrom ⟨b, o, none⟩ i xs.length acc).run P w = .ok (acc ++ cs.toArray) w ∧ Reps S w cs xs O ∧ ∀ c ∈ cs, c.oneCell' = true
  | [], o, i, _, acc, .nil _ _ => ⟨[], by simp [loadCellsFrom], .nil, by simp⟩
  | x :: xs, o, i, _, acc, .cons (v := v) h1 h0 h2 h3 => by
    obtain ⟨cs, hr, hm, h4⟩ := run_loadCells (o := o) (i := i + 1) (acc := acc.push v) (by rw [← Nat.add_assoc]; exact h3)
    refine ⟨v :: cs, ?_, .cons h2 hm, by simpa [h0] using h4⟩
    simp only [List.length_cons, loadCellsFrom, Sem.run_bind, run_load, add_none, h1, Result.andThen_ok, hr]
    simp

theorem run_loadVar_agg {t : Nat} {i : TI} (hT : TyOK P t i) (ha : i.kind.isAgg = true) {b o : Nat} {xs : List V} {O : List Nat} (hl : xs.length = i.size) (hm : Mem S w b o xs O) :
    ∃ cs : Array Value, (loadVar t ⟨b, o, none⟩).run P w = .ok (.agg cs) w ∧ Reps S w cs.toList xs O ∧ ∀ c ∈ cs.toList, c.oneCell' = true := by
  obtain ⟨ti, z, hi, hs, _⟩ := hT.info
  obtain ⟨cs, hr, hm, h4⟩ := run_loadCells (P := P) (o := o) (i := 0) (acc := #[]) (by simpa using hm)
  refine ⟨cs.toArray, ?_, by simpa using hm, by simpa using h4⟩
  simp only [loadVar, Sem.run_bind, run_isAgg w hT, Result.andThen_ok, ha, if_true, run_sizeOf w hi, loadCells, hs, ← hl, hr]
  simp
theorem run_loadVar_one {t : Nat} {i : TI} (hT : TyOK P t i) (ha : i.kind.isAgg = false) {b o : Nat} {u : Value} (hc : w.cell? ⟨b, o, none⟩ = some u) :
    (loadVar t ⟨b, o, none⟩).run P w = .ok u w := by
  simp only [loadVar, Sem.run_bind, run_isAgg w hT, Result.andThen_ok, ha]
  simp [hc]

theorem cut_eq {l : List V} {o n : Nat} (h : o + n ≤ l.length) : cut l o n = ((l.drop o).take n).map .cl := by
  apply List.ext_getElem
  · simp [cut]; omega
  · intro i h1 h2
    simp [cut] at h1
    simp [cut, List.getD_eq_getElem?_getD, List.getElem?_eq_getElem (show o + i < l.length by omega)]
theorem Reps.cl : ∀ {vs : List Value} {xs : List V} {O : List Nat}, Reps S w vs xs O → O = [] → Reps S w vs (xs.map .cl) []
  | _, _, _, .nil, _ => .nil
  | _, _, _, .cons h1 h2, h => by
    obtain ⟨rfl, rfl⟩ := List.append_eq_nil_iff.1 h
    simpa using Reps.cons (Rep.cl h1) (Reps.cl h2 rfl)
theorem Mem.sub {b o : Nat} {xs : List V} {O : List Nat} (h : Mem S w b o xs O) (off n : Nat) (hn : off + n ≤ xs.length) :
    ∃ O1 O2 O3, O = O1 ++ O2 ++ O3 ∧ Mem S w b o (xs.take off) O1 ∧ Mem S w b (o + off) ((xs.drop off).take n) O2 ∧ Mem S w b (o + off + n) (xs.drop (off + n)) O3 := by
  have e : xs = xs.take off ++ ((xs.drop off).take n ++ xs.drop (off + n)) := by
    rw [← List.drop_drop, List.take_append_drop, List.take_append_drop]
  rw [e] at h
  obtain ⟨O1, P, rfl, m1, m2⟩ := h.split
  obtain ⟨O2, O3, rfl, m2, m3⟩ := m2.split
  have h1 : (xs.take off).length = off := by simp; omega
  have h2 : ((xs.drop off).take n).length = n := by simp; omega
  rw [h1] at m2 m3
  rw [h2] at m3
  exact ⟨O1, O2, O3, by simp, m1, m2, m3⟩

theorem goodCell_plain {c : V} (h : goodCells [c] = true) : Cont c = false ∧ (∀ a l, c ≠ .tup (a :: l)) := by
  cases c <;> simp_all [goodCells, Cont]

theorem Follow.rep {tm : Array Value} {r0 : Nat} {q : Path} {c : Value} {X : V} (h : Rel E S who w tm σ) (hf : Follow w (tm.getD r0 undef) (gt σ r0) q c X) : ∃ O, Rep S w c X O ∧ ∀ b ∈ O, who b = some r0 := by
  obtain ⟨O, hO, _, ho⟩ := h.rep r0
  obtain ⟨A, OX, B, e, hX, _⟩ := hO.focusA hf
  exact ⟨OX, hX, fun b hb => ho b (by simp [e, hb])⟩

/-- The roads of a pointer. -/
theorem ptr_sem {tm : Array Value} {r0 : Nat} {p : Path} {u : Value} (hl : Link w tm σ u (.ptr r0 p)) :
    ∃ q i j c X b o, p = q ++ [(i, j)] ∧ p.getLast? = some (i, j) ∧ p.dropLast = q ∧ getP (gt σ r0) p.dropLast = X ∧ Follow w (tm.getD r0 undef) (gt σ r0) q c X ∧ Base c X i b o ∧ u = .pointer (some ⟨b, o + j, none⟩) := by
  obtain ⟨q, i, j, c, X, b, o, rfl, hf, hb, hu⟩ := hl
  exact ⟨q, i, j, c, X, b, o, rfl, getLast_snoc _ _, dropLast_snoc _ _, by rw [dropLast_snoc]; exact hf.get.symm, hf, hb, hu⟩

/-- A row of a container, as it lies in memory. -/
theorem Base.row {c : Value} {X : V} {i b o : Nat} {O : List Nat} (hb : Base c X i b o) (hr : Rep S w c X O) :
    (∃ n k rows, X = .own n k rows ∧ i < rows.length ∧ (∀ r ∈ rows, r.length = k) ∧ ∃ O1 O2 O3, O = b :: (O1 ++ O2 ++ O3) ∧ (n = false → O2 = []) ∧ Mem S w b o (rows.getD i []) O2 ∧ OpenRow k w b (o + k)) ∨
    (∃ cells O', X = .obox cells ∧ i = 0 ∧ o = 0 ∧ O = b :: O' ∧ Mem S w b 0 cells O' ∧ OpenRow 1 w b cells.length) := by
  cases hb with
  | @own _ _ _ _ k _ n rows hi =>
    cases hr with
    | own0 => simp at hi
    | own h1 h2 h3 h4 h5 h6 =>
      refine .inl ⟨n, k, rows, rfl, hi, h2, ?_⟩
      have hlt := flat_lt (j := k - 1) (k := k) hi (by omega)
      obtain ⟨O1, O2, O3, e, _, m2, _⟩ := h6.sub (i * k) k (by rw [flatten_length h2]; omega)
      have he : (rows.flatten.drop (i * k)).take k = rows.getD i [] := by
        apply List.ext_getElem?
        intro j
        by_cases hj : j < k
        · have := flatten_getD h2 hi hj
          simp only [List.getD_eq_getElem?_getD] at this ⊢
          rw [List.getElem?_take_of_lt hj, List.getElem?_drop]
          have l1 : i * k + j < rows.flatten.length := by rw [flatten_length h2]; exact flat_lt hi hj
          have l2 : j < (rows[i]?.getD []).length := by
            have := h2 _ (getD_mem hi)
            rw [List.getD_eq_getElem?_getD] at this; omega
          rw [List.getElem?_eq_getElem l1, List.getElem?_eq_getElem l2] at this ⊢
          simpa using this
        · have := h2 _ (getD_mem hi)
          rw [List.getElem?_eq_none (by simp; omega), List.getElem?_eq_none (by omega)]
      rw [he] at m2
      refine ⟨O1, O2, O3, by rw [e], fun hn => by have := h5 hn; rw [e] at this; simp at this; simp [this], m2, ?_⟩
      obtain ⟨cs, e, lo, hi', g1, g2, g3⟩ := h3
      refine ⟨cs, e, lo, hi', g1, Nat.le_trans ?_ g2, g3⟩
      have := Nat.mul_le_mul_right k h4
      omega
  | box =>
    cases hr with
    | obox h1 h2 => exact .inr ⟨_, _, rfl, rfl, rfl, rfl, h2, h1⟩

end
end Go.Zv
