/- Zv: the soundness of operations: addresses, elements, fields, parts. No condition. -/
import Derived.Test.YtdddbifjkkhpbaaGreatDoorZvOp4
namespace Go.Zv
open Go

section
variable {R : Type} {P : Program} {E : Env} {r : R} {K : List V → Option R} {S S' : Nat → Prop} {who who' : Nat → Option Nat} {w w' : World} {a : Act} {dst : Option Nat} {σ σ' : List V}

theorem bump_snoc (q : Path) (i j n : Nat) : bump (q ++ [(i, j)]) n = q ++ [(i, j + n)] := by
  induction q with
  | nil => rfl
  | cons a q ih =>
    cases q with
    | nil => rfl
    | cons b q => simpa [bump] using ih

theorem ptr_bump {tm : Array Value} {r0 : Nat} {p : Path} {b o n : Nat} (hl : Link w tm σ (.pointer (some ⟨b, o, none⟩)) (.ptr r0 p)) : Link w tm σ (.pointer (some ⟨b, o + n, none⟩)) (.ptr r0 (bump p n)) := by
  obtain ⟨q, i, j, c, X, b', o', e, hf, hb, hu⟩ := hl
  subst e
  cases hu
  exact ⟨q, i, j + n, c, X, b, o', bump_snoc _ _ _ _, hf, hb, by rw [Nat.add_assoc]⟩
theorem ptr_val {tm : Array Value} {u : Value} {r0 : Nat} {p : Path} (hl : Link w tm σ u (.ptr r0 p)) : ∃ b o, u = .pointer (some ⟨b, o, none⟩) := by
  obtain ⟨q, i, j, c, X, b', o', e, hf, hb, hu⟩ := hl
  exact ⟨_, _, hu⟩

theorem fieldAddr_out {t f : Nat} {x : Operand} (hE : EnvOK P E) (h : Rel E S who w a.tmps σ)
    (hs : (match kindOf (E.tys t) with
      | .struct fs => match fs[f]?, opnd E σ x with
        | some (off, _, size), .ptr r p => if size = 0 then none else K (put dst (.ptr r (bump p off)) σ)
        | some (off, _, size), .iptr c i => if size = 0 then none else K (put dst (.iptr c (i + off)) σ)
        | _, _ => none
      | _ => none) = some r) : OutV E r K S who w a dst ((Instr.fieldAt t (a.eval x) f).run P w) := by
  obtain ⟨hr, hl⟩ := opnd_spec h x
  split at hs
  · rename_i fs hk
    obtain ⟨F, hd, hfs, hinfo⟩ := kind_struct hE hk
    have hfield : ∀ {off ft size : Nat}, fs[f]? = some (off, ft, size) → ∃ fl, F[f]? = some fl ∧ fl.offset = off ∧ ∃ ti, P.info? fl.type = some ti ∧ ti.size = size := by
      intro off ft size he
      rw [hfs, List.getElem?_map] at he
      cases hF : F.toList[f]? with
      | none => rw [hF] at he; cases he
      | some fl =>
        rw [hF] at he
        simp only [Option.map_some, Option.some.injEq, Prod.mk.injEq] at he
        obtain ⟨e1, e2, e3⟩ := he
        obtain ⟨ti, hti⟩ := hinfo fl (List.mem_of_getElem? hF)
        exact ⟨fl, by simpa using hF, e1, ti, hti, by rw [← e3, cellsOf_info hti]⟩
    have hrun : ∀ {off ft size b o : Nat}, fs[f]? = some (off, ft, size) → ¬ size = 0 → (Instr.fieldAt t (.pointer (some ⟨b, o, none⟩)) f).run P w = .ok (.pointer (some ⟨b, o + off, none⟩)) w := by
      intro off ft size b o he hsz
      obtain ⟨fl, h1, h2, ti, h3, h4⟩ := hfield he
      simp only [Instr.fieldAt, Sem.run_bind, run_under w hd, Result.andThen_ok, h1, Instr.sureAddr, Sem.run_pure, fieldPlace, run_sizeOf w h3, h4, hsz, if_false, h2, add_none]
    split at hs
    · rename_i off ft size r0 p he hx
      split at hs
      · cases hs
      · rename_i hsz
        rw [hx] at hr hl
        obtain ⟨b, o, hv⟩ := ptr_val hl
        rw [hv] at hl ⊢
        exact outv_val (hrun he hsz) h (.ptr _ _ _) (ptr_bump hl) hs
    · rename_i off ft size c i he hx
      split at hs
      · cases hs
      · rename_i hsz
        rw [hx] at hr
        generalize a.eval x = u at *
        cases hr with
        | iptr h1 h2 h3 =>
          subst h2
          exact outv_val (hrun he hsz) h (.iptr h1 (by rw [Nat.add_assoc]) h3) trivial hs
    · cases hs
  · cases hs

theorem idx_sem {x : V} {u : Value} {i : Int} (h : Rep S w u x []) (hi : idxOf x = some i) : ∃ k, u = .int k i := by
  cases x <;> simp [idxOf] at hi
  subst hi
  cases h
  exact ⟨_, rfl⟩

theorem indexAddr_out {t : Nat} {x ix : Operand} (hE : EnvOK P E) (h : Rel E S who w a.tmps σ)
    (hs : (match idxOf (opnd E σ ix) with
      | none => none
      | some i => match kindOf (E.tys t), opnd E σ x with
        | .arr n k _, .ptr r p => if 0 ≤ i ∧ i < n then K (put dst (.ptr r (bump p (i.toNat * k))) σ) else none
        | .arr n k _, .iptr c j => if 0 ≤ i ∧ i < n then K (put dst (.iptr c (j + i.toNat * k)) σ) else none
        | .slice k _, .sl k' _ rows => if k' = k then (if 0 ≤ i ∧ i < rows.length then K (put dst (.iptr (rows.getD i.toNat []) 0) σ) else none) else none
        | .slice k _, .ref r p => place k σ r p
            (fun _ rows => if 0 ≤ i ∧ i < rows.length then K (put dst (.ptr r (p ++ [(i.toNat, 0)])) σ) else none)
            (fun _ rows => if 0 ≤ i ∧ i < rows.length then K (put dst (.iptr (rows.getD i.toNat []) 0) σ) else none)
        | _, _ => none) = some r) : OutV E r K S who w a dst ((Instr.indexAt t (a.eval x) (a.eval ix)).run P w) := by
  obtain ⟨hr, hl⟩ := opnd_spec h x
  obtain ⟨hri, _⟩ := opnd_spec h ix
  split at hs
  · cases hs
  rename_i i hi
  obtain ⟨ki, hvi⟩ := idx_sem hri hi
  rw [hvi]
  -- elements of an immutable slice
  have imm : ∀ {k bb : Nat} {f : Bool} {rows : List (List V)} {O : List Nat}, kindOf (E.tys t) = .slice k bb → Rep S w (a.eval x) (.sl k f rows) O → 0 ≤ i ∧ i < rows.length → K (put dst (.iptr (rows.getD i.toNat []) 0) σ) = some r →
      OutV E r K S who w a dst ((Instr.indexAt t (a.eval x) (.int ki i)).run P w) := by
    intro k bb f rows O hk hrs hir hK
    obtain ⟨ti, e, ie, z, _, hd, hie, _, hsz, _, _, _, hpos, _⟩ := kind_slice hE hk
    generalize a.eval x = u at *
    cases hrs with
    | sl0 => simp at hir; omega
    | @sl b o c _ _ _ h1 h2 h3 h4 h5 h6 =>
      have hlt : i.toNat < rows.length := by omega
      have hfl := flat_lt (j := k - 1) (k := k) hlt (by omega)
      obtain ⟨O1, O2, O3, e', _, m2, _⟩ := h6.sub (i.toNat * k) k (by rw [flatten_length h3]; omega)
      have he : (rows.flatten.drop (i.toNat * k)).take k = rows.getD i.toNat [] := by
        apply List.ext_getElem?
        intro j
        by_cases hj : j < k
        · have := flatten_getD h3 hlt hj
          simp only [List.getD_eq_getElem?_getD] at this ⊢
          rw [List.getElem?_take_of_lt hj, List.getElem?_drop]
          have l1 : i.toNat * k + j < rows.flatten.length := by rw [flatten_length h3]; exact flat_lt hlt hj
          have l2 : j < (rows[i.toNat]?.getD []).length := by
            have := h3 _ (getD_mem hlt)
            rw [List.getD_eq_getElem?_getD] at this; omega
          rw [List.getElem?_eq_getElem l1, List.getElem?_eq_getElem l2] at this ⊢
          simpa using this
        · have := h3 _ (getD_mem hlt)
          rw [List.getElem?_eq_none (by simp; omega), List.getElem?_eq_none (by omega)]
      have hO2 : O2 = [] := by simp at e'; simp [e']
      subst hO2
      rw [he] at m2
      refine outv_val (u := .pointer (some ⟨b, o + i.toNat * k, none⟩)) ?_ h (.iptr h4 (by simp) m2) trivial hK
      simp only [Instr.indexAt, asIntOf, Sem.run_bind, Sem.run_pure, Result.andThen_ok, run_under w hd]
      simp [hir.1, hir.2, run_sizeOf w hie, hsz, add_none]
  split at hs
  · rename_i n k e r0 p hk hx
    split at hs
    · rename_i hir
      obtain ⟨hd, hc, hpos, ie, hie⟩ := kind_arr hE hk
      rw [hx] at hr hl
      obtain ⟨b, o, hv⟩ := ptr_val hl
      rw [hv] at hl ⊢
      refine outv_val (u := .pointer (some ⟨b, o + i.toNat * k, none⟩)) ?_ h (.ptr _ _ _) (ptr_bump hl) hs
      rw [cellsOf_info hie] at hc
      simp only [Instr.indexAt, asIntOf, Sem.run_bind, Sem.run_pure, Result.andThen_ok, run_under w hd, Instr.sureAddr]
      simp [hir.1, hir.2, run_sizeOf w hie, hc, add_none]
    · cases hs
  · rename_i n k e c j hk hx
    split at hs
    · rename_i hir
      obtain ⟨hd, hc, hpos, ie, hie⟩ := kind_arr hE hk
      rw [hx] at hr
      generalize a.eval x = u at *
      cases hr with
      | iptr h1 h2 h3 =>
        subst h2
        refine outv_val (u := .pointer (some ⟨_, _ + i.toNat * k, none⟩)) ?_ h (.iptr h1 (by rw [Nat.add_assoc]) h3) trivial hs
        rw [cellsOf_info hie] at hc
        simp only [Instr.indexAt, asIntOf, Sem.run_bind, Sem.run_pure, Result.andThen_ok, run_under w hd, Instr.sureAddr]
        simp [hir.1, hir.2, run_sizeOf w hie, hc, add_none]
    · cases hs
  · rename_i k bb k' f rows hk hx
    split at hs
    · rename_i e; subst e
      split at hs
      · rename_i hir
        rw [hx] at hr
        exact imm hk hr hir hs
      · cases hs
    · cases hs
  · rename_i k bb r0 p hk hx
    rw [hx] at hr hl
    rcases place_sem hl hs with ⟨n, rows, X, hK, hf, hX⟩ | ⟨f, rows, hK, hf⟩
    · split at hK
      · rename_i hir
        obtain ⟨ti, e, ie, z, _, hd, hie, _, hsz, _, _, _, hpos, _⟩ := kind_slice hE hk
        rcases hX with rfl | ⟨rfl, rfl, rfl⟩
        · obtain ⟨O, hO, _⟩ := hf.rep h
          generalize hu : a.eval x = u at *
          cases hO with
          | own0 => simp at hir; omega
          | @own b o c _ _ _ O h1 h2 h3 h4 h5 h6 =>
            refine outv_val (u := .pointer (some ⟨b, o + i.toNat * k, none⟩)) ?_ h (.ptr _ _ _) ?_ hK
            · simp only [Instr.indexAt, asIntOf, Sem.run_bind, Sem.run_pure, Result.andThen_ok, run_under w hd]
              simp [hir.1, hir.2, run_sizeOf w hie, hsz, add_none]
            · exact ⟨p, i.toNat, 0, _, _, b, o + i.toNat * k, rfl, hf, .own (by omega), rfl⟩
        · simp at hir; omega
      · cases hK
    · split at hK
      · rename_i hir
        obtain ⟨O, hO, _⟩ := hf.rep h
        exact imm hk hO hir hK
      · cases hK
  · cases hs

theorem part_one {t : Nat} {i : TI} (hT : TyOK P t i) (ha : i.kind.isAgg = false) {cs : Array Value} {o : Nat} {v : Value} (hv : cs[o]? = some v) : (part t cs o).run P w = .ok v w := by
  simp only [part, Sem.run_bind, run_isAgg w hT, Result.andThen_ok, ha, Bool.false_eq_true, if_false, hv, Sem.run_pure]
theorem part_agg {t : Nat} {i : TI} (hT : TyOK P t i) (ha : i.kind.isAgg = true) {cs : Array Value} {o : Nat} : (part t cs o).run P w = .ok (.agg (cs.extract o (o + i.size))) w := by
  obtain ⟨ti, z, hi, hs, _⟩ := hT.info
  simp only [part, Sem.run_bind, run_isAgg w hT, Result.andThen_ok, ha, if_true, run_sizeOf w hi, Sem.run_pure, hs]
theorem Reps.sub {us : List Value} {xs : List V} (h : Reps S w us xs []) (o n : Nat) : Reps S w ((us.drop o).take n) ((xs.drop o).take n) [] := by
  have hd : ∀ {us : List Value} {xs : List V} (o : Nat), Reps S w us xs [] → Reps S w (us.drop o) (xs.drop o) [] := by
    intro us xs o
    induction o generalizing us xs with
    | zero => exact fun h => h
    | succ o ih =>
      intro h
      cases h' : xs with
      | nil => subst h'; cases h; exact .nil
      | cons x xs' =>
        subst h'
        generalize hO : ([] : List Nat) = O at h
        cases h with
        | cons h1 h2 =>
          obtain ⟨rfl, rfl⟩ := List.append_eq_nil_iff.1 hO.symm
          exact ih h2
  have ht : ∀ {us : List Value} {xs : List V} (n : Nat), Reps S w us xs [] → Reps S w (us.take n) (xs.take n) [] := by
    intro us xs n
    induction n generalizing us xs with
    | zero => intro _; simpa using Reps.nil
    | succ n ih =>
      intro h
      cases h' : xs with
      | nil => subst h'; cases h; exact .nil
      | cons x xs' =>
        subst h'
        generalize hO : ([] : List Nat) = O at h
        cases h with
        | cons h1 h2 =>
          obtain ⟨rfl, rfl⟩ := List.append_eq_nil_iff.1 hO.symm
          simpa using Reps.cons h1 (ih h2)
  exact ht n (hd o h)
theorem Reps.get {us : List Value} {xs : List V} (h : Reps S w us xs []) {j : Nat} (hj : j < xs.length) : ∃ v, us[j]? = some v ∧ Rep S w v (xs.getD j .undef) [] := by
  have := h.sub j 1
  cases hx : xs.drop j with
  | nil => rw [List.drop_eq_nil_iff] at hx; omega
  | cons x l =>
    rw [hx] at this
    have hg : xs.getD j .undef = x := by
      have : xs[j]? = some x := by
        have := congrArg List.head? hx
        simpa [List.head?_drop] using this
      rw [List.getD_eq_getElem?_getD, this]; rfl
    generalize hO : ([] : List Nat) = O at this
    simp only [List.take_succ_cons, List.take_zero] at this
    generalize hus : (us.drop j).take 1 = ul at this
    cases this with
    | @cons v _ _ _ _ _ h1 h2 =>
      obtain ⟨rfl, rfl⟩ := List.append_eq_nil_iff.1 hO.symm
      refine ⟨v, ?_, by rw [hg]; exact h1⟩
      have := congrArg List.head? hus
      simpa [List.head?_take, List.head?_drop] using this

/-- A scalar part of an aggregate. -/
theorem partOne_sem {kd : TK} {c : V} {u : Value} {G : V → Option R} (hs : (match c with
      | .cl x => coerce kd x G
      | c => coerce kd c G) = some r) (hr : Rep S w u c []) : ∃ v, G v = some r ∧ linkFree v = true ∧ Rep S w u v [] := by
  cases c
  case cl x =>
    cases hr with
    | cl hr =>
      obtain ⟨v, h1, h2, h3⟩ := coerce_sem hs
      exact ⟨v, h1, h2, h3 hr⟩
  all_goals
    obtain ⟨v, h1, h2, h3⟩ := coerce_sem hs
    exact ⟨v, h1, h2, h3 hr⟩

end
end Go.Zv
