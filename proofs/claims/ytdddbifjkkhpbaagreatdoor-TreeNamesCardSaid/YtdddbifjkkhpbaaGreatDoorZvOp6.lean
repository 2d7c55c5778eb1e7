/- Zv: the soundness of operations: fields, elements, components, loads, one operand. No condition. -/
import Derived.Test.YtdddbifjkkhpbaaGreatDoorZvOp5
namespace Go.Zv
open Go

section
variable {R : Type} {P : Program} {E : Env} {r : R} {K : List V → Option R} {S S' : Nat → Prop} {who who' : Nat → Option Nat} {w w' : World} {a : Act} {dst : Option Nat} {σ σ' : List V}

theorem part_out {ft off : Nat} {us : Array Value} {cs : List V} {i : TI} (hT : TyOK P ft i) (h : Rel E S who w a.tmps σ) (h0 : ∀ c ∈ us.toList, c.oneCell' = true) (hreps : Reps S w us.toList cs [])
    (hs : cond i.kind.isAgg (K (put dst (.agg ((cs.drop off).take i.size)) σ))
          (match cs.getD off .undef with
            | .cl x => coerce i.kind x fun v => K (put dst v σ)
            | c => coerce i.kind c fun v => K (put dst v σ)) = some r) : OutV E r K S who w a dst ((part ft us off).run P w) := by
  cases hag : i.kind.isAgg with
  | true =>
    rw [hag] at hs
    simp only [cond_true] at hs
    refine outv_val (part_agg hT hag) h (.agg ?_ ?_) trivial hs
    · intro c hc
      refine h0 c ?_
      simp only [Array.toList_extract, List.extract_eq_drop_take'] at hc
      exact List.mem_of_mem_take (List.mem_of_mem_drop hc)
    · have := hreps.sub off i.size
      simpa [Array.toList_extract, List.extract_eq_drop_take'] using this
  | false =>
    rw [hag] at hs
    simp only [cond_false] at hs
    by_cases hlt : off < cs.length
    · obtain ⟨v, hv, hrv⟩ := hreps.get hlt
      obtain ⟨v', h1, h2, h3⟩ := partOne_sem hs hrv
      exact outv_val (part_one hT hag (by simpa using hv)) h h3 (h3.link h2) h1
    · rw [List.getD_eq_getElem?_getD, List.getElem?_eq_none (by omega)] at hs
      have : ∀ {k : TK} {G : V → Option R}, coerce k .undef G = none := by
        intro k G
        cases k <;> rfl
      simp [this] at hs

theorem field_out {t f : Nat} {x : Operand} (hE : EnvOK P E) (h : Rel E S who w a.tmps σ)
    (hs : (match kindOf (E.tys t), opnd E σ x with
      | .struct fs, .agg cs => match fs[f]? with
        | some (off, ft, size) => cond (kindOf (E.tys ft)).isAgg (K (put dst (.agg ((cs.drop off).take size)) σ))
            (match cs.getD off .undef with
              | .cl x => coerce (kindOf (E.tys ft)) x fun v => K (put dst v σ)
              | c => coerce (kindOf (E.tys ft)) c fun v => K (put dst v σ))
        | none => none
      | _, _ => none) = some r) : OutV E r K S who w a dst ((Instr.field t (a.eval x) f).run P w) := by
  obtain ⟨hr, hl⟩ := opnd_spec h x
  split at hs
  · rename_i fs cs hk hx
    rw [hx] at hr
    split at hs
    · rename_i off ft size he
      obtain ⟨F, hd, hfs, hinfo⟩ := kind_struct hE hk
      rw [hfs, List.getElem?_map] at he
      cases hF : F.toList[f]? with
      | none => rw [hF] at he; cases he
      | some fl =>
        rw [hF] at he
        simp only [Option.map_some, Option.some.injEq, Prod.mk.injEq] at he
        obtain ⟨rfl, rfl, rfl⟩ := he
        have hi : ∃ i, E.tys fl.type = some i := by
          cases e : E.tys fl.type with
          | some i => exact ⟨i, rfl⟩
          | none =>
            rw [e] at hs
            simp only [kindOf, TK.isAgg, cond_false] at hs
            split at hs <;> cases hs
        obtain ⟨i, hi⟩ := hi
        have hT := hE.ty _ _ hi
        obtain ⟨ti, z, hti, hsz, _⟩ := hT.info
        rw [hi, cellsOf_info hti, hsz] at hs
        simp only [kindOf] at hs
        generalize a.eval x = u at *
        cases hr with
        | @agg us _ h0 hreps =>
          have hg : F[f]? = some fl := by simpa using hF
          have hrun : (Instr.field t (.agg us) f).run P w = (part fl.type us fl.offset).run P w := by
            simp only [Instr.field, Sem.run_bind, run_under w hd, Result.andThen_ok, hg, asAgg, Sem.run_pure]
          rw [hrun]
          exact part_out hT h h0 hreps hs
    · cases hs
  · cases hs

theorem byte_getD {s : ByteArray} {i : Nat} (h : i < s.data.toList.length) : s[i]? = some (s.data.toList.getD i 0) := by
  have h' : i < s.size := by simpa using h
  rw [getElem?_pos s i h', List.getD_eq_getElem?_getD, List.getElem?_eq_getElem h]
  rfl

theorem index_out {t : Nat} {x ix : Operand} (hE : EnvOK P E) (h : Rel E S who w a.tmps σ)
    (hs : (match idxOf (opnd E σ ix) with
    | none => none
    | some i => match kindOf (E.tys t), opnd E σ x with
      | .str, .str s => if 0 ≤ i ∧ i < s.length then K (put dst (.int .u8 (s.getD i.toNat 0).toNat) σ) else none
      | .arr n k e, .agg cs => if 0 ≤ i ∧ i < n then
          cond (kindOf (E.tys e)).isAgg (K (put dst (.agg ((cs.drop (i.toNat * k)).take k)) σ))
            (match cs.getD i.toNat .undef with
              | .cl x => coerce (kindOf (E.tys e)) x fun v => K (put dst v σ)
              | c => coerce (kindOf (E.tys e)) c fun v => K (put dst v σ))
        else none
      | _, _ => none) = some r) : OutV E r K S who w a dst ((Instr.index t (a.eval x) (a.eval ix)).run P w) := by
  obtain ⟨hr, hl⟩ := opnd_spec h x
  obtain ⟨hri, _⟩ := opnd_spec h ix
  split at hs
  · cases hs
  rename_i i hi
  obtain ⟨ki, hvi⟩ := idx_sem hri hi
  rw [hvi]
  split at hs
  · rename_i s hk hx
    split at hs
    · rename_i hir
      rw [hx] at hr
      have hd := kind_str hE hk
      generalize a.eval x = u at *
      cases hr with
      | str s =>
        have hlt : i.toNat < s.data.toList.length := by omega
        refine outv_val ?_ h (.int _ _) trivial hs
        simp only [Instr.index, asIntOf, Sem.run_bind, Sem.run_pure, Result.andThen_ok, run_under w hd, hir.1, if_true, byte_getD hlt]
    · cases hs
  · rename_i n k e cs hk hx
    split at hs
    · rename_i hir
      rw [hx] at hr
      obtain ⟨hd, hc, hpos, ie, hie⟩ := kind_arr hE hk
      have hi' : ∃ i, E.tys e = some i := by
        cases e' : E.tys e with
        | some i => exact ⟨i, rfl⟩
        | none =>
          rw [e'] at hs
          simp only [kindOf, TK.isAgg, cond_false] at hs
          split at hs <;> cases hs
      obtain ⟨ei, hei⟩ := hi'
      have hT := hE.ty _ _ hei
      obtain ⟨ti, z, hti, hsz, _⟩ := hT.info
      rw [hie] at hti; cases hti
      rw [cellsOf_info hie] at hc
      generalize a.eval x = u at *
      cases hr with
      | @agg us _ h0 hreps =>
        have hrun : (Instr.index t (.agg us) (.int ki i)).run P w = (part e us (i.toNat * k)).run P w := by
          simp only [Instr.index, asIntOf, Sem.run_bind, Sem.run_pure, Result.andThen_ok, run_under w hd]
          rw [if_pos hir]
          simp only [Sem.run_bind, run_sizeOf w hie, Result.andThen_ok, hc]
        rw [hrun]
        rw [hei] at hs
        simp only [kindOf] at hs
        refine part_out hT h h0 hreps ?_
        cases hag : ei.kind.isAgg with
        | true =>
          rw [hag] at hs
          rw [← hsz, hc]
          exact hs
        | false =>
          rw [hag] at hs
          have hk1 : k = 1 := by rw [← hc, hsz, hT.one hag]
          subst hk1
          rw [Nat.mul_one]
          exact hs
    · cases hs
  · cases hs

theorem unOp_out {op : UnOp} {x : Operand} (h : Rel E S who w a.tmps σ)
    (hs : (match op, opnd E σ x with
    | .not, .bool b => K (put dst (.bool (!b)) σ)
    | .neg, .int k n => K (put dst (.int k (k.wrap (0 - n))) σ)
    | .xor, .int k n => K (put dst (.int k (bitsOf .xor k (if k.signed then -1 else k.max) n)) σ)
    | _, _ => none) = some r) : OutV E r K S who w a dst ((Op.unary op (a.eval x)).run P w) := by
  obtain ⟨hr, hl⟩ := opnd_spec h x
  split at hs
  · rename_i b hx
    rw [hx] at hr
    generalize a.eval x = u at *
    cases hr
    exact outv_val rfl h (.bool _) trivial hs
  · rename_i k n hx
    rw [hx] at hr
    generalize a.eval x = u at *
    cases hr
    exact outv_val (by simp [Op.unary, Op.intArith]) h (.int _ _) trivial hs
  · rename_i k n hx
    rw [hx] at hr
    generalize a.eval x = u at *
    cases hr
    exact outv_val (by simp [Op.unary, Op.intBits, bitsOf]) h (.int _ _) trivial hs
  · cases hs

theorem load_out {t : Nat} {x : Operand} (hE : EnvOK P E) (h : Rel E S who w a.tmps σ) (hs : load (E.tys t) σ (opnd E σ x) (fun v σ' => K (put dst v σ')) = some r) :
    OutV E r K S who w a dst ((Instr.loadAt t (a.eval x)).run P w) := by
  obtain ⟨hr, hl⟩ := opnd_spec h x
  obtain ⟨v, σ', S', who', u', h1, h2, h3, h4, h5, h6⟩ := load_sem (hE.ty t) h hr hl hs
  exact outv_put h1 h3 h6 h4 (by simp) (by simp) h5 h2

/-- A component that is moved out of a tuple. -/
theorem tup_take {tm : Array Value} (h : Rel E S who w tm σ) {t i : Nat} {vs : List V} (ht : gt σ t = .tup vs) (hi : i < vs.length) :
    ∃ cs O who', tm.getD t undef = .tuple cs ∧ Rep S w (cs.toList.getD i undef) (vs.getD i .undef) O ∧ i < cs.size ∧ O.Nodup ∧ (∀ b ∈ O, who b ≠ none ∧ who' b = none ∧ ¬ S b) ∧
      Rel E S who' w tm (σ.set t (.tup (vs.set i .undef))) ∧ Step S who w S who' w := by
  obtain ⟨OX, hO, hn, ho⟩ := h.rep t
  rw [ht] at hO
  generalize hu : tm.getD t undef = u at hO
  cases hO with
  | @tup cs _ _ hreps =>
    have key : ∀ {us : List Value} {xs : List V} {O : List Nat} {i : Nat}, Reps S w us xs O → i < xs.length →
        ∃ A B C, O = A ++ B ++ C ∧ i < us.length ∧ Rep S w (us.getD i undef) (xs.getD i .undef) B ∧ Reps S w us (xs.set i .undef) (A ++ C) := by
      intro us xs
      induction xs generalizing us with
      | nil => intro _ _ _ hi; simp at hi
      | cons x xs ih =>
        intro O i hr hi
        cases hr with
        | @cons v _ us' _ O1 O2 h1 h2 =>
          cases i with
          | zero => exact ⟨[], O1, O2, by simp, by simp, by simpa using h1, by simpa using Reps.cons (.undef v) h2⟩
          | succ i =>
            obtain ⟨A, B, C, e, hl, h3, h4⟩ := ih h2 (by simpa using hi)
            exact ⟨O1 ++ A, B, C, by simp [e], by simpa using hl, by simpa using h3, by simpa using Reps.cons h1 h4⟩
    obtain ⟨A, B, C, e, hl, h1, h2⟩ := key hreps hi
    have hns : ∀ b ∈ OX, ¬ S b := fun b hb hs => by have := h.sep b hs; rw [ho b hb] at this; cases this
    have hlt : t < σ.length := by
      rcases Nat.lt_or_ge t σ.length with h1 | h1
      · exact h1
      · rw [gt_len h1] at ht; cases ht
    subst e
    have hroot : ∀ rr, SameRoot tm tm σ (σ.set t (.tup (vs.set i .undef))) rr := by
      intro rr
      refine ⟨rfl, ?_⟩
      rw [gt_set]
      by_cases hrr : t = rr ∧ rr < σ.length
      · rw [if_pos hrr]
        exact .inr ⟨fun h => h.elim, by rw [← hrr.1, ht]; rfl⟩
      · rw [if_neg hrr]; exact .inl rfl
    refine ⟨cs, B, fun b => if b ∈ B then none else who b, rfl, h1, by simpa using hl, ?_, ?_, ?_, ?_⟩
    · have := hn; simp only [List.nodup_append] at this; exact this.1.2.1
    · intro b hb
      exact ⟨by rw [ho b (by simp [hb])]; simp, by simp [hb], hns b (by simp [hb])⟩
    · refine ⟨by rw [List.length_set]; exact h.size, fun j => ?_, fun b hb => ?_, h.low, fun b j hb => ?_, fun j => ?_, h.glob⟩
      · rw [gt_set]
        by_cases hj : t = j ∧ j < σ.length
        · rw [if_pos hj]
          obtain ⟨rfl, hj⟩ := hj
          have hnd := hn
          simp only [List.nodup_append, List.mem_append] at hnd
          refine ⟨A ++ C, by rw [hu]; exact .tup h2, ?_, fun b hb => ?_⟩
          · rw [List.nodup_append]
            exact ⟨hnd.1.1, hnd.2.1, fun a ha c hc => hnd.2.2 a (.inl ha) c hc⟩
          · have : b ∉ B := fun hB => by
              rcases List.mem_append.1 hb with h1 | h1
              · exact hnd.1.2.2 b h1 b hB rfl
              · exact hnd.2.2 b (.inr hB) b h1 rfl
            simp only [this, if_false]
            exact ho b (by rcases List.mem_append.1 hb with h1 | h1 <;> simp [h1])
        · rw [if_neg hj]
          obtain ⟨P, hP, hnP, hoP⟩ := h.rep j
          refine ⟨P, hP, hnP, fun b hb => ?_⟩
          have : b ∉ B := fun hB => by
            have h1 := ho b (by simp [hB])
            rw [hoP b hb] at h1
            have e : j = t := by simpa using h1
            subst e
            exact hj ⟨rfl, hlt⟩
          simp only [this, if_false]
          exact hoP b hb
      · have := h.sep b hb
        simp [this]
      · split at hb
        · cases hb
        · exact h.lowO b _ hb
      · rw [gt_set]
        by_cases hj : t = j ∧ j < σ.length
        · rw [if_pos hj]; trivial
        · rw [if_neg hj]; exact (h.link j).congr fun rr _ => hroot rr
    · refine ⟨Nat.le_refl _, fun _ _ _ => rfl, fun _ h => h, fun _ h => .inl h, fun b hb => .inl fun hc => ?_, Same.refl _⟩
      apply hb
      simp [hc]

theorem simple_cont {v : V} (h : simple v = true) : Cont v = false ∧ (∀ a l, v ≠ .tup (a :: l)) ∧ linkFree v = true := by
  cases v
  case tup vs =>
    cases vs with
    | nil => exact ⟨rfl, by simp, rfl⟩
    | cons => cases h
  all_goals first | (cases h; done) | (refine ⟨rfl, by simp, ?_⟩; first | rfl | exact h)

theorem extract_out {i : Nat} {x : Operand} (h : Rel E S who w a.tmps σ)
    (hs : (match x with
    | .tmp t => match gt σ t with
      | .tup vs => match vs.getD i .undef with
        | .own n k rows => K (put dst (.own n k rows) (σ.set t (.tup (vs.set i .undef))))
        | v => cond (simple v) (K (put dst v σ)) none
      | _ => none
    | _ => none) = some r) : OutV E r K S who w a dst ((Instr.extract (a.eval x) i).run P w) := by
  split at hs
  · rename_i t
    have hev : a.eval (.tmp t) = a.tmps.getD t undef := rfl
    split at hs
    · rename_i vs ht
      have hi : i < vs.length := by
        rcases Nat.lt_or_ge i vs.length with h1 | h1
        · exact h1
        · rw [List.getD_eq_getElem?_getD, List.getElem?_eq_none (by omega)] at hs
          simp [simple] at hs
      obtain ⟨cs, O, who', hu, hrep, hlt, hn, hO, hrel, hst⟩ := tup_take h ht hi
      have hrun : (Instr.extract (a.eval (.tmp t)) i).run P w = .ok (cs.toList.getD i undef) w := by
        rw [hev, hu]
        have : cs[i]? = some (cs.toList.getD i undef) := by
          rw [Array.getElem?_eq_getElem hlt, List.getD_eq_getElem?_getD]
          simp [hlt]
        simp only [Instr.extract, this, Sem.run_pure]
      split at hs
      · rename_i n k rows hx
        rw [hx] at hrep
        exact outv_put hrun hrel hst hrep hn (fun b hb => ⟨⟨(hO b hb).2.1, (hO b hb).2.2⟩, .inl (hO b hb).1⟩) trivial hs
      · rename_i v _ hx
        cases hsi : simple (vs.getD i .undef) with
        | false => rw [hsi] at hs; cases hs
        | true =>
          rw [hsi] at hs
          simp only [cond_true] at hs
          obtain ⟨h1, h2, h3⟩ := simple_cont hsi
          have := hrep.plain h1 h2
          subst this
          exact outv_val hrun h hrep (hrep.link h3) hs
    · cases hs
  · cases hs

/-- What an operation has to come to. -/
theorem pick_out {c x y : Operand} (h : Rel E S who w a.tmps σ)
    (hs : (match opnd E σ c with
    | .bool b => if b = true then K (put dst (opnd E σ x) σ) else K (put dst (opnd E σ y) σ)
    | _ => none) = some r) : OutV E r K S who w a dst ((do pure (if ← Go.asBool (a.eval c) then a.eval x else a.eval y) : Sem Value).run P w) := by
  obtain ⟨hr, _⟩ := opnd_spec h c
  split at hs
  · rename_i b hx
    rw [hx] at hr
    generalize a.eval c = u at *
    cases hr
    cases b with
    | true => exact outv_val rfl h (opnd_spec h x).1 (opnd_spec h x).2 hs
    | false => exact outv_val rfl h (opnd_spec h y).1 (opnd_spec h y).2 hs
  · cases hs

end
end Go.Zv
