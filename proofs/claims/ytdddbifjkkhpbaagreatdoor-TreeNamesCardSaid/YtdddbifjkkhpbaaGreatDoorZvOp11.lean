/- Zv: the soundness of append. No condition. -/
import Derived.Test.YtdddbifjkkhpbaaGreatDoorZvOp10
namespace Go.Zv
open Go

section
variable {R : Type} {P : Program} {E : Env} {r : R} {K : List V → Option R} {S S' : Nat → Prop} {who who' : Nat → Option Nat} {w w' : World} {a : Act} {dst : Option Nat} {σ σ' : List V}

/-- What append's second argument is: n elements, whose cells are news. -/
def Src (P : Program) (w : World) (z : Value) (size : Nat) (d : TypeDesc) (uy : Value) (n : Nat) (news : List Value) : Prop :=
  ((∃ k, d = .int k) ∧ (∃ k, uy = .int k n) ∧ n ≤ lim ∧ news = (Builtin.zeroCells z.cells n).toList) ∨
    ((∀ k, d ≠ .int k) ∧ (∀ w, (Builtin.lenOf uy).run P w = .ok n w) ∧ (Builtin.firstCells size n uy).run P w = .ok news.toArray w ∧ (Builtin.firstCells size n uy).run P w.drew = .ok news.toArray w.drew)

theorem run_append {t u ty e n sLen sCap : Nat} {i : TypeInfo} {z : Value} {d : TypeDesc} {base : Option Addr} {uy : Value} {news olds : List Value} (ht : P.underlying t = some (.slice e)) (hu : P.underlying u = some d) (hi : P.info? e = some i) (hz : i.zero = some z)
    (hzs : z.cells.size = i.size) (hb : i.bytes ≤ 65536) (hn : sLen + n ≤ lim) (hsrc : Src P w z i.size d uy n news)
    (hold : (Builtin.firstCells i.size sLen (.slice base sLen sCap)).run P w.drew = .ok olds.toArray w.drew) :
    (sLen + n ≤ sCap → ∀ w', (match base with
      | some ad => (storeCells (ad.add (sLen * i.size)) news).run P w
      | none => .ok () w) = .ok () w' → (Builtin.append_ #[t, u] ty #[.slice base sLen sCap, uy]).run P w = .ok (.slice base (sLen + n) sCap) w') ∧
    (¬ sLen + n ≤ sCap → (Builtin.append_ #[t, u] ty #[.slice base sLen sCap, uy]).run P w =
      .ok (.slice (some ⟨w.heap.size, 0, none⟩) (sLen + n) (grownCap w (sLen + n) sCap e)) (w.drew.alloc (.cells (olds.toArray ++ news.toArray ++ Builtin.zeroCells z.cells (grownCap w (sLen + n) sCap e - (sLen + n))) e))) := by
  have hlim : lim = 2147483648 := rfl
  have h63 : ¬ (9223372036854775807 < ((sLen : Int) + (n : Int))) := by omega
  have hzero : n * i.size = 0 → Builtin.zeroCells z.cells n = #[] := fun h => by
    simp [Builtin.zeroCells, hzs, h]
  have hfit : ¬ sLen + n ≤ sCap → ¬ (281474976710656 < Builtin.nextslicecap (sLen + n) sCap * i.bytes) := fun hg => by
    have h1 : (sLen + n) * i.bytes ≤ lim * 65536 := Nat.mul_le_mul hn hb
    have := growslice_fits (need := sLen + n) (old := sCap) (bytes := i.bytes) (by omega) (by rw [hlim] at h1; omega)
    omega
  rcases hsrc with ⟨⟨kd, rfl⟩, ⟨ky, rfl⟩, hnl, rfl⟩ | ⟨hd, hlen, hfc, hfc2⟩
  · have hw : IntKind.i64.wrap (n : Int) = n := by simp [IntKind.wrap, IntKind.bits, IntKind.signed]; omega
    have hby : ¬ (281474976710656 < (n : Int) * (i.bytes : Int)) := by
      have h1 : n * i.bytes ≤ lim * 65536 := Nat.mul_le_mul hnl hb
      rw [hlim] at h1
      have : ((n * i.bytes : Nat) : Int) = (n : Int) * (i.bytes : Int) := by push_cast; rfl
      omega
    have hn0 : ¬ ((n : Int) < 0) := by omega
    have hai : ∀ w : World, (Go.asInt (.int ky n)).run P w = .ok (n : Int) w := fun _ => rfl
    have happ : ∀ w : World, ((if n * i.size = 0 then pure #[] else do pure (Builtin.zeroCells (← zeroValue e).cells n)) : Sem (Array Value)).run P w = .ok (Builtin.zeroCells z.cells n) w := fun w => by
      by_cases h0 : n * i.size = 0
      · rw [if_pos h0, hzero h0]; rfl
      · rw [if_neg h0]; simp [run_zero w hi hz]
    refine ⟨fun hle w' hst => ?_, fun hg => ?_⟩
    · by_cases h0 : n * i.size = 0
      · rw [hzero h0] at hst
        cases base with
        | none => simp [Builtin.append_, run_underlying ht, run_underlying hu, sizeOf, typeInfo, zeroValue, hi, hz, hai, hw, hn0, hby, hle, h0]; simpa using hst
        | some ad =>
          have hst' : (storeCells (ad.add (sLen * i.size)) []).run P w = .ok () w' := by simpa using hst
          simp [Builtin.append_, run_underlying ht, run_underlying hu, sizeOf, typeInfo, zeroValue, hi, hz, hai, hw, hn0, hby, hle, h0, hst']
      · cases base with
        | none => simp [Builtin.append_, run_underlying ht, run_underlying hu, sizeOf, typeInfo, zeroValue, hi, hz, hai, hw, hn0, hby, hle, h0]; simpa using hst
        | some ad => simp [Builtin.append_, run_underlying ht, run_underlying hu, sizeOf, typeInfo, zeroValue, hi, hz, hai, hw, hn0, hby, hle, h0, hst]
    · have hf := hfit hg
      by_cases h0 : n * i.size = 0
      · have hz0 := hzero h0
        simp [Builtin.append_, run_underlying ht, run_underlying hu, sizeOf, typeInfo, zeroValue, hi, hz, hai, hw, hn0, hby, hg, h0, h63, hf, Question.forced, hold, newRow, grownCap, hz0]
      · simp [Builtin.append_, run_underlying ht, run_underlying hu, sizeOf, typeInfo, zeroValue, hi, hz, hai, hw, hn0, hby, hg, h0, h63, hf, Question.forced, hold, newRow, grownCap]
  · have hd' : (d matches .int _) = false := by
      cases d <;> first | rfl | exact absurd rfl (hd _)
    refine ⟨fun hle w' hst => ?_, fun hg => ?_⟩
    · cases base with
      | none => simp [Builtin.append_, run_underlying ht, run_underlying hu, sizeOf, typeInfo, hi, hd', hlen, hle, hfc]; simpa using hst
      | some ad => simp [Builtin.append_, run_underlying ht, run_underlying hu, sizeOf, typeInfo, hi, hd', hlen, hle, hfc, hst]
    · have hf := hfit hg
      simp [Builtin.append_, run_underlying ht, run_underlying hu, sizeOf, typeInfo, zeroValue, hi, hz, hd', hlen, hg, h63, hf, Question.forced, hold, hfc2, newRow, grownCap]
      congr 2
      apply Array.ext'
      simp [List.append_assoc]

theorem src_slice {z : Value} {k n : Nat} {d : TypeDesc} {A : Option Addr} {c : Nat} {rows : List (List V)} {O : List Nat} (hd : ∀ kk, d ≠ .int kk) (hun : ∀ r ∈ rows, r.length = k) (hA : rows ≠ [] → ∃ b o, A = some ⟨b, o, none⟩ ∧ Mem S w b o rows.flatten O) (hO : rows = [] → O = []) :
    ∃ news, Src P w z k d (.slice A rows.length c) rows.length news ∧ Reps S w news rows.flatten O ∧ (∀ v ∈ news, v.oneCell' = true) ∧
      ((Builtin.firstCells k rows.length (.slice A rows.length c)).run P w = .ok news.toArray w ∧ (Builtin.firstCells k rows.length (.slice A rows.length c)).run P w.drew = .ok news.toArray w.drew) := by
  by_cases hr : rows = []
  · subst hr
    have h0 : ∀ w : World, (Builtin.firstCells k 0 (.slice A 0 c)).run P w = .ok #[] w := fun w => by
      cases A with
      | none => rfl
      | some ad => simp [Builtin.firstCells]; rfl
    rw [hO rfl]
    exact ⟨[], .inr ⟨hd, fun _ => rfl, h0 w, h0 w.drew⟩, .nil, by simp, h0 w, h0 w.drew⟩
  · obtain ⟨b, o, rfl, hm⟩ := hA hr
    obtain ⟨vs, g1, g2, g3⟩ := hm.vals
    have hvl : vs.length = rows.length * k := by rw [g1.len, flatten_length hun]
    have h1 := run_firstCells_some (P := P) w k rows.length ⟨b, o, none⟩ rows.length c vs hvl fun j v hj => by rw [add_none]; exact g3 j v hj
    have h2 := run_firstCells_some (P := P) w.drew k rows.length ⟨b, o, none⟩ rows.length c vs hvl fun j v hj => by rw [add_none]; exact g3 j v hj
    exact ⟨vs, .inr ⟨hd, fun _ => rfl, h1, h2⟩, g1, g2, h1, h2⟩

/-- What append's second argument has to be. -/
def SrcOut (E : Env) (P : Program) (r : R) (G : List (List V) → List V → Option R) (S : Nat → Prop) (who : Nat → Option Nat) (w : World) (tm : Array Value) (z : Value) (k u : Nat) (uy : Value) (nest : Bool) : Prop :=
  ∃ rows σ' S' who' O news d, G rows σ' = some r ∧ P.underlying u = some d ∧ Src P w z k d uy rows.length news ∧ Rel E S' who' w tm σ' ∧ Step S who w S' who' w ∧ (∀ r ∈ rows, r.length = k) ∧
    Reps S' w news rows.flatten O ∧ (∀ v ∈ news, v.oneCell' = true) ∧ Loose S' who who' O ∧ (nest = false → O = [])

theorem appendSrc_sem {k u : Nat} {ez : List V} {nest : Bool} {z : Value} {y : Operand} {G : List (List V) → List V → Option R} (hE : EnvOK P E) (h : Rel E S who w a.tmps σ) (hz : z.cells.size = k) (hpos : 0 < k) (hez : ez = z.cells.toList.map ofScalar)
    (h0 : ∀ c ∈ z.cells.toList, c.oneCell' = true) (hs : appendSrc k ez nest (kindOf (E.tys u)) σ (opnd E σ y) G = some r) : SrcOut E P r G S who w a.tmps z k u (a.eval y) nest := by
  obtain ⟨hr, hl⟩ := opnd_spec h y
  have loose0 : Loose S who who [] := ⟨by simp, by simp⟩
  -- a slice that is only read
  have rd : ∀ {d : TypeDesc}, P.underlying u = some d → (∀ kk, d ≠ .int kk) → reads k σ (opnd E σ y) (fun rows => G rows σ) = some r → SrcOut E P r G S who w a.tmps z k u (a.eval y) nest := by
    intro d hd hdi hs
    obtain ⟨rows, hs, A, c, hu2, hun, hA⟩ := reads_sem h hr hl hs
    obtain ⟨news, g1, g2, g3, _⟩ := src_slice (P := P) (z := z) (n := 0) (c := c) (S := S) (w := w) (O := []) hdi hun (fun hr => (hA hr).2) (fun _ => rfl)
    exact ⟨rows, σ, S, who, [], news, d, hs, hd, by rw [hu2]; exact g1, h, Step.refl _ _ _, hun, g2, g3, loose0, fun _ => rfl⟩
  unfold appendSrc at hs
  split at hs
  · -- zeros
    rename_i kk hk
    have hd := kind_int hE hk
    split at hs
    · rename_i k2 n hy
      split at hs
      · rename_i hn
        rw [hy] at hr
        generalize a.eval y = uy at *
        cases hr
        obtain ⟨m, rfl⟩ := Int.eq_ofNat_of_zero_le hn.1
        simp only [Int.toNat_natCast] at hs
        have hz1 := zeros_reps (S := S) (w := w) (n := m * k) hz hpos
        have hezl : ez.length = k := by rw [hez]; simp [hz]
        obtain ⟨f1, f2⟩ := replicate_flatten ez hezl m
        have hflat : (List.range (m * k)).map (fun j => (z.cells.toList.map ofScalar).getD (j % k) V.undef) = (List.replicate m ez).flatten := by
          apply List.ext_getElem?
          intro j
          by_cases hj : j < m * k
          · have := f2 j hj
            rw [hez] at this
            simp only [List.getElem?_map, List.getElem?_range hj, Option.map_some]
            rw [List.getElem?_eq_getElem (by rw [f1]; exact hj)]
            rw [List.getD_eq_getElem?_getD (l := (List.replicate m (z.cells.toList.map ofScalar)).flatten), List.getElem?_eq_getElem (by rw [← hez, f1]; exact hj)] at this
            subst hez
            exact congrArg some this.symm
          · rw [List.getElem?_eq_none (by simp; omega), List.getElem?_eq_none (by rw [f1]; omega)]
        have e2 : (Builtin.zeroCells z.cells m).toList = ((Array.range (m * k)).map (fun j => z.cells[j % z.cells.size]!)).toList := by
          unfold Builtin.zeroCells; rw [hz]
        refine ⟨List.replicate m ez, σ, S, who, [], (Builtin.zeroCells z.cells m).toList, .int kk, hs, hd, .inl ⟨⟨_, rfl⟩, ⟨k2, by simp⟩, ?_, by simp⟩, h, Step.refl _ _ _, ?_, ?_, ?_, loose0, fun _ => rfl⟩
        · simp; have := hn.2; omega
        · intro r hr; rw [List.eq_of_mem_replicate hr]; exact hezl
        · rw [e2, ← hflat]; exact hz1.1
        · rw [e2]; exact hz1.2 h0
      · cases hs
    · cases hs
  · -- bytes of a string
    rename_i hk
    have hd := kind_str hE hk
    split at hs
    · rename_i bs hy
      split at hs
      · rename_i hk1; subst hk1
        rw [hy] at hr
        generalize a.eval y = uy at *
        cases hr with
        | str s =>
          have hlen : (bytesV s.data.toList).length = s.size := by simp [bytesV]
          have hfc : ∀ w : World, (Builtin.firstCells 1 s.size (.string s)).run P w = .ok (s.data.toList.map fun b => Value.int .u8 b.toNat).toArray w := fun w => by
            have he : (s.extract 0 s.size).data.map (fun b : UInt8 => Value.int .u8 b.toNat) = (s.data.toList.map fun b => Value.int .u8 b.toNat).toArray := by
              rw [ByteArray.data_extract]
              have : s.data.extract 0 s.size = s.data := by
                have : s.size = s.data.size := rfl
                rw [this, Array.extract_size]
              rw [this]
              apply Array.ext'; simp
            simp only [Builtin.firstCells, Sem.run_pure, he]
          refine ⟨bytesV s.data.toList, σ, S, who, [], s.data.toList.map fun b => Value.int .u8 b.toNat, .string, hs, hd, .inr ⟨by simp, fun _ => by rw [hlen]; rfl, by rw [hlen]; exact hfc w, by rw [hlen]; exact hfc w.drew⟩, h, Step.refl _ _ _, ?_, bytesV_reps _, ?_, loose0, fun _ => rfl⟩
          · intro r hr; obtain ⟨b, _, rfl⟩ := List.mem_map.1 hr; rfl
          · intro v hv; obtain ⟨b, _, rfl⟩ := List.mem_map.1 hv; rfl
      · cases hs
    · cases hs
  · -- slices
    rename_i k2 b2 hk
    obtain ⟨ti, e, ie, z2, _, hd, _⟩ := kind_slice hE hk
    have hdi : ∀ kk, TypeDesc.slice e ≠ .int kk := by simp
    cases nest with
    | false => exact rd hd hdi hs
    | true =>
      simp only [cond_true] at hs
      split at hs
      · rename_i r0 p hy
        split at hs
        · rw [hy] at hl
          rcases place_sem hl hs with ⟨n, rows, X, hK, hf, hX⟩ | ⟨f, rows, hK, hf⟩
          · obtain ⟨OX, who', g1, g2, g3, g4, g5⟩ := take_sem h hf (by rcases hX with rfl | ⟨rfl, _⟩ <;> simp)
            have hown : Rep S w (a.eval y) (.own n k rows) OX := by
              rcases hX with rfl | ⟨rfl, rfl, rfl⟩
              · exact g1
              · generalize a.eval y = uy at g1 ⊢
                cases g1; exact .own0 _ _ _
            generalize a.eval y = uy at *
            cases hown with
            | own0 A _ _ =>
              obtain ⟨news, q1, q2, q3, _⟩ := src_slice (P := P) (z := z) (n := 0) (k := k) (c := 0) (A := A) (S := S) (w := w) (O := []) (rows := []) hdi (by simp) (fun h => absurd rfl h) (fun _ => rfl)
              exact ⟨[], _, S, who', [], news, _, hK, hd, q1, g4, g5, by simp, q2, q3, ⟨by simp, by simp⟩, fun _ => rfl⟩
            | @own b o c _ _ _ O m1 m2 m3 m4 m5 m6 =>
              have hOnil : rows = [] → O = [] := fun e => by
                subst e
                have : ∀ {b o : Nat} {xs : List V} {O : List Nat}, Mem S w b o xs O → xs = [] → O = [] := by
                  intro b o xs O hm e
                  cases hm with
                  | nil => rfl
                  | cons => cases e
                exact this m6 rfl
              obtain ⟨news, q1, q2, q3, _⟩ := src_slice (P := P) (z := z) (n := 0) (c := c) (S := S) (w := w) hdi m2 (fun _ => ⟨b, o, rfl, m6⟩) hOnil
              simp only [List.nodup_cons] at g2
              exact ⟨rows, _, S, who', O, news, _, hK, hd, q1, g4, g5, m2, q2, q3, ⟨g2.2, fun b' hb' => ⟨(g3 b' (by simp [hb'])).2.1, (g3 b' (by simp [hb'])).2.2, (g3 b' (by simp [hb'])).1⟩⟩, fun h => by cases h⟩
          · obtain ⟨O, hX, _⟩ := hf.rep h
            obtain ⟨A, c, hu2, hun, hA⟩ := RowsIn.of_sl hX
            obtain ⟨news, g1, g2, g3, _⟩ := src_slice (P := P) (z := z) (n := 0) (c := c) (S := S) (w := w) (O := []) hdi hun (fun hr => (hA hr).2) (fun _ => rfl)
            exact ⟨rows, σ, S, who, [], news, _, hK, hd, by rw [hu2]; exact g1, h, Step.refl _ _ _, hun, g2, g3, loose0, fun _ => rfl⟩
        · exact rd hd hdi hs
      · exact rd hd hdi hs
  · cases hs

end
end Go.Zv
