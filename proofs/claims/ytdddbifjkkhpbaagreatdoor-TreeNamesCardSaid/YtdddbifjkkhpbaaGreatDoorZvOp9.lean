/- Zv: the soundness of operations: slices of slices, of strings and of arrays. No condition. -/
import Derived.Test.YtdddbifjkkhpbaaGreatDoorZvOp8
namespace Go.Zv
open Go

section
variable {R : Type} {P : Program} {E : Env} {r : R} {K : List V → Option R} {S S' : Nat → Prop} {who who' : Nat → Option Nat} {w w' : World} {a : Act} {dst : Option Nat} {σ σ' : List V}

theorem flatten_take {k : Nat} : ∀ {rows : List (List V)} (h : Nat), (∀ r ∈ rows, r.length = k) → (rows.take h).flatten = rows.flatten.take (h * k)
  | [], h, _ => by simp
  | row :: rows, 0, _ => by simp
  | row :: rows, h + 1, hl => by
    have h1 := hl row (by simp)
    have e : (h + 1) * k = k + h * k := by rw [Nat.succ_mul, Nat.add_comm]
    rw [List.take_succ_cons, List.flatten_cons, List.flatten_cons, flatten_take h fun r hr => hl r (by simp [hr]), List.take_append, e, List.take_of_length_le (l := row) (by omega), h1, Nat.add_sub_cancel_left]
theorem flatten_drop {k : Nat} : ∀ {rows : List (List V)} (h : Nat), (∀ r ∈ rows, r.length = k) → (rows.drop h).flatten = rows.flatten.drop (h * k)
  | [], h, _ => by simp
  | row :: rows, 0, _ => by simp
  | row :: rows, h + 1, hl => by
    have h1 := hl row (by simp)
    have e : (h + 1) * k = k + h * k := by rw [Nat.succ_mul, Nat.add_comm]
    rw [List.drop_succ_cons, List.flatten_cons, flatten_drop h fun r hr => hl r (by simp [hr]), List.drop_append, e, List.drop_eq_nil_of_le (as := row) (by omega), h1, Nat.add_sub_cancel_left, List.nil_append]

theorem bounds_run {isSlice : Bool} {len cap : Nat} {lo hi mx : Option Value} {l h m : Nat} (hm : mx = none ∧ m = cap ∨ ∃ k, mx = some (.int k m) ∧ m ≤ cap) (hh : hi = none ∧ h = len ∧ mx = none ∨ ∃ k, hi = some (.int k h) ∧ h ≤ m)
    (hl : lo = none ∧ l = 0 ∨ ∃ k, lo = some (.int k l) ∧ l ≤ h) : (Instr.sliceBounds isSlice len cap lo hi mx).run P w = .ok (l, h, m) w := by
  have one : ∀ {i y : Nat} (k : IntKind) (c : BoundsCode) (w : World), i ≤ y → (Instr.sliceBound (.int k i) y c).run P w = .ok i w := fun {i y} k c w hle => by
    have : (0 : Int) ≤ i ∧ (i : Int) ≤ y := ⟨by omega, by omega⟩
    simp only [Instr.sliceBound, asIntOf, Sem.run_bind, Sem.run_pure, Result.andThen_ok, this, and_self, if_true, Int.toNat_natCast]
  unfold Instr.sliceBounds
  rcases hm with ⟨rfl, rfl⟩ | ⟨km, rfl, hm⟩ <;> rcases hh with ⟨rfl, rfl, hx⟩ | ⟨kh, rfl, hh⟩ <;> rcases hl with ⟨rfl, rfl⟩ | ⟨kl, rfl, hl⟩ <;> first
    | cases hx
    | rfl
    | skip
  all_goals first
    | (simp [one km _ w hm, one kh _ w hh, one kl _ w hl]; done)
    | (simp [one km _ w hm, one kh _ w hh]; done)
    | (simp [one kh _ w hh, one kl _ w hl]; done)
    | (simp [one kh _ w hh]; done)
    | (simp [one kl _ w hl]; done)
    | (simp; done)

/-- A bound of a slice expression. -/
theorem bnd_sem {o : Option Operand} {d : Int} {G : Int → Option R} (h : Rel E S who w a.tmps σ) (hs : bnd (o.map (opnd E σ)) d G = some r) :
    ∃ i, G i = some r ∧ (o.map a.eval = none ∧ i = d ∨ ∃ k, o.map a.eval = some (.int k i)) := by
  cases o with
  | none => exact ⟨d, hs, .inl ⟨rfl, rfl⟩⟩
  | some x =>
    simp only [bnd, Option.map_some] at hs
    cases e : idxOf (opnd E σ x) with
    | none => rw [e] at hs; cases hs
    | some i =>
      rw [e] at hs
      obtain ⟨k, hk⟩ := idx_sem (opnd_spec h x).1 e
      exact ⟨i, hs, .inr ⟨k, by rw [Option.map_some, hk]⟩⟩

/-- Some rows of rows. -/
theorem cutRows {k l hh m : Nat} {f : Bool} {rows : List (List V)} {A : Option Addr} (hl : l ≤ hh) (hh' : hh ≤ rows.length) (hm : hh ≤ m) (hf : f = true → m = hh) (hu : ∀ r ∈ rows, r.length = k)
    (hA : rows ≠ [] → 0 < k ∧ ∃ b o, A = some ⟨b, o, none⟩ ∧ S b ∧ Mem S w b o rows.flatten []) :
    Rep S w (.slice (if m = l then A else A.map (·.add (l * k))) (hh - l) (m - l)) (.sl k f ((rows.take hh).drop l)) [] := by
  by_cases he : l = hh
  · subst he
    have : (rows.take l).drop l = [] := by simp
    rw [this, Nat.sub_self]
    exact .sl0 _ _ _ _ (fun h => by rw [hf h]; omega)
  · have hlt : l < hh := by omega
    have hne : rows ≠ [] := by intro e; subst e; simp at hh'; omega
    obtain ⟨hk, b, o, rfl, hb, hmem⟩ := hA hne
    have hml : ¬ m = l := by omega
    rw [if_neg hml]
    simp only [Option.map_some, add_none]
    have hlen : ((rows.take hh).drop l).length = hh - l := by simp; omega
    obtain ⟨O1, O2, O3, e, _, m2, _⟩ := hmem.sub (l * k) ((hh - l) * k) (by
      rw [flatten_length hu, ← Nat.add_mul]
      exact Nat.mul_le_mul_right _ (by omega))
    have : O2 = [] := by simp at e; simp [e]
    subst this
    have hflat : ((rows.take hh).drop l).flatten = (rows.flatten.drop (l * k)).take ((hh - l) * k) := by
      rw [flatten_drop l (fun r hr => hu r (List.mem_of_mem_take hr)), flatten_take hh hu, List.drop_take, ← Nat.sub_mul]
    have := Rep.sl (S := S) (w := w) (b := b) (o := o + l * k) (c := m - l) (f := f) hk (rows := (rows.take hh).drop l) (by intro e; rw [e] at hlen; simp at hlen; omega)
      (fun r hr => hu r (List.mem_of_mem_take (List.mem_of_mem_drop hr))) hb ⟨by omega, fun h => by rw [hlen, hf h]⟩ (by rw [hflat]; exact m2)
    rw [hlen] at this
    exact this

theorem cutAt_sem {k cap : Nat} {isSlice : Bool} {rows : List (List V)} {lo hi mx : Option Operand} {A : Option Addr} {G : V → List V → Option R} (h : Rel E S who w a.tmps σ) (hs : cutAt k rows (lo.map (opnd E σ)) (hi.map (opnd E σ)) (mx.map (opnd E σ)) σ' G = some r)
    (hu : ∀ r ∈ rows, r.length = k) (hcap : rows.length ≤ cap) (hA : rows ≠ [] → 0 < k ∧ ∃ b o, A = some ⟨b, o, none⟩ ∧ S' b ∧ Mem S' w b o rows.flatten []) :
    ∃ v l hh m, G v σ' = some r ∧ linkFree v = true ∧ (Instr.sliceBounds isSlice rows.length cap (lo.map a.eval) (hi.map a.eval) (mx.map a.eval)).run P w = .ok (l, hh, m) w ∧
      Rep S' w (.slice (if m = l then A else A.map (·.add (l * k))) (hh - l) (m - l)) v [] := by
  unfold cutAt at hs
  obtain ⟨ih, hs, eh⟩ := bnd_sem h hs
  obtain ⟨il, hs, el⟩ := bnd_sem h hs
  split at hs
  · rename_i hh
    split at hs
    · rename_i hl
      obtain ⟨nh, rfl⟩ := Int.eq_ofNat_of_zero_le hh.1
      obtain ⟨nl, rfl⟩ := Int.eq_ofNat_of_zero_le hl.1
      simp only [Int.toNat_natCast] at hs
      have h1 : nh ≤ rows.length := by omega
      have h2 : nl ≤ nh := by omega
      have el' : lo.map a.eval = none ∧ nl = 0 ∨ ∃ k, lo.map a.eval = some (.int k nl) ∧ nl ≤ nh := by
        rcases el with ⟨e1, e2⟩ | ⟨k, e1⟩
        · exact .inl ⟨e1, by omega⟩
        · exact .inr ⟨k, e1, h2⟩
      cases mx with
      | none =>
        simp only [Option.map_none] at hs ⊢
        refine ⟨_, nl, nh, cap, hs, rfl, bounds_run (.inl ⟨rfl, rfl⟩) ?_ el', cutRows h2 h1 (by omega) (by simp) hu hA⟩
        rcases eh with ⟨e1, e2⟩ | ⟨k, e1⟩
        · exact .inl ⟨e1, by omega, rfl⟩
        · exact .inr ⟨k, e1, by omega⟩
      | some mo =>
        simp only [Option.map_some] at hs ⊢
        cases hi with
        | none => simp at hs
        | some ho =>
          simp only [Option.map_some] at hs
          cases e : idxOf (opnd E σ mo) with
          | none => rw [e] at hs; cases hs
          | some im =>
            rw [e] at hs
            simp only [Option.bind_some] at hs
            split at hs
            · rename_i hm
              subst hm
              obtain ⟨km, hkm⟩ := idx_sem (opnd_spec h mo).1 e
              refine ⟨_, nl, nh, nh, hs, rfl, bounds_run (.inr ⟨km, by rw [hkm], by omega⟩) ?_ el', cutRows h2 h1 (by omega) (fun _ => rfl) hu hA⟩
              rcases eh with ⟨e1, e2⟩ | ⟨k, e1⟩
              · cases e1
              · exact .inr ⟨k, e1, Nat.le_refl _⟩
            · cases hs
    · cases hs
  · cases hs

theorem slice_out {t : Nat} {nest : Bool} {x : Operand} {lo hi mx : Option Operand} (hE : EnvOK P E) (h : Rel E S who w a.tmps σ)
    (hs : evSlice E nest (E.tys t) (opnd E σ x) (lo.map (opnd E σ)) (hi.map (opnd E σ)) (mx.map (opnd E σ)) σ (fun v σ' => K (put dst v σ')) = some r) :
    OutV E r K S who w a dst ((Instr.sliceAt t (a.eval x) (lo.map a.eval) (hi.map a.eval) (mx.map a.eval)).run P w) := by
  obtain ⟨hr, hl⟩ := opnd_spec h x
  have hp : Rep S w (a.eval x) (opnd E σ x) [] := hr
  unfold evSlice at hs
  split at hs
  · -- strings
    rename_i bs hk hx
    rw [hx] at hr
    have hd := kind_str hE hk
    cases mx with
    | some _ => simp at hs
    | none =>
      simp only [Option.map_none] at hs ⊢
      generalize hu : a.eval x = u at *
      cases hr with
      | str s =>
        obtain ⟨ih, hs, eh⟩ := bnd_sem h hs
        obtain ⟨il, hs, el⟩ := bnd_sem h hs
        split at hs
        · rename_i hh
          split at hs
          · rename_i hl'
            obtain ⟨nh, rfl⟩ := Int.eq_ofNat_of_zero_le hh.1
            obtain ⟨nl, rfl⟩ := Int.eq_ofNat_of_zero_le hl'.1
            have hsz : s.data.toList.length = s.size := by simp
            have hb : (Instr.sliceBounds false s.size s.size (lo.map a.eval) (hi.map a.eval) none).run P w = .ok (nl, nh, s.size) w := by
              refine bounds_run (.inl ⟨rfl, rfl⟩) ?_ ?_
              · rcases eh with ⟨e1, e2⟩ | ⟨k, e1⟩
                · exact .inl ⟨e1, by omega, rfl⟩
                · exact .inr ⟨k, e1, by omega⟩
              · rcases el with ⟨e1, e2⟩ | ⟨k, e1⟩
                · exact .inl ⟨e1, by omega⟩
                · exact .inr ⟨k, e1, by omega⟩
            simp only [Int.toNat_natCast] at hs
            refine outv_val (u := .string (s.extract nl nh)) (v := .str ((s.data.toList.take nh).drop nl)) ?_ h ?_ trivial hs
            · simp [Instr.sliceAt, Instr.slice, run_under w hd, hb]
            · have := Rep.str (S := S) (w := w) (s.extract nl nh)
              have e : (s.extract nl nh).data.toList = (s.data.toList.take nh).drop nl := by
                rw [ByteArray.data_extract, Array.toList_extract, List.extract_eq_drop_take', List.drop_take]
              rwa [e] at this
          · cases hs
        · cases hs
  · -- slices
    rename_i k bb hk
    obtain ⟨ti, e, ie, z, _, hd, hie, _, hsz, _⟩ := kind_slice hE hk
    obtain ⟨f, rows, σ', S', who', hs, h1, h2, h3⟩ := share_sem h hr hl hs
    have hA : ∃ A c, a.eval x = .slice A rows.length c ∧ (∀ r ∈ rows, r.length = k) ∧ rows.length ≤ c ∧ (rows ≠ [] → 0 < k ∧ ∃ b o, A = some ⟨b, o, none⟩ ∧ S' b ∧ Mem S' w b o rows.flatten []) := by
      generalize a.eval x = u at *
      cases h2 with
      | sl0 A c _ _ _ => exact ⟨A, c, rfl, by simp, by simp, fun h => absurd rfl h⟩
      | sl g1 g2 g3 g4 g5 g6 => exact ⟨_, _, rfl, g3, g5.1, fun _ => ⟨g1, _, _, rfl, g4, g6⟩⟩
    obtain ⟨A, c, hu, hun, hcap, hA⟩ := hA
    obtain ⟨v, l, hh, m, g1, g2, g3, g4⟩ := cutAt_sem (P := P) (isSlice := true) h hs hun hcap hA
    refine outv_put ?_ h1 h3 g4 (by simp) (by simp) (g4.link g2) g1
    rw [hu]
    simp [Instr.sliceAt, Instr.slice, run_under w hd, g3, run_sizeOf w hie, hsz]
  · -- arrays that are immutable
    rename_i n k e cells off hk hx
    obtain ⟨hd, hc, hpos, ie, hie⟩ := kind_arr hE hk
    rw [cellsOf_info hie] at hc
    split at hs
    · rename_i hle
      rw [hx] at hr
      generalize hu : a.eval x = u at *
      cases hr with
      | @iptr b o _ ad _ hSb ha hm =>
        subst ha
        obtain ⟨O1, O2, O3, e', _, m2, _⟩ := hm.sub off (n * k) hle
        have : O2 = [] := by simp at e'; simp [e']
        subst this
        obtain ⟨c1, c2, c3⟩ := chunks_flatten (k := k) (n := n) (cs := (cells.drop off).take (n * k)) (by simp; omega)
        obtain ⟨v, l, hh, m, g1, g2, g3, g4⟩ := cutAt_sem (P := P) (isSlice := false) (A := some ⟨b, o + off, none⟩) (cap := n) h hs c2 (by rw [c3]; exact Nat.le_refl _) (fun _ => ⟨hpos, b, o + off, rfl, hSb, by rw [c1]; exact m2⟩)
        rw [c3] at g3
        refine outv_val ?_ h g4 (g4.link g2) g1
        simp only [Instr.sliceAt, Sem.run_bind, run_under w hd, Result.andThen_ok, Instr.sureAddr, Sem.run_pure, g3, run_sizeOf w hie, hc, Option.map_some]
        congr 2
        split <;> rfl
    · cases hs
  · -- arrays in a box
    rename_i n k e r0 off hk hx
    obtain ⟨hd, hc, hpos, ie, hie⟩ := kind_arr hE hk
    rw [cellsOf_info hie] at hc
    rw [hx] at hl
    obtain ⟨q, i, j, c, X, b, o, e2, hf, hb, hu⟩ := hl
    have hq : q = [] ∧ i = 0 ∧ j = off := by
      cases q with
      | nil => simp at e2; exact ⟨rfl, e2.1.symm, e2.2.symm⟩
      | cons z q => simp at e2
    obtain ⟨rfl, rfl, rfl⟩ := hq
    split at hs
    · rename_i cells hg
      obtain ⟨rfl, rfl⟩ : o = 0 ∧ c = .pointer (some ⟨b, 0, none⟩) := by
        have hX := hf.get
        simp only [getP] at hX
        rw [hg] at hX
        subst hX
        cases hb with
        | box => exact ⟨rfl, rfl⟩
      have hc0 : a.tmps.getD r0 undef = .pointer (some ⟨b, 0, none⟩) := by
        generalize a.tmps.getD r0 undef = c0 at hf ⊢
        generalize gt σ r0 = g0 at hf
        generalize hq : ([] : Path) = q0 at hf
        cases hf with
        | nil => rfl
        | _ => cases hq
      rw [Nat.zero_add] at hu
      cases nest with
      | true =>
        simp only [cond_true] at hs
        cases mx with
        | some _ => simp at hs
        | none =>
          simp only [Option.map_none] at hs ⊢
          obtain ⟨ih, hs, eh⟩ := bnd_sem h hs
          obtain ⟨il, hs, el⟩ := bnd_sem h hs
          split at hs
          · rename_i hh
            split at hs
            · rename_i hl'
              split at hs
              · rename_i hk1; subst hk1
                obtain ⟨nh, rfl⟩ := Int.eq_ofNat_of_zero_le hh.1
                obtain ⟨nl, rfl⟩ := Int.eq_ofNat_of_zero_le hl'.1
                have hb' : (Instr.sliceBounds false n n (lo.map a.eval) (hi.map a.eval) none).run P w = .ok (nl, nh, n) w := by
                  refine bounds_run (.inl ⟨rfl, rfl⟩) ?_ ?_
                  · rcases eh with ⟨e1, e2⟩ | ⟨k, e1⟩
                    · exact .inl ⟨e1, by omega, rfl⟩
                    · exact .inr ⟨k, e1, by omega⟩
                  · rcases el with ⟨e1, e2⟩ | ⟨k, e1⟩
                    · exact .inl ⟨e1, by omega⟩
                    · exact .inr ⟨k, e1, by omega⟩
                have hne : ¬ n = nl := by omega
                simp only [Int.toNat_natCast] at hs
                refine outv_val (u := .slice (some ⟨b, j + nl, none⟩) (nh - nl) (n - nl)) ?_ h (.bsl _ _ _ _) ?_ hs
                · rw [hu]
                  simp [Instr.sliceAt, run_under w hd, Instr.sureAddr, hb', run_sizeOf w hie, hc, hne, add_none]
                · refine ⟨[], 0, j + nl, _, .obox cells, b, 0, n - nl, rfl, by rw [hg, hc0]; exact .nil _ _, .box, ?_⟩
                  rw [Nat.zero_add]
                  congr 1
                  omega
              · cases hs
            · cases hs
          · cases hs
      | false =>
        simp only [cond_false] at hs
        cases hgood : goodCells (shareCells cells) with
        | false => rw [hgood] at hs; cases hs
        | true =>
          rw [hgood] at hs
          simp only [cond_true] at hs
          split at hs
          · rename_i hle
            obtain ⟨b', S', who', g1, g2, g3, g4, g5⟩ := freezeBox_sem h hg hgood
            rw [hc0] at g1
            cases g1
            have hlen : (stripAll (shareCells cells)).length = cells.length := by rw [strip_len, shareCells_eq]; simp
            obtain ⟨O1, O2, O3, e', _, m2, _⟩ := g3.sub j (n * k) (by rw [hlen]; exact hle)
            have : O2 = [] := by simp at e'; simp [e']
            subst this
            rw [Nat.zero_add] at m2
            obtain ⟨c1, c2, c3⟩ := chunks_flatten (k := k) (n := n) (cs := ((stripAll (shareCells cells)).drop j).take (n * k)) (by simp only [List.length_take, List.length_drop, hlen]; omega)
            obtain ⟨v, l, hh, m, g6, g7, g8, g9⟩ := cutAt_sem (P := P) (isSlice := false) (A := some ⟨b, j, none⟩) (cap := n) h hs c2 (by rw [c3]; exact Nat.le_refl _) (fun _ => ⟨hpos, b, j, rfl, g2, by rw [c1]; exact m2⟩)
            rw [c3] at g8
            refine outv_put ?_ g4 g5 g9 (by simp) (by simp) (g9.link g7) g6
            rw [hu]
            simp only [Instr.sliceAt, Sem.run_bind, run_under w hd, Result.andThen_ok, Instr.sureAddr, Sem.run_pure, g8, run_sizeOf w hie, hc, Option.map_some]
            congr 2
            split <;> rfl
          · cases hs
    · cases hs
  · cases hs

end
end Go.Zv
