/- Zv: the soundness of operations: len, min, max, copy. No condition. -/
import Derived.Test.YtdddbifjkkhpbaaGreatDoorZvOp9
namespace Go.Zv
open Go

section
variable {R : Type} {P : Program} {E : Env} {r : R} {K : List V → Option R} {S S' : Nat → Prop} {who who' : Nat → Option Nat} {w w' : World} {a : Act} {dst : Option Nat} {σ σ' : List V}

theorem slen_sem {k : Nat} {v : V} {u : Value} {tm : Array Value} {G : Nat → Option R} (h : Rel E S who w tm σ) (hr : Rep S w u v []) (hl : Link w tm σ u v) (hs : slen k σ v G = some r) :
    ∃ n A c, G n = some r ∧ u = .slice A n c := by
  unfold slen at hs
  split at hs
  · split at hs
    · cases hr <;> exact ⟨_, _, _, hs, rfl⟩
    · cases hs
  · cases hr; exact ⟨_, _, _, hs, rfl⟩
  · rcases place_sem hl hs with ⟨n, rows, X, hK, hf, hX⟩ | ⟨f, rows, hK, hf⟩
    · obtain ⟨O, hO, _⟩ := hf.rep h
      rcases hX with rfl | ⟨rfl, _, rfl⟩
      · cases hO <;> exact ⟨_, _, _, hK, rfl⟩
      · cases hO; exact ⟨_, _, _, hK, rfl⟩
    · obtain ⟨O, hO, _⟩ := hf.rep h
      cases hO <;> exact ⟨_, _, _, hK, rfl⟩
  · cases hs

theorem len_out {t ty : Nat} {ats : List Nat} {x : Operand} (hE : EnvOK P E) (h : Rel E S who w a.tmps σ)
    (hs : (match kindOf (E.tys t) with
    | .arr n _ _ => K (put dst (.int .i64 n) σ)
    | .str => (asStr (opnd E σ x)).bind fun s => K (put dst (.int .i64 s.length) σ)
    | .slice k _ => slen k σ (opnd E σ x) fun n => K (put dst (.int .i64 n) σ)
    | _ => none) = some r) : OutV E r K S who w a dst ((Builtin.len_ (t :: ats).toArray ty #[a.eval x]).run P w) := by
  obtain ⟨hr, hl⟩ := opnd_spec h x
  split at hs
  · rename_i n k e hk
    obtain ⟨hd, hc, hpos, ie, hie⟩ := kind_arr hE hk
    refine outv_val ?_ h (.int .i64 n) trivial hs
    simp [Builtin.len_, run_under w hd, goInt]
  · rename_i hk
    have hd := kind_str hE hk
    cases e : asStr (opnd E σ x) with
    | none => rw [e] at hs; cases hs
    | some s =>
      rw [e] at hs
      simp only [Option.bind_some] at hs
      unfold asStr at e
      split at e
      · rename_i s' hx
        cases e
        rw [hx] at hr
        generalize a.eval x = u at *
        cases hr with
        | str s =>
          refine outv_val (u := goInt s.size) (v := .int .i64 s.data.toList.length) ?_ h (by have := Rep.int (S := S) (w := w) .i64 s.size; simpa [goInt] using this) trivial hs
          simp [Builtin.len_, run_under w hd]
      · cases e
  · rename_i k b hk
    obtain ⟨ti, e, ie, z, _, hd, _⟩ := kind_slice hE hk
    obtain ⟨n, A, c, hK, hu⟩ := slen_sem h hr hl hs
    rw [hu]
    refine outv_val (u := goInt n) ?_ h (.int .i64 n) trivial hK
    simp [Builtin.len_, run_under w hd]
  · cases hs

theorem minmax_sem (mx : Bool) : ∀ {l : List Operand} {v v' : V} {u : Value}, Rel E S who w a.tmps σ → Rep S w u v [] → minmax mx v (l.map (opnd E σ)) = some v' →
    ∃ k n, v' = .int k n ∧ ((l.map a.eval).foldlM (cond mx Builtin.max2 Builtin.min2) u).run P w = .ok (.int k n) w
  | [], v, v', u, _, hr, hs => by
    cases v <;> simp [minmax] at hs
    subst hs
    cases hr
    exact ⟨_, _, rfl, rfl⟩
  | x :: l, v, v', u, h, hr, hs => by
    simp only [List.map_cons] at hs
    unfold minmax at hs
    split at hs
    · rename_i he; cases he
    · rename_i k n k' b rest he
      simp only [List.cons.injEq] at he
      obtain ⟨he, rfl⟩ := he
      split at hs
      · rename_i hk; subst hk
        have hrx := (opnd_spec h x).1
        rw [he] at hrx
        cases hr
        generalize hu : a.eval x = ux at hrx
        cases hrx
        obtain ⟨k2, n2, e1, e2⟩ := minmax_sem mx (l := l) h (.int k _) hs
        refine ⟨k2, n2, e1, ?_⟩
        rw [List.map_cons, List.foldlM_cons, Sem.run_bind, hu]
        cases mx with
        | true => simpa [Builtin.max2] using e2
        | false => simpa [Builtin.min2] using e2
      · cases hs
    · cases hs

theorem min_out {ats : Array Nat} {ty : Nat} {x : Operand} {rest : List Operand} (h : Rel E S who w a.tmps σ) (hs : ((minmax false (opnd E σ x) (rest.map (opnd E σ))).bind fun v => K (put dst v σ)) = some r) :
    OutV E r K S who w a dst ((Builtin.min_ ats ty ((x :: rest).map a.eval).toArray).run P w) := by
  cases e : minmax false (opnd E σ x) (rest.map (opnd E σ)) with
  | none => rw [e] at hs; cases hs
  | some v =>
    rw [e] at hs
    obtain ⟨k, n, rfl, h2⟩ := minmax_sem (P := P) false h (opnd_spec h x).1 e
    exact outv_val (u := .int k n) (by simpa [Builtin.min_] using h2) h (.int _ _) trivial hs
theorem max_out {ats : Array Nat} {ty : Nat} {x : Operand} {rest : List Operand} (h : Rel E S who w a.tmps σ) (hs : ((minmax true (opnd E σ x) (rest.map (opnd E σ))).bind fun v => K (put dst v σ)) = some r) :
    OutV E r K S who w a dst ((Builtin.max_ ats ty ((x :: rest).map a.eval).toArray).run P w) := by
  cases e : minmax true (opnd E σ x) (rest.map (opnd E σ)) with
  | none => rw [e] at hs; cases hs
  | some v =>
    rw [e] at hs
    obtain ⟨k, n, rfl, h2⟩ := minmax_sem (P := P) true h (opnd_spec h x).1 e
    exact outv_val (u := .int k n) (by simpa [Builtin.max_] using h2) h (.int _ _) trivial hs

/-- The values in a row. -/
theorem Mem.vals {b : Nat} : ∀ {o : Nat} {xs : List V} {O : List Nat}, Mem S w b o xs O →
    ∃ vs : List Value, Reps S w vs xs O ∧ (∀ v ∈ vs, v.oneCell' = true) ∧ ∀ j v, vs[j]? = some v → w.cell? ⟨b, o + j, none⟩ = some v
  | _, _, _, .nil _ _ => ⟨[], .nil, by simp, by simp⟩
  | o, _, _, .cons (v := v) h1 h0 h2 h3 => by
    obtain ⟨vs, g1, g2, g3⟩ := Mem.vals h3
    refine ⟨v :: vs, .cons h2 g1, by simpa [h0] using g2, fun j v' hj => ?_⟩
    cases j with
    | zero => simp at hj; subst hj; exact h1
    | succ j =>
      have := g3 j v' (by simpa using hj)
      rw [Nat.add_assoc, Nat.add_comm 1 j] at this
      exact this

theorem goodCells_noOwn : ∀ {us : List Value} {cs : List V} {O : List Nat}, Reps S w us cs O → goodCells cs = true → O = []
  | _, _, _, .nil, _ => rfl
  | _, _, _, .cons h1 h2, hg => by
    simp only [goodCells, List.all_cons, Bool.and_eq_true] at hg
    obtain ⟨p1, p2⟩ := goodCell_plain (by simp only [goodCells, List.all_cons, List.all_nil, Bool.and_true]; exact hg.1)
    rw [h1.plain p1 p2, goodCells_noOwn h2 (by simpa [goodCells] using hg.2)]
    rfl

/-- Bytes copied into a box. -/
theorem copyTo_sem {r0 o b ob m : Nat} {cells cs : List V} {vs : List Value} {O : List Nat} {G : List V → Option R} (h : Rel E S who w a.tmps σ) (hg : gt σ r0 = .obox cells) (hu : a.tmps.getD r0 undef = .pointer (some ⟨b, 0, none⟩))
    (hv : Reps S w vs cs O) (h0 : ∀ v ∈ vs, v.oneCell' = true) (hs : copyTo σ r0 o m cells cs G = some r) :
    cs.length = m ∧ ∃ σ' who' w', (storeCells ⟨b, o, none⟩ vs 0).run P w = .ok () w' ∧ G σ' = some r ∧ Rel E S who' w' a.tmps σ' ∧ Step S who w S who' w' := by
  unfold copyTo at hs
  cases hgood : goodCells cs with
  | false => rw [hgood] at hs; cases hs
  | true =>
    rw [hgood] at hs
    simp only [cond_true] at hs
    split at hs
    · rename_i hle
      have hO := goodCells_noOwn hv hgood
      subst hO
      have hf : Follow w (a.tmps.getD r0 undef) (gt σ r0) [] (.pointer (some ⟨b, 0, none⟩)) (.obox cells) := by rw [hg, hu]; exact .nil _ _
      obtain ⟨w', who', h1, h2, h3, h4, h5, h6⟩ := poke_sem (P := P) h hf (Base.box (b := b) (cells := cells)) hv (by simp) (by simp) h0 (j := o) (by simp only [rowLen]; omega) (fun _ _ _ e _ => by cases e) (sl := cs.any isSliceB) (fun e y hy hs => by
        rw [List.any_eq_false] at e
        exact e y hy (isSliceB_iff.2 hs))
      refine ⟨hle.1, _, who', w', by simpa using h1, hs, by simpa [withCells, setP] using h2, ⟨h4, fun b' _ hn => h5 b' hn, fun _ h => h, fun _ h => .inl h, fun b' hb' => .inl ((h3 b' hb').resolve_right (by simp)), h6⟩⟩
    · cases hs

theorem copyTo_len {r0 o m : Nat} {cells cs : List V} {G : List V → Option R} (hs : copyTo σ r0 o m cells cs G = some r) : cs.length = m := by
  unfold copyTo at hs
  cases hgood : goodCells cs with
  | false => rw [hgood] at hs; cases hs
  | true =>
    rw [hgood] at hs
    simp only [cond_true] at hs
    split at hs
    · rename_i h; exact h.1
    · cases hs

theorem box_at {tm : Array Value} {r0 j n : Nat} {u : Value} {cells : List V} (hl : Link1 w tm σ u (.bsl r0 [(0, j)] n)) (hg : gt σ r0 = .obox cells) :
    ∃ b m, tm.getD r0 undef = .pointer (some ⟨b, 0, none⟩) ∧ u = .slice (some ⟨b, j, none⟩) n m := by
  obtain ⟨q, i, j', c, X, b, o, m, e2, hf, hb, hu⟩ := hl
  have hq : q = [] ∧ i = 0 ∧ j' = j := by
    cases q with
    | nil => simp at e2; exact ⟨rfl, e2.1.symm, e2.2.symm⟩
    | cons z q => simp at e2
  obtain ⟨rfl, rfl, rfl⟩ := hq
  rw [hg] at hf
  generalize tm.getD r0 undef = c0 at hf ⊢
  generalize hq : ([] : Path) = q0 at hf
  cases hf with
  | nil => cases hb with
    | box => exact ⟨b, m, rfl, by simpa using hu⟩
  | _ => cases hq

theorem copy_out {t ty : Nat} {ats : List Nat} {x y : Operand} (hE : EnvOK P E) (h : Rel E S who w a.tmps σ)
    (hs : (match kindOf (E.tys t), opnd E σ x with
    | .slice k _, .bsl r p n => if k = 1 then (match p with
      | [(0, o)] => match gt σ r with
        | .obox cells => match opnd E σ y with
          | .bsl r' p' n' => match p' with
            | [(0, o')] => match gt σ r' with
              | .obox cells' => copyTo σ r o (min n' n) cells ((cells'.drop o').take (min n' n)) fun σ' => K (put dst (.int .i64 (min n' n : Nat)) σ')
              | _ => none
            | _ => none
          | v => reads 1 σ v fun rows => copyTo σ r o (min rows.length n) cells (rows.take (min rows.length n)).flatten fun σ' => K (put dst (.int .i64 (min rows.length n : Nat)) σ')
        | _ => none
      | _ => none) else none
    | _, _ => none) = some r) : OutV E r K S who w a dst ((Builtin.copy_ (t :: ats).toArray ty #[a.eval x, a.eval y]).run P w) := by
  obtain ⟨hrx, hlx⟩ := opnd_spec h x
  obtain ⟨hry, hly⟩ := opnd_spec h y
  split at hs
  · rename_i k bb r0 p n hk hx
    split at hs
    · rename_i hk1; subst hk1
      obtain ⟨ti, e, ie, z, _, hd, hie, _, hsz, _⟩ := kind_slice hE hk
      split at hs
      · rename_i o
        split at hs
        · rename_i cells hg
          rw [hx] at hlx
          obtain ⟨b, mc, hu, hux⟩ := box_at hlx hg
          rw [hux]
          -- the end
          have fin : ∀ {m : Nat} {cs : List V} {vs : List Value} {O : List Nat} {sl : Nat} {A : Option Addr} {c : Nat}, a.eval y = .slice A sl c → m = min sl n → Reps S w vs cs O → (∀ v ∈ vs, v.oneCell' = true) →
              (Builtin.firstCells 1 m (a.eval y)).run P w = .ok vs.toArray w → copyTo σ r0 o m cells cs (fun σ' => K (put dst (.int .i64 (m : Nat)) σ')) = some r →
              OutV E r K S who w a dst ((Builtin.copy_ (t :: ats).toArray ty #[.slice (some ⟨b, o, none⟩) n mc, a.eval y]).run P w) := by
            intro m cs vs O sl A c hy hm hv h0 hfc hs
            obtain ⟨_, σ', who', w', h1, h2, h3, h4⟩ := copyTo_sem (P := P) (ob := 0) h hg hu hv h0 hs
            refine outv_put (u := goInt m) (v := .int .i64 m) ?_ h3 h4 (.int _ _) (by simp) (by simp) trivial h2
            have hmn : Nat.min sl n = m := hm.symm
            rw [hy] at hfc
            simp [Builtin.copy_, run_under w hd, run_sizeOf w hie, hsz, hy, Builtin.lenOf, hmn, hfc, h1]
          split at hs
          · rename_i r1 p1 n1 hy
            split at hs
            · rename_i o1
              split at hs
              · rename_i cells1 hg1
                rw [hy] at hly
                obtain ⟨b1, m1, hu1, huy⟩ := box_at hly hg1
                have hm1 : ∃ O, Mem S w b1 0 cells1 O := by
                  obtain ⟨O, hO, _⟩ := h.rep r1
                  rw [hg1, hu1] at hO
                  cases hO with
                  | obox _ hm => exact ⟨_, hm⟩
                obtain ⟨O, hm1⟩ := hm1
                have hlen := copyTo_len hs
                by_cases hm0 : min n1 n = 0
                · have e0 : (cells1.drop o1).take (min n1 n) = [] := by rw [hm0]; rfl
                  rw [e0] at hs
                  refine fin huy rfl (vs := []) .nil (by simp) ?_ hs
                  rw [huy, hm0]
                  simp [Builtin.firstCells]; rfl
                · have hle : o1 + min n1 n ≤ cells1.length := by
                    rw [List.length_take, List.length_drop] at hlen; omega
                  obtain ⟨O1, O2, O3, e', _, m2, _⟩ := hm1.sub o1 (min n1 n) hle
                  rw [Nat.zero_add] at m2
                  obtain ⟨vs, g1, g2, g3⟩ := m2.vals
                  refine fin huy rfl g1 g2 ?_ hs
                  rw [huy]
                  have hvl : vs.length = min n1 n * 1 := by rw [g1.len, hlen]; omega
                  exact run_firstCells_some w 1 _ ⟨b1, o1, none⟩ _ _ vs hvl fun j v hj => by rw [add_none]; exact g3 j v hj
              · cases hs
            · cases hs
          · rename_i hnb
            obtain ⟨rows, hs, A, c, hu2, hun, hA⟩ := reads_sem h hry hly hs
            by_cases hr0 : rows = []
            · subst hr0
              refine fin hu2 rfl (vs := []) .nil (by simp) ?_ hs
              rw [hu2]
              cases A with
              | none => rfl
              | some ad => simp [Builtin.firstCells]; rfl
            · obtain ⟨_, b1, o1, rfl, hm1⟩ := hA hr0
              obtain ⟨O1, O2, O3, e', _, m2, _⟩ := hm1.sub 0 (min rows.length n * 1) (by rw [flatten_length hun]; omega)
              have : O2 = [] := by simp at e'; simp [e']
              subst this
              rw [Nat.add_zero, List.drop_zero] at m2
              obtain ⟨vs, g1, g2, g3⟩ := m2.vals
              have hfl : (rows.take (min rows.length n)).flatten = rows.flatten.take (min rows.length n * 1) := flatten_take _ hun
              refine fin hu2 rfl (by rw [hfl]; exact g1) g2 ?_ hs
              rw [hu2]
              have hvl : vs.length = min rows.length n * 1 := by
                rw [g1.len, List.length_take, flatten_length hun]; omega
              exact run_firstCells_some w 1 _ ⟨b1, o1, none⟩ _ _ vs hvl fun j v hj => by rw [add_none]; exact g3 j v hj
        · cases hs
      · cases hs
    · cases hs
  · cases hs

end
end Go.Zv
