/- Zv: rows of an owned slice cut out, or put in. No condition. -/
import Derived.Test.YtdddbifjkkhpbaaGreatDoorZvPrim2
namespace Go.Zv
open Go Go.RowKit

section
variable {P : Program} {G : Nat → Option (List V)} {S : Nat → Prop} {w w' : World}

def At (w : World) (b o : Nat) (l : List Value) : Prop := ∀ j, j < l.length → w.cell? ⟨b, o + j, none⟩ = some (l.getD j undef)
theorem At.nil {b o : Nat} : At w b o [] := fun j hj => by simp at hj
theorem At.append {b o : Nat} {l1 l2 : List Value} (h1 : At w b o l1) (h2 : At w b (o + l1.length) l2) : At w b o (l1 ++ l2) := by
  intro j hj
  rw [List.length_append] at hj
  by_cases h : j < l1.length
  · rw [h1 j h]
    simp [List.getD_eq_getElem?_getD, List.getElem?_append_left h]
  · have := h2 (j - l1.length) (by omega)
    rw [show o + l1.length + (j - l1.length) = o + j by omega] at this
    rw [this]
    simp [List.getD_eq_getElem?_getD, List.getElem?_append_right (Nat.le_of_not_lt h)]
theorem At.take {b o n : Nat} {l : List Value} (h : At w b o l) : At w b o (l.take n) := by
  intro j hj
  rw [List.length_take] at hj
  rw [h j (by omega)]
  simp [List.getD_eq_getElem?_getD, List.getElem?_take, show j < n by omega]
theorem At.drop {b o n : Nat} {l : List Value} (h : At w b o l) : At w b (o + n) (l.drop n) := by
  intro j hj
  rw [List.length_drop] at hj
  rw [Nat.add_assoc, h (n + j) (by omega)]
  simp [List.getD_eq_getElem?_getD, List.getElem?_drop]
theorem At.beside {b o b' o' : Nat} {l vs : List Value} (h : At w b o l) (hp : Poked w w' b' o' vs) (hd : b ≠ b' ∨ o + l.length ≤ o' ∨ o' + vs.length ≤ o) : At w' b o l := by
  intro j hj
  rw [← h j hj]
  by_cases hb : b = b'
  · subst hb
    refine hp.beside _ ?_
    rcases hd with hd | hd | hd
    · exact absurd rfl hd
    · exact .inl (by omega)
    · exact .inr (by omega)
  · exact cell?_of_heap (hp.other b hb)
theorem At.drew' {b o : Nat} {l : List Value} (h : At w b o l) : At w.drew b o l := h
theorem At.inside {b o : Nat} {vs : List Value} (hp : Poked w w' b o vs) : At w' b o vs := hp.inside
theorem At.of_heap {b o : Nat} {l : List Value} (h : At w b o l) (hh : w'.heap[b]? = w.heap[b]?) : At w' b o l := fun j hj => by rw [cell?_of_heap hh]; exact h j hj
theorem At.get {b o : Nat} {l : List Value} (h : At w b o l) : ∀ j v, l[j]? = some v → w.cell? ⟨b, o + j, none⟩ = some v := fun j v hj => by
  rw [h j (List.getElem?_eq_some_iff.1 hj).1, List.getD_eq_getElem?_getD, hj]; rfl
theorem Poked.drew {b o : Nat} {vs : List Value} (hp : Poked w w' b o vs) : Poked w w'.drew b o vs := ⟨hp.size, hp.other, hp.inside, hp.beside, hp.row, ⟨hp.out.1, hp.out.2, hp.out.3⟩⟩

theorem take_flat {k : Nat} : ∀ {rows : List (List V)} {i : Nat}, (∀ r ∈ rows, r.length = k) → (rows.take i).flatten = rows.flatten.take (i * k)
  | [], i, _ => by simp
  | r :: rows, 0, _ => by simp
  | r :: rows, i + 1, h => by
    have hr : r.length = k := h r (by simp)
    rw [List.take_succ_cons, List.flatten_cons, List.flatten_cons, take_flat fun r hr => h r (by simp [hr]), Nat.succ_mul, Nat.add_comm (i * k), List.take_append, hr, List.take_of_length_le (l := r) (by omega), Nat.add_sub_cancel_left]
theorem drop_flat {k : Nat} : ∀ {rows : List (List V)} {i : Nat}, (∀ r ∈ rows, r.length = k) → (rows.drop i).flatten = rows.flatten.drop (i * k)
  | [], i, _ => by simp
  | r :: rows, 0, _ => by simp
  | r :: rows, i + 1, h => by
    have hr : r.length = k := h r (by simp)
    rw [List.drop_succ_cons, List.flatten_cons, drop_flat fun r hr => h r (by simp [hr]), Nat.succ_mul, Nat.add_comm (i * k), List.drop_append, hr, List.drop_eq_nil_of_le (as := r) (by omega), Nat.add_sub_cancel_left, List.nil_append]
theorem Reps.take0 {n : Nat} : ∀ {vs : List Value} {xs : List V}, Reps S w vs xs [] → Reps S w (vs.take n) (xs.take n) [] := by
  induction n with
  | zero => intro vs xs _; simp; exact .nil
  | succ n ih =>
    intro vs xs h
    generalize hO : ([] : List Nat) = O at h
    cases h with
    | nil => simp; exact .nil
    | cons h1 h2 =>
      obtain ⟨rfl, rfl⟩ := List.append_eq_nil_iff.1 hO.symm
      simpa using Reps.cons h1 (ih h2)
theorem Reps.drop0 {n : Nat} : ∀ {vs : List Value} {xs : List V}, Reps S w vs xs [] → Reps S w (vs.drop n) (xs.drop n) [] := by
  induction n with
  | zero => intro vs xs h; simpa using h
  | succ n ih =>
    intro vs xs h
    generalize hO : ([] : List Nat) = O at h
    cases h with
    | nil => simp; exact .nil
    | cons h1 h2 =>
      obtain ⟨rfl, rfl⟩ := List.append_eq_nil_iff.1 hO.symm
      simpa using ih h2
theorem Reps.append0 {us vs : List Value} {xs ys : List V} (h1 : Reps S w us xs []) (h2 : Reps S w vs ys []) : Reps S w (us ++ vs) (xs ++ ys) [] := by simpa using h1.append h2

/-- Cells copied. -/
theorem run_copy_at {t e ty k kk b o n mc sl sc bA oA m N : Nat} {ti : TypeInfo} {vs : List Value} (ht : P.underlying t = some (.slice e)) (hi : P.info? e = some ti) (hk : ti.size = k) (hop : OpenRow kk w b N) (hm : min sl n = m) (hN : o + m * k ≤ N)
    (hl : vs.length = m * k) (h1 : ∀ v ∈ vs, v.oneCell' = true) (hat : At w bA oA vs) :
    ∃ w', (Builtin.copy_ #[t, t] ty #[.slice (some ⟨b, o, none⟩) n mc, .slice (some ⟨bA, oA, none⟩) sl sc]).run P w = .ok (goInt m) w' ∧ Poked w w' b o vs := by
  obtain ⟨w', h2, h3⟩ := poke_many (P := P) (vs := vs) (i := 0) (o := o) hop (by omega) h1
  refine ⟨w', ?_, h3⟩
  have hfc : (Builtin.firstCells k m (.slice (some ⟨bA, oA, none⟩) sl sc)).run P w = .ok vs.toArray w := run_firstCells_some w k m ⟨bA, oA, none⟩ sl sc vs hl fun j v hj => by rw [add_none]; exact hat.get j v hj
  have hmn : Nat.min sl n = m := hm
  simp [Builtin.copy_, run_under w ht, run_sizeOf w hi, hk, Builtin.lenOf, hmn, hfc, h2]
/-- A part of a slice set to zeros. -/
theorem run_clear_at {t e ty k kk b o n c N : Nat} {ti : TypeInfo} {z : Value} (ht : P.underlying t = some (.slice e)) (hi : P.info? e = some ti) (hz : ti.zero = some z) (hk : z.cells.size = k) (h1 : ∀ c ∈ z.cells.toList, c.oneCell' = true) (hop : OpenRow kk w b N) (hn : 0 < n) (hN : o + n * k ≤ N) :
    ∃ w' vs, vs.length = n * k ∧ (Builtin.clear_ #[t] ty #[.slice (some ⟨b, o, none⟩) n c]).run P w = .ok (.tuple #[]) w' ∧ Poked w w' b o vs := by
  have hl : (Builtin.zeroCells z.cells n).toList.length = n * k := by simp [Builtin.zeroCells, hk]
  obtain ⟨w', h2, h3⟩ := poke_many (P := P) (vs := (Builtin.zeroCells z.cells n).toList) (i := 0) (o := o) hop (by omega) (by
    intro v hv
    simp only [Builtin.zeroCells, Array.toList_map, List.mem_map] at hv
    obtain ⟨x, hx, rfl⟩ := hv
    by_cases h0 : z.cells.size = 0
    · simp [h0] at hx
    · have hlt : x % z.cells.size < z.cells.size := Nat.mod_lt _ (by omega)
      rw [getElem!_pos z.cells _ hlt]
      exact h1 _ (by simp))
  refine ⟨w', _, hl, ?_, h3⟩
  obtain ⟨n', rfl⟩ : ∃ n', n = n' + 1 := ⟨n - 1, by omega⟩
  simp [Builtin.clear_, run_under w ht, zeroValue, typeInfo, hi, hz, h2]

/-- What is known of the slice's type. -/
structure RowTy (P : Program) (t e k : Nat) (ti : TypeInfo) (z : Value) : Prop where
  under : P.underlying t = some (.slice e)
  info : P.info? e = some ti
  zero : ti.zero = some z
  size : ti.size = k
  cells : z.cells.size = k
  one : ∀ c ∈ z.cells.toList, c.oneCell' = true
  bytes : ti.bytes ≤ 65536

theorem three {vs : List Value} {x y z : V} {O : List Nat} (h : Reps S w vs [x, y, z] O) : ∃ u v t O1 O2 O3, vs = [u, v, t] ∧ O = O1 ++ (O2 ++ O3) ∧ Rep S w u x O1 ∧ Rep S w v y O2 ∧ Rep S w t z O3 := by
  cases h with
  | cons h1 h2 => cases h2 with
    | cons h2 h3 => cases h3 with
      | cons h3 h4 => cases h4 with
        | nil => exact ⟨_, _, _, _, _, _, rfl, by simp, h1, h2, h3⟩
theorem src_at {k n sc oA bA : Nat} {z : Value} {e : Nat} {vs : List Value} (hl : vs.length = n * k) (hat : At w bA oA vs) : Src P w z k (.slice e) (.slice (some ⟨bA, oA, none⟩) n sc) n vs :=
  .inr ⟨fun _ h => (by cases h), fun _ => rfl, run_firstCells_some w k n ⟨bA, oA, none⟩ n sc vs hl fun j v hj => by rw [add_none]; exact hat.get j v hj, run_firstCells_some w.drew k n ⟨bA, oA, none⟩ n sc vs hl fun j v hj => by rw [add_none]; exact hat.get j v hj⟩
/-- Appending in place. -/
theorem run_append_at {t e ty k kk b o n c m oA bA sc N : Nat} {ti : TypeInfo} {z : Value} {vs olds : List Value} (hT : RowTy P t e k ti z) (hop : OpenRow kk w b N) (hN : o + (n + m) * k ≤ N) (hc : n + m ≤ c) (hlim : n + m ≤ lim) (hl : vs.length = m * k) (ho : olds.length = n * k) (h1 : ∀ v ∈ vs, v.oneCell' = true)
    (hold : At w b o olds) (hat : At w bA oA vs) :
    ∃ w', (Builtin.append_ #[t, t] ty #[.slice (some ⟨b, o, none⟩) n c, .slice (some ⟨bA, oA, none⟩) m sc]).run P w = .ok (.slice (some ⟨b, o, none⟩) (n + m) c) w' ∧ Poked w w' b (o + n * k) vs := by
  obtain ⟨w', h2, h3⟩ := poke_many (P := P) (vs := vs) (i := 0) (o := o + n * k) hop (by rw [Nat.add_mul] at hN; omega) h1
  refine ⟨w', ?_, h3⟩
  have hs := hT.size
  refine (run_append (w := w) (base := some ⟨b, o, none⟩) (olds := olds) hT.under hT.under hT.info hT.zero (by rw [hT.cells, hs]) hT.bytes hlim (by rw [hs]; exact src_at hl hat) ?_).1 hc w' ?_
  · rw [hs]
    exact run_firstCells_some w.drew k n ⟨b, o, none⟩ n c olds ho fun j v hj => by rw [add_none]; exact hold.get j v hj
  · show Sem.run P (storeCells ((⟨b, o, none⟩ : Addr).add (n * ti.size)) vs) w = _
    rw [hs, add_none]; exact h2

def primDel (k : Nat) : List V → Option (V × List V)
  | [.own false k' rows, .int .i64 i, .int .i64 j] => if k' = k ∧ 0 ≤ i ∧ i < j ∧ j ≤ rows.length ∧ rows.length ≤ lim then some (.own false k (rows.take i.toNat ++ rows.drop j.toNat), [.undef, .undef, .undef]) else none
  | _ => none
theorem del_ok {f t e k : Nat} {ti : TypeInfo} {z : Value} {args outs : List V} {res : V} (hT : RowTy P t e k ti z) (he : ∀ (vs : Array Value) (w : World), (callFunc f vs).run P w = .ok (.enter f vs) w)
    (hcall : ∀ (b o n c i j : Nat) (w w1 w2 : World) (A : Addr), i < j → j ≤ n → n ≤ c → (if c = j then some (⟨b, o, none⟩ : Addr) else some ⟨b, o + j * k, none⟩) = some A →
      (Builtin.append_ #[t, t] t #[.slice (some ⟨b, o, none⟩) i c, .slice (some A) (n - j) (c - j)]).run P w.drew = .ok (.slice (some ⟨b, o, none⟩) (i + (n - j)) c) w1 →
      (Builtin.clear_ #[t] 0 #[.slice (some ⟨b, o + (i + (n - j)) * k, none⟩) (n - (i + (n - j))) (c - (i + (n - j)))]).run P w1 = .ok (.tuple #[]) w2 →
      Calls P f #[.slice (some ⟨b, o, none⟩) n c, .int .i64 i, .int .i64 j] w fun e w' => e = .returned (.slice (some ⟨b, o, none⟩) (i + (n - j)) c) ∧ w' = w2)
    (h : primDel k args = some (res, outs)) : Does P G f args res outs := by
  unfold primDel at h
  split at h
  · rename_i k' rows i j
    split at h
    · rename_i hc
      obtain ⟨rfl, hi0, hij, hjn, hlim⟩ := hc
      simp only [Option.some.injEq, Prod.mk.injEq] at h
      obtain ⟨rfl, rfl⟩ := h
      obtain ⟨i, rfl⟩ := Int.eq_ofNat_of_zero_le hi0
      obtain ⟨j, rfl⟩ := Int.eq_ofNat_of_zero_le (a := j) (by omega)
      simp only [Int.ofNat_eq_natCast, Int.toNat_natCast] at *
      have hij : i < j := by omega
      have hjn : j ≤ rows.length := by omega
      intro S w vs O hG
      obtain ⟨u, v1, v2, O1, O2, O3, rfl, rfl, r1, r2, r3⟩ := three hG.rep
      cases r2; cases r3
      simp only [List.append_nil] at *
      cases r1 with
      | own0 => simp at hjn; omega
      | @own b o c _ _ _ O h1 h2 h3 h4 h5 h6 =>
      have := h5 rfl
      subst this
      obtain ⟨vs, g1, g2, g3⟩ := h6.vals
      have hl : vs.length = rows.length * k' := by rw [g1.len, flatten_length h2]
      have hat : At w b o vs := fun x hx => by rw [g3 x vs[x] (by simp [hx])]; simp [List.getD_eq_getElem?_getD, hx]
      have hjk : j * k' ≤ rows.length * k' := Nat.mul_le_mul_right _ hjn
      have hik : i * k' ≤ j * k' := Nat.mul_le_mul_right _ (by omega)
      have hck : rows.length * k' ≤ c * k' := Nat.mul_le_mul_right _ h4
      have esub : (rows.length - j) * k' = rows.length * k' - j * k' := Nat.sub_mul ..
      have eadd : (i + (rows.length - j)) * k' = i * k' + (rows.length - j) * k' := Nat.add_mul ..
      have esub2 : (rows.length - (i + (rows.length - j))) * k' = rows.length * k' - (i + (rows.length - j)) * k' := Nat.sub_mul ..
      have hnews : (vs.drop (j * k')).length = (rows.length - j) * k' := by rw [List.length_drop, hl, esub]
      have holds : (vs.take (i * k')).length = i * k' := by rw [List.length_take, hl]; omega
      have hatd : At w.drew b o vs := hat
      obtain ⟨A, oA, hA, hAat⟩ : ∃ A oA, (if c = j then some (⟨b, o, none⟩ : Addr) else some ⟨b, o + j * k', none⟩) = some A ∧ A = ⟨b, oA, none⟩ ∧ At w.drew b oA (vs.drop (j * k')) := by
        by_cases hcj : c = j
        · refine ⟨_, o, by rw [if_pos hcj], rfl, ?_⟩
          have : vs.drop (j * k') = [] := List.drop_eq_nil_of_le (by rw [hl]; have : rows.length = j := by omega
                                                                     rw [this]; exact Nat.le_refl _)
          rw [this]; exact .nil
        · exact ⟨_, o + j * k', by rw [if_neg hcj], rfl, hatd.drop⟩
      obtain ⟨rfl, hAat⟩ := hAat
      obtain ⟨w1, happ, p1⟩ := run_append_at (P := P) (ty := t) (sc := c - j) (c := c) (n := i) (m := rows.length - j) hT (w := w.drew) (h3 : OpenRow k' w.drew b (o + c * k')) (by omega) (by omega) (by omega) hnews holds (fun v hv => g2 v (List.mem_of_mem_drop hv)) hatd.take hAat
      obtain ⟨w2, zs, hzl, hclr, p2⟩ := run_clear_at (P := P) (ty := 0) (c := c - (i + (rows.length - j))) (n := rows.length - (i + (rows.length - j))) (o := o + (i + (rows.length - j)) * k') hT.under hT.info hT.zero hT.cells hT.one (p1.row _ _ (h3 : OpenRow k' w.drew b (o + c * k'))) (by omega) (by omega)
      refine .inl ⟨he _ _, (hcall b o rows.length c i j w w1 w2 _ hij hjn h4 hA happ hclr).mono fun e w' ⟨q1, q2⟩ => ⟨_, q1, ?_⟩⟩
      subst q2
      have hsame : ∀ b', b' ≠ b → w'.heap[b']? = w.heap[b']? := fun b' hb' => by rw [p2.other b' hb', p1.other b' hb']; rfl
      have hbS : ¬ S b := hG.apart b (by simp)
      have hSw : ∀ b', S b' → w'.heap[b']? = w.heap[b']? := fun b' hb' => hsame b' fun e => hbS (e ▸ hb')
      have hrows : (rows.take i ++ rows.drop j).length = i + (rows.length - j) := by rw [List.length_append, List.length_take, List.length_drop]; omega
      have hun : ∀ r ∈ rows.take i ++ rows.drop j, r.length = k' := fun r hr => h2 r ((List.mem_append.1 hr).elim List.mem_of_mem_take List.mem_of_mem_drop)
      have hfin : At w' b o (vs.take (i * k') ++ vs.drop (j * k')) := by
        refine At.append ((hatd.take.beside p1 (.inr (.inl (by rw [holds]; omega)))).beside p2 (.inr (.inl (by rw [holds]; omega)))) ?_
        rw [holds]
        exact (At.inside p1).beside p2 (.inr (.inl (by rw [hnews]; omega)))
      have hreps : Reps S w' (vs.take (i * k') ++ vs.drop (j * k')) (rows.take i ++ rows.drop j).flatten [] := by
        rw [List.flatten_append, take_flat h2, drop_flat h2]
        exact (g1.take0.append0 g1.drop0).mono (fun _ h => h) hSw (by simp)
      have hmem : Mem S w' b o (rows.take i ++ rows.drop j).flatten [] := Mem.fresh hreps (fun v hv => g2 v ((List.mem_append.1 hv).elim List.mem_of_mem_take List.mem_of_mem_drop)) hfin
      have hrep := Rep.own (S := S) (w := w') (n := false) h1 hun (p2.row _ _ (p1.row _ _ (h3 : OpenRow k' w.drew b (o + c * k')))) (by rw [hrows]; omega) (fun _ => rfl) hmem
      rw [hrows] at hrep
      refine ⟨S, [b], [], hrep, by simpa using undefs (S := S) (w := w') (vs := [_, _, _]) (args := [V.undef, V.undef, V.undef]) rfl, by simp, fun b' hb' => ?_, ?_, fun _ h => h, fun _ h => .inl h, fun b' hb' => ?_, fun b' hlt hn => hsame b' fun e => hn (by simp [e]), ?_⟩
      · simp only [List.append_nil, List.mem_singleton] at hb'
        subst hb'
        exact ⟨hbS, .inl (by simp)⟩
      · rw [p2.size, p1.size]; exact Nat.le_refl _
      · rw [p2.size, p1.size]; exact hG.low b' hb'
      · exact Same.trans (⟨p1.out.1, p1.out.2, p1.out.3⟩ : Same w w1) p2.out
    · cases h
  · cases h
end
end Go.Zv
