/- Zv: rows put into an owned slice. No condition. -/
import Derived.Test.YtdddbifjkkhpbaaGreatDoorZvPrim4
namespace Go.Zv
open Go Go.RowKit

section
variable {P : Program} {G : Nat → Option (List V)} {S : Nat → Prop} {w w' : World}

theorem back_row {O : List Nat} {vs us : List Value} {args : List V} {rows : List (List V)} {b o c k : Nat} (hG : Given G S w vs args O) (h1 : 0 < k) (hun : ∀ r ∈ rows, r.length = k) (hop : OpenRow k w' b (o + c * k)) (hc : rows.length ≤ c) (hat : At w' b o us)
    (hone : ∀ v ∈ us, v.oneCell' = true) (hreps : Reps S w us rows.flatten []) (hb : b ∈ O ∨ w.heap.size ≤ b) (hsz : w.heap.size ≤ w'.heap.size) (hkeep : ∀ b', b' < w.heap.size → b' ∉ O → w'.heap[b']? = w.heap[b']?) (hsame : Same w w') :
    ∃ S' Or Oo, Back S w O vs (.slice (some ⟨b, o, none⟩) rows.length c) (.own false k rows) (args.map fun _ => .undef) S' w' Or Oo := by
  have hSw : ∀ b', S b' → w'.heap[b']? = w.heap[b']? := fun b' hb' => hkeep b' (hG.low b' hb') fun h => hG.apart b' h hb'
  have hbS : ¬ S b := fun h => hb.elim (fun hb => hG.apart b hb h) fun hb => by have := hG.low b h; omega
  have hmem : Mem S w' b o rows.flatten [] := Mem.fresh (hreps.mono (fun _ h => h) hSw (by simp)) hone hat
  exact ⟨S, [b], [], .own h1 hun hop hc (fun _ => rfl) hmem, undefs hG.rep.len, by simp, fun b' hb' => by
    simp only [List.append_nil, List.mem_singleton] at hb'
    subst hb'
    exact ⟨hbS, hb⟩, hsz, fun _ h => h, fun _ h => .inl h, fun b' hb' => Nat.lt_of_lt_of_le (hG.low b' hb') hsz, hkeep, hsame⟩

theorem at_alloc (cs : Array Value) (e : Nat) : At (w.alloc (.cells cs e)) w.heap.size 0 cs.toList := fun j hj => by
  have hj' : j < cs.size := by simpa using hj
  unfold World.cell?
  rw [heap_new]
  simp [List.getD_eq_getElem?_getD, hj']
theorem At.left {b o : Nat} {l1 l2 : List Value} (h : At w b o (l1 ++ l2)) : At w b o l1 := fun j hj => by
  rw [h j (by rw [List.length_append]; omega)]
  simp [List.getD_eq_getElem?_getD, List.getElem?_append_left hj]

/-- Appending, a new row. -/
theorem run_append_new {t u e ty k n m c : Nat} {base : Option Addr} {uy : Value} {d : TypeDesc} {ti : TypeInfo} {z : Value} {vs olds : List Value} (hT : RowTy P t e k ti z) (hu : P.underlying u = some d) (hsrc : Src P w z k d uy m vs) (hlim : n + m ≤ lim) (hc : c < n + m)
    (hl : vs.length = m * k) (ho : olds.length = n * k) (hold : (Builtin.firstCells k n (.slice base n c)).run P w.drew = .ok olds.toArray w.drew) :
    ∃ G W, n + m ≤ G ∧ (Builtin.append_ #[t, u] ty #[.slice base n c, uy]).run P w = .ok (.slice (some ⟨w.heap.size, 0, none⟩) (n + m) G) W ∧ W.heap.size = w.heap.size + 1 ∧ (∀ b, b < w.heap.size → W.heap[b]? = w.heap[b]?) ∧
      At W w.heap.size 0 (olds ++ vs) ∧ OpenRow k W w.heap.size (G * k) ∧ Same w W := by
  have hs := hT.size
  have hr := (run_append (w := w) (base := base) (olds := olds) (ty := ty) hT.under hu hT.info hT.zero (by rw [hT.cells, hs]) hT.bytes hlim (by rw [hs]; exact hsrc) (by rw [hs]; exact hold)).2 (Nat.not_le.2 hc)
  have hge := grownCap_ge w (n + m) c e
  refine ⟨_, _, hge, hr, by simp, fun b hb => (heap_alloc w.drew _ hb).trans rfl, ?_, ⟨_, e, 0, 0, heap_new w.drew _, ?_, .inl rfl⟩, ⟨rfl, rfl, rfl⟩⟩
  · have := at_alloc (w := w.drew) (olds.toArray ++ vs.toArray ++ Builtin.zeroCells z.cells (grownCap w (n + m) c e - (n + m))) e
    rw [Array.toList_append] at this
    simpa using this.left
  · have : (grownCap w (n + m) c e - (n + m)) * k = grownCap w (n + m) c e * k - (n + m) * k := Nat.sub_mul ..
    have h2 : (n + m) * k = n * k + m * k := Nat.add_mul ..
    have h3 : (n + m) * k ≤ grownCap w (n + m) c e * k := Nat.mul_le_mul_right _ hge
    simp [Builtin.zeroCells, hT.cells, hl, ho]
    omega

theorem not_frozen {k n b : Nat} (h : OpenRow k w b n) (hk : k ≠ 1) : ∃ e m, w.shape? b = some (e, m) ∧ n ≤ m ∧ ∀ x, w.frozen? ⟨b, x, none⟩ = false := by
  obtain ⟨cs, e, lo, hi, h1, h2, h3⟩ := h
  rcases h3 with rfl | ⟨h3, _⟩
  · refine ⟨e, cs.size, by simp [World.shape?, h1], h2, fun x => ?_⟩
    simp only [World.frozen?, h1, Bool.and_eq_false_imp, decide_eq_true_eq, decide_eq_false_iff_not]
    omega
  · exact absurd h3 hk

def primIns (k : Nat) : List V → Option (V × List V)
  | [.own false k' rows, .int .i64 i, .own false k2 ys] => if k' = k ∧ k2 = k ∧ 0 ≤ i ∧ i ≤ rows.length ∧ 0 < ys.length ∧ rows.length + ys.length ≤ lim then some (.own false k (rows.take i.toNat ++ (ys ++ rows.drop i.toNat)), [.undef, .undef, .undef]) else none
  | _ => none
theorem ins_ok {f t u e k fo : Nat} {ti : TypeInfo} {z : Value} {args outs : List V} {res : V} (hk1 : k ≠ 1) (hT : RowTy P t e k ti z) (hu : P.underlying u = some (.int .i64)) (he : ∀ (vs : Array Value) (w : World), (callFunc f vs).run P w = .ok (.enter f vs) w)
    (hov : ∀ (w : World) (a b : Addr) (la ca lb cb tA tB kA kB : Nat), a.block ≠ b.block → w.shape? a.block = some (tA, kA) → w.shape? b.block = some (tB, kB) → kB ≠ 0 → w.frozen? a = false → w.frozen? { block := a.block, off := kA } = false →
      (callFunc fo #[.slice (some a) la ca, .slice (some b) lb cb]).run P w = .ok (.value (.bool false)) w)
    (hend : ∀ (base : Option Addr) (n c m : Nat) (vb : Addr) (vc : Nat) (w w1 : World) (r : Value), 0 < m → n ≤ c → (Builtin.append_ #[t, t] t #[.slice base n c, .slice (some vb) m vc]).run P w = .ok r w1 →
      Calls P f #[.slice base n c, .int .i64 n, .slice (some vb) m vc] w fun e w' => e = .returned r ∧ w' = w1)
    (hshift : ∀ (b o n c i m : Nat) (vb : Addr) (vc : Nat) (w w1 w2 : World) (v1 v2 : Value), i < n → 0 < m → n + m ≤ c → n + m ≤ 9223372036854775807 →
      (∀ lb cb, (callFunc fo #[.slice (some vb) m vc, .slice (some ⟨b, o + (i + m) * k, none⟩) lb cb]).run P w = .ok (.value (.bool false)) w) →
      (Builtin.copy_ #[t, t] u #[.slice (some ⟨b, o + (i + m) * k, none⟩) (n + m - (i + m)) (c - (i + m)), .slice (some ⟨b, o + i * k, none⟩) (n + m - i) (c - i)]).run P w.drew = .ok v1 w1 →
      (Builtin.copy_ #[t, t] u #[.slice (some ⟨b, o + i * k, none⟩) (n + m - i) (c - i), .slice (some vb) m vc]).run P w1 = .ok v2 w2 →
      Calls P f #[.slice (some ⟨b, o, none⟩) n c, .int .i64 i, .slice (some vb) m vc] w fun e w' => e = .returned (.slice (some ⟨b, o, none⟩) (n + m) c) ∧ w' = w2)
    (hgrow : ∀ (b o n c i m g G : Nat) (vb : Addr) (vc : Nat) (w w1 w2 w3 : World) (v1 v2 : Value), i < n → 0 < m → n ≤ c → c < n + m → n + m ≤ 9223372036854775807 → n + m ≤ G →
      (Builtin.append_ #[t, u] t #[.slice (some ⟨b, o, none⟩) i c, .int .i64 ((n : Int) + (m : Int) - (i : Int))]).run P w = .ok (.slice (some ⟨g, 0, none⟩) (n + m) G) w1 →
      (Builtin.copy_ #[t, t] u #[.slice (some ⟨g, i * k, none⟩) (n + m - i) (G - i), .slice (some vb) m vc]).run P w1 = .ok v1 w2 →
      (Builtin.copy_ #[t, t] u #[.slice (some ⟨g, (i + m) * k, none⟩) (n + m - (i + m)) (G - (i + m)), .slice (some ⟨b, o + i * k, none⟩) (n - i) (c - i)]).run P w2.drew = .ok v2 w3 →
      Calls P f #[.slice (some ⟨b, o, none⟩) n c, .int .i64 i, .slice (some vb) m vc] w fun e w' => e = .returned (.slice (some ⟨g, 0, none⟩) (n + m) G) ∧ w' = w3)
    (h : primIns k args = some (res, outs)) : Does P G f args res outs := by
  unfold primIns at h
  split at h
  · rename_i k' rows i k2 ys
    split at h
    · rename_i hc
      obtain ⟨rfl, rfl, hi0, hin, hm, hlim⟩ := hc
      simp only [Option.some.injEq, Prod.mk.injEq] at h
      obtain ⟨rfl, rfl⟩ := h
      obtain ⟨i, rfl⟩ := Int.eq_ofNat_of_zero_le hi0
      simp only [Int.ofNat_eq_natCast, Int.toNat_natCast] at *
      have hin : i ≤ rows.length := by omega
      have hl63 : rows.length + ys.length ≤ 9223372036854775807 := by unfold lim at hlim; omega
      intro S w vs O hG
      obtain ⟨u1, v1, v2, O1, O2, O3, rfl, rfl, r1, r2, r3⟩ := three hG.rep
      cases r2
      cases r3 with
      | own0 => simp at hm
      | @own vb vo vc _ _ _ OV y1 y2 y3 y4 y5 y6 =>
      have := y5 rfl
      subst this
      obtain ⟨us, d1, d2, d3⟩ := y6.vals
      have hul : us.length = ys.length * k2 := by rw [d1.len, flatten_length y2]
      have huat : At w vb vo us := fun x hx => by rw [d3 x us[x] (by simp [hx])]; simp [List.getD_eq_getElem?_getD, hx]
      have hvlt : vb < w.heap.size := by obtain ⟨cs, e, lo, hi, q1, _⟩ := y3; exact lt_of_some q1
      cases r1 with
      | own0 a _ _ =>
        have hi : i = 0 := by simpa using hin
        subst hi
        obtain ⟨Gc, W, q1, q2, q3, q4, q5, q6, q7⟩ := run_append_new (ty := t) (n := 0) (m := ys.length) (c := 0) (base := a) (olds := []) hT hT.under (src_at (sc := vc) hul huat) (by simpa using hlim) (by omega) hul (by simp) (by cases a with
          | none => exact run_firstCells_none w.drew k2 0 0 0
          | some a => exact run_firstCells_some w.drew k2 0 a 0 0 [] (by simp) (by simp))
        refine .inl ⟨he _ _, (hend a 0 0 ys.length _ vc w W _ hm (Nat.le_refl _) q2).mono fun e w' ⟨s1, s2⟩ => ⟨_, s1, ?_⟩⟩
        subst s2
        have := back_row (rows := ys) (o := 0) (c := Gc) hG y1 y2 (by simpa using q6) (by simpa using q1) (by simpa using q5) d2 d1 (.inr (Nat.le_refl _)) (by omega) (fun b hb _ => q4 b hb) q7
        simpa using this
      | @own b o c _ _ _ O h1 h2 h3 h4 h5 h6 =>
      have := h5 rfl
      subst this
      obtain ⟨vs, g1, g2, g3⟩ := h6.vals
      have hl : vs.length = rows.length * k2 := by rw [g1.len, flatten_length h2]
      have hat : At w b o vs := fun x hx => by rw [g3 x vs[x] (by simp [hx])]; simp [List.getD_eq_getElem?_getD, hx]
      have hblt : b < w.heap.size := by obtain ⟨cs, e, lo, hi, q1, _⟩ := h3; exact lt_of_some q1
      have hbv : vb ≠ b := by
        have := hG.nodup
        simp at this
        exact fun e => this e.symm
      have hik : i * k2 ≤ rows.length * k2 := Nat.mul_le_mul_right _ hin
      have hck : rows.length * k2 ≤ c * k2 := Nat.mul_le_mul_right _ h4
      have enm : (rows.length + ys.length) * k2 = rows.length * k2 + ys.length * k2 := Nat.add_mul ..
      have eim : (i + ys.length) * k2 = i * k2 + ys.length * k2 := Nat.add_mul ..
      have eni : (rows.length - i) * k2 = rows.length * k2 - i * k2 := Nat.sub_mul ..
      have hun : ∀ r ∈ rows.take i ++ (ys ++ rows.drop i), r.length = k2 := fun r hr => by
        rcases List.mem_append.1 hr with hr | hr
        · exact h2 r (List.mem_of_mem_take hr)
        · rcases List.mem_append.1 hr with hr | hr
          · exact y2 r hr
          · exact h2 r (List.mem_of_mem_drop hr)
      have hlen : (rows.take i ++ (ys ++ rows.drop i)).length = rows.length + ys.length := by simp; omega
      have hreps : Reps S w (vs.take (i * k2) ++ (us ++ vs.drop (i * k2))) (rows.take i ++ (ys ++ rows.drop i)).flatten [] := by
        rw [List.flatten_append, List.flatten_append, take_flat h2, drop_flat h2]
        exact g1.take0.append0 (d1.append0 g1.drop0)
      have hone : ∀ v ∈ vs.take (i * k2) ++ (us ++ vs.drop (i * k2)), v.oneCell' = true := fun v hv => by
        rcases List.mem_append.1 hv with hv | hv
        · exact g2 v (List.mem_of_mem_take hv)
        · rcases List.mem_append.1 hv with hv | hv
          · exact d2 v hv
          · exact g2 v (List.mem_of_mem_drop hv)
      have htl : (vs.take (i * k2)).length = i * k2 := by rw [List.length_take, hl]; omega
      have hdl : (vs.drop (i * k2)).length = (rows.length - i) * k2 := by rw [List.length_drop, hl, eni]
      have hbO : b ∈ [b] ++ ([] ++ [vb]) := by simp
      have hoth : ∀ b', b' ∉ [b] ++ ([] ++ [vb]) → b' ≠ b := fun b' hn e => hn (by simp [e])
      by_cases hie : i = rows.length
      · subst hie
        have et : vs.take (rows.length * k2) = vs := List.take_of_length_le (by omega)
        have ed : vs.drop (rows.length * k2) = [] := List.drop_eq_nil_of_le (by omega)
        rw [et, ed, List.append_nil] at hreps hone
        by_cases hroom : rows.length + ys.length ≤ c
        · have hrk : (rows.length + ys.length) * k2 ≤ c * k2 := Nat.mul_le_mul_right _ hroom
          obtain ⟨w1, happ, p1⟩ := run_append_at (ty := t) (sc := vc) hT h3 (by omega) hroom hlim hul hl d2 hat huat
          refine .inl ⟨he _ _, (hend _ _ c ys.length _ vc w w1 _ hm h4 happ).mono fun e w' ⟨s1, s2⟩ => ⟨_, s1, ?_⟩⟩
          subst s2
          have := back_row hG h1 hun (p1.row _ _ h3) (by rw [hlen]; exact hroom) ((hat.beside p1 (.inr (.inl (by rw [hl]; exact Nat.le_refl _)))).append (by rw [hl]; exact .inside p1)) hone hreps (.inl hbO) (by rw [p1.size]; exact Nat.le_refl _) (fun b' _ hn => p1.other b' (hoth b' hn)) p1.out
          rw [hlen] at this
          exact this
        · obtain ⟨Gc, W, q1, q2, q3, q4, q5, q6, q7⟩ := run_append_new (ty := t) (n := rows.length) (m := ys.length) (c := c) (base := some ⟨b, o, none⟩) (olds := vs) hT hT.under (src_at (sc := vc) hul huat) hlim (by omega) hul hl
            (run_firstCells_some w.drew k2 _ ⟨b, o, none⟩ _ c vs hl fun j v hj => by rw [add_none]; exact hat.get j v hj)
          refine .inl ⟨he _ _, (hend _ _ c ys.length _ vc w W _ hm h4 q2).mono fun e w' ⟨s1, s2⟩ => ⟨_, s1, ?_⟩⟩
          subst s2
          have := back_row (o := 0) hG h1 hun (by rw [Nat.zero_add]; exact q6) (by rw [hlen]; exact q1) q5 hone hreps (.inr (Nat.le_refl _)) (by omega) (fun b' hb' _ => q4 b' hb') q7
          rw [hlen] at this
          exact this
      · have hi : i < rows.length := by omega
        by_cases hroom : rows.length + ys.length ≤ c
        · have hrk : (rows.length + ys.length) * k2 ≤ c * k2 := Nat.mul_le_mul_right _ hroom
          obtain ⟨tA, kA, a1, a2, a3⟩ := not_frozen y3 hk1
          obtain ⟨tB, kB, b1, b2, b3⟩ := not_frozen h3 hk1
          have hrl : 0 < rows.length * k2 := Nat.mul_pos (by omega) h1
          have hop : OpenRow k2 w.drew b (o + c * k2) := h3
          obtain ⟨w1, hc1, p1⟩ := run_copy_at (P := P) (ty := u) (w := w.drew) (mc := c - (i + ys.length)) (sc := c - i) (n := rows.length + ys.length - (i + ys.length)) (sl := rows.length + ys.length - i) (m := rows.length - i) (o := o + (i + ys.length) * k2)
            hT.under hT.info hT.size hop (by omega) (by omega) hdl (fun v hv => g2 v (List.mem_of_mem_drop hv)) ((show At w.drew b o vs from hat).drop (n := i * k2))
          obtain ⟨w2, hc2, p2⟩ := run_copy_at (P := P) (ty := u) (w := w1) (mc := c - i) (sc := vc) (n := rows.length + ys.length - i) (sl := ys.length) (m := ys.length) (o := o + i * k2)
            hT.under hT.info hT.size (p1.row _ _ hop) (by omega) (by omega) hul d2 ((show At w.drew vb vo us from huat).beside p1 (.inl hbv))
          refine .inl ⟨he _ _, (hshift b o rows.length c i ys.length ⟨vb, vo, none⟩ vc w w1 w2 _ _ hi hm hroom hl63 (fun lb cb => hov w _ _ _ _ _ _ tA tB kA kB hbv a1 b1 (by omega) (a3 _) (a3 _)) hc1 hc2).mono fun e w' ⟨s1, s2⟩ => ⟨_, s1, ?_⟩⟩
          subst s2
          have hA : At w' b o (vs.take (i * k2) ++ (us ++ vs.drop (i * k2))) := by
            refine At.append ((((show At w.drew b o vs from hat).take).beside p1 (.inr (.inl (by rw [htl]; omega)))).beside p2 (.inr (.inl (by rw [htl]; exact Nat.le_refl _)))) ?_
            rw [htl]
            refine At.append (.inside p2) ?_
            rw [hul, Nat.add_assoc, ← eim]
            exact (At.inside p1).beside p2 (.inr (.inr (by rw [hul]; omega)))
          have := back_row hG h1 hun (p2.row _ _ (p1.row _ _ hop)) (by rw [hlen]; exact hroom) hA hone hreps (.inl hbO) (by rw [p2.size, p1.size]; exact Nat.le_refl _) (fun b' _ hn => by rw [p2.other b' (hoth b' hn), p1.other b' (hoth b' hn)]; rfl) (Same.trans (⟨p1.out.1, p1.out.2, p1.out.3⟩ : Same w w1) p2.out)
          rw [hlen] at this
          exact this
        · have ez : (rows.length + ys.length - i) + i = rows.length + ys.length := by omega
          have ezk : (rows.length + ys.length - i) * k2 = (rows.length + ys.length) * k2 - i * k2 := Nat.sub_mul ..
          have hint : ((rows.length : Int) + (ys.length : Int) - (i : Int)) = ((rows.length + ys.length - i : Nat) : Int) := by omega
          have hzl : (Builtin.zeroCells z.cells (rows.length + ys.length - i)).toList.length = (rows.length + ys.length - i) * k2 := by simp [Builtin.zeroCells, hT.cells]
          obtain ⟨Gc, W, q1, q2, q3, q4, q5, q6, q7⟩ := run_append_new (w := w) (ty := t) (u := u) (n := i) (m := rows.length + ys.length - i) (c := c) (base := some ⟨b, o, none⟩) (olds := vs.take (i * k2)) (uy := .int .i64 ((rows.length + ys.length - i : Nat) : Int)) hT hu
            (.inl ⟨⟨_, rfl⟩, ⟨_, rfl⟩, by omega, rfl⟩) (by omega) (by omega) hzl htl
            (run_firstCells_some w.drew k2 _ ⟨b, o, none⟩ _ c _ htl fun j v hj => by rw [add_none]; exact (show At w.drew b o vs from hat).take.get j v hj)
          rw [show i + (rows.length + ys.length - i) = rows.length + ys.length by omega] at q1 q2
          rw [← hint] at q2
          have hgk : (rows.length + ys.length) * k2 ≤ Gc * k2 := Nat.mul_le_mul_right _ q1
          have hvg : vb ≠ w.heap.size := by omega
          have hbg : b ≠ w.heap.size := by omega
          obtain ⟨w2, hc1, p1⟩ := run_copy_at (P := P) (ty := u) (w := W) (mc := Gc - i) (sc := vc) (n := rows.length + ys.length - i) (sl := ys.length) (m := ys.length) (o := i * k2)
            hT.under hT.info hT.size q6 (by omega) (by omega) hul d2 (huat.of_heap (q4 vb hvlt))
          obtain ⟨w3, hc2, p2⟩ := run_copy_at (P := P) (ty := u) (w := w2.drew) (mc := Gc - (i + ys.length)) (sc := c - i) (n := rows.length + ys.length - (i + ys.length)) (sl := rows.length - i) (m := rows.length - i) (o := (i + ys.length) * k2)
            hT.under hT.info hT.size (show OpenRow k2 w2.drew _ _ from p1.row _ _ q6) (by omega) (by omega) hdl (fun v hv => g2 v (List.mem_of_mem_drop hv)) (show At w2.drew b (o + i * k2) (vs.drop (i * k2)) from ((hat.of_heap (q4 b hblt)).beside p1 (.inl hbg)).drop)
          refine .inl ⟨he _ _, (hgrow b o rows.length c i ys.length _ Gc ⟨vb, vo, none⟩ vc w W w2 w3 _ _ hi hm h4 (by omega) hl63 q1 q2 hc1 hc2).mono fun e w' ⟨s1, s2⟩ => ⟨_, s1, ?_⟩⟩
          subst s2
          have hA : At w' w.heap.size 0 (vs.take (i * k2) ++ (us ++ vs.drop (i * k2))) := by
            refine At.append (((q5.left).beside p1 (.inr (.inl (by rw [htl]; omega)))).drew'.beside p2 (.inr (.inl (by rw [htl]; omega)))) ?_
            rw [htl, Nat.zero_add]
            refine At.append ((At.inside p1).drew'.beside p2 (.inr (.inl (by rw [hul]; omega)))) ?_
            rw [hul, ← eim]
            exact .inside p2
          have := back_row (o := 0) hG h1 hun (by rw [Nat.zero_add]; exact p2.row _ _ (show OpenRow k2 w2.drew _ _ from p1.row _ _ q6)) (by rw [hlen]; exact q1) hA hone hreps (.inr (Nat.le_refl _)) (by rw [p2.size, show w2.drew.heap.size = w2.heap.size from rfl, p1.size]; omega)
            (fun b' hb' _ => by rw [p2.other b' (by omega), show w2.drew.heap[b']? = w2.heap[b']? from rfl, p1.other b' (by omega)]; exact q4 b' hb') ((q7.trans p1.out).trans (⟨p2.out.1, p2.out.2, p2.out.3⟩ : Same w2 w'))
          rw [hlen] at this
          exact this
    · cases h
  · cases h
end
end Go.Zv
