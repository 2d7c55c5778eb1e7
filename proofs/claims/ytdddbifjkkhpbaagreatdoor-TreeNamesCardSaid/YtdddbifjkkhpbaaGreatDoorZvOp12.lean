/- Zv: the soundness of append (second part). No condition. -/
import Derived.Test.YtdddbifjkkhpbaaGreatDoorZvOp11
namespace Go.Zv
open Go

section
variable {R : Type} {P : Program} {E : Env} {r : R} {K : List V → Option R} {S S' S1 S2 : Nat → Prop} {who who' who1 who2 : Nat → Option Nat} {w w' : World} {a : Act} {dst : Option Nat} {σ σ' σ1 σ2 : List V}

theorem Loose.append {S : Nat → Prop} {who0 who : Nat → Option Nat} {O1 O2 : List Nat} (h1 : Loose S who0 who O1) (h2 : Loose S who0 who O2) (hd : ∀ b ∈ O1, b ∉ O2) : Loose S who0 who (O1 ++ O2) :=
  ⟨List.nodup_append.2 ⟨h1.1, h2.1, fun _ ha _ hb e => hd _ ha (e ▸ hb)⟩, fun b hb => (List.mem_append.1 hb).elim (h1.2 b) (h2.2 b)⟩

/-- A new row: what was there, what is appended, zeros. -/
theorem grow_out {res : Result Value} {e need k : Nat} {nest : Bool} {z : Value} {rows ys : List (List V)} {olds news : List Value} {Ox Oy : List Nat} {sCap : Nat} (hpos : 0 < k) (hz : z.cells.size = k)
    (hneed : need = rows.length + ys.length) (hun : ∀ r ∈ rows, r.length = k) (huny : ∀ r ∈ ys, r.length = k)
    (hres : res = .ok (.slice (some ⟨w.heap.size, 0, none⟩) need (grownCap w need sCap e)) (w.drew.alloc (.cells (olds.toArray ++ news.toArray ++ Builtin.zeroCells z.cells (grownCap w need sCap e - need)) e)))
    (h : Rel E S2 who2 w a.tmps σ2) (hst : Step S who w S2 who2 w) (ho : Reps S2 w olds rows.flatten Ox) (hn : Reps S2 w news ys.flatten Oy) (ho1 : ∀ v ∈ olds, v.oneCell' = true) (hn1 : ∀ v ∈ news, v.oneCell' = true)
    (hL : Loose S2 who who2 (Ox ++ Oy)) (hnest : nest = false → Ox = [] ∧ Oy = []) (hK : K (put dst (.own nest k (rows ++ ys)) σ2) = some r) : OutV E r K S who w a dst res := by
  have hcap := grownCap_ge w need sCap e
  have hfl : (rows ++ ys).flatten = rows.flatten ++ ys.flatten := by simp
  have hl1 : olds.length = rows.length * k := by rw [ho.len, flatten_length hun]
  have hl2 : news.length = ys.length * k := by rw [hn.len, flatten_length huny]
  suffices hd : OutV E r K S who w.drew a dst res by
    obtain ⟨u, w', σ', S', who', e1, e2, e3, e4⟩ := hd
    exact ⟨u, w', σ', S', who', e1, e2, e3, ⟨e4.size, e4.keep, e4.sub, e4.new, e4.own, ⟨e4.out.os, e4.out.tape, e4.out.output⟩⟩⟩
  refine outv_new (w := w.drew) (e := e) (cells := olds.toArray ++ news.toArray ++ Builtin.zeroCells z.cells (grownCap w need sCap e - need)) hres (h.grow (Grows.drew w)) ⟨hst.size, hst.keep, hst.sub, hst.new, hst.own, Same.refl _⟩
    (vs := olds ++ news) (xs := (rows ++ ys).flatten) (O := Ox ++ Oy) ?_ hL ?_ ⟨(Builtin.zeroCells z.cells (grownCap w need sCap e - need)).toList, by simp⟩ (fun hm hop => ?_) rfl hK
  · rw [hfl]
    exact (ho.append hn).grow h (Grows.drew w)
  · intro v hv
    rcases List.mem_append.1 hv with h1 | h1
    · exact ho1 v h1
    · exact hn1 v h1
  · have hsz : (olds.toArray ++ news.toArray ++ Builtin.zeroCells z.cells (grownCap w need sCap e - need)).size = grownCap w need sCap e * k := by
      simp only [Array.size_append, List.size_toArray, size_zeroCells, hz, hl1, hl2]
      rw [← Nat.add_mul, ← Nat.add_mul]
      congr 1; omega
    have hlen : (rows ++ ys).length = need := by rw [hneed]; simp
    have := Rep.own (S := S2) (b := w.drew.heap.size) (o := 0) (c := grownCap w need sCap e) (n := nest) (rows := rows ++ ys) hpos (fun r hr => (List.mem_append.1 hr).elim (hun r) (huny r))
      (by rw [Nat.zero_add, ← hsz]; exact hop _) (by rw [hlen]; exact hcap) (fun hn => by obtain ⟨e1, e2⟩ := hnest hn; simp [e1, e2]) hm
    rw [hlen] at this
    exact this

/-- **Appending.** -/
theorem append_out {t u ty : Nat} {nest : Bool} {x y : Operand} (hE : EnvOK P E) (h : Rel E S who w a.tmps σ)
    (hs : (match E.tys t with
    | some i => match i.kind with
      | .slice k b => if b ≤ 65536 then
          appendSrc k i.ez nest (kindOf (E.tys u)) σ (opnd E σ y) fun ys σ' => appendTo k nest σ' (opnd E σ' x) ys fun v σ'' => K (put dst v σ'')
        else none
      | _ => none
    | none => none) = some r) : OutV E r K S who w a dst ((Builtin.append_ #[t, u] ty #[a.eval x, a.eval y]).run P w) := by
  split at hs
  · rename_i i hti
    split at hs
    · rename_i k bb hkind
      split at hs
      · rename_i hbb
        obtain ⟨i', e, ie, z, hti', hd, hie, hz, hsz, hby, hez, hzs, hpos, h0⟩ := kind_slice (t := t) (k := k) (b := bb) hE (by rw [hti]; exact hkind)
        rw [hti] at hti'; cases hti'
        have hzk : z.cells.size = k := by rw [← hzs, hsz]
        obtain ⟨ys, σ1, S1, who1, Oy, news, d, hK, hu, hsrc, h1, hst1, huny, hreps, hone, hLy, hOy⟩ := appendSrc_sem hE h hzk hpos hez h0 hs
        obtain ⟨hrx, hlx⟩ := opnd_spec h1 x
        have hlow : ∀ b ∈ Oy, b < w.heap.size := hreps.low
        rw [← hsz] at hsrc
        have hbytes : ie.bytes ≤ 65536 := by rw [hby]; exact hbb
        -- what is appended to an immutable slice that is full
        have full : ∀ {rows : List (List V)}, RowsIn S1 w (a.eval x) k rows → (∃ A, a.eval x = .slice A rows.length rows.length) → ¬ ys.length = 0 → rows.length + ys.length ≤ lim → K (put dst (.own nest k (rows ++ ys)) σ1) = some r →
            OutV E r K S who w a dst ((Builtin.append_ #[t, u] ty #[a.eval x, a.eval y]).run P w) := by
          intro rows hR hfull hys hlim hK
          obtain ⟨A, c, hux, hun, hA⟩ := hR
          obtain ⟨A', hux'⟩ := hfull
          rw [hux] at hux'
          cases hux'
          obtain ⟨olds, q1, q2, q3, q4, q5⟩ := src_slice (P := P) (z := z) (d := .string) (n := 0) (c := rows.length) (S := S1) (w := w) (O := []) (by simp) hun (fun hr => (hA hr).2) (fun _ => rfl)
          rw [hux]
          have hg : ¬ rows.length + ys.length ≤ rows.length := by omega
          have := (run_append (P := P) (w := w) (ty := ty) (sLen := rows.length) (sCap := rows.length) (base := A) (olds := olds) hd hu hie hz (by rw [hzk, hsz]) hbytes hlim hsrc (by rw [hsz]; exact q5)).2 hg
          exact grow_out hpos hzk rfl hun huny this h1 hst1 q2 hreps q3 hone (by simpa using hLy) (fun hn => ⟨rfl, hOy hn⟩) hK
        unfold appendTo at hK
        dsimp only at hK
        split at hK
        · rename_i r0 p hx
          rw [hx] at hlx
          rcases place_sem hlx hK with ⟨n, rows, X, hK, hf, hX⟩ | ⟨f, rows, hK, hf⟩
          · split at hK
            · rename_i hlim
              obtain ⟨OX, who2, g1, g2, g3, g4, g5⟩ := take_sem h1 hf (by rcases hX with rfl | ⟨rfl, _⟩ <;> simp)
              have hown : Rep S1 w (a.eval x) (.own n k rows) OX := by
                rcases hX with rfl | ⟨rfl, rfl, rfl⟩
                · exact g1
                · generalize a.eval x = ux at g1 ⊢
                  cases g1; exact .own0 _ _ _
              have hdis : ∀ b ∈ OX, b ∉ Oy := fun b hb hby => (g3 b hb).1 (hLy.2 b hby).1
              have hst2 : Step S who w S1 who2 w := hst1.trans g5
              have hback : ∀ b, who1 b ≠ none → who b ≠ none := fun b hb => by
                rcases hst1.own b hb with h7 | h7
                · exact h7
                · obtain ⟨xx, e⟩ := Option.ne_none_iff_exists'.1 hb
                  have := h1.lowO b xx e; omega
              have hLx : Loose S1 who who2 OX := ⟨g2, fun b hb => ⟨(g3 b hb).2.1, (g3 b hb).2.2, hback b (g3 b hb).1⟩⟩
              have hLy2 : Loose S1 who who2 Oy := hLy.step g5 hlow
              generalize hux : a.eval x = ux at hown ⊢
              cases hown with
              | own0 A _ _ =>
                by_cases hys : ys = []
                · subst hys
                  have hnews : news = [] := by have := hreps.len; simpa using this
                  subst hnews
                  obtain ⟨w1, hw1, e1⟩ : ∃ w1, (match A with | some ad => (storeCells (ad.add (0 * ie.size)) []).run P w | none => .ok () w) = .ok () w1 ∧ w1 = w := by
                    cases A with
                    | none => exact ⟨w, rfl, rfl⟩
                    | some ad => exact ⟨w, rfl, rfl⟩
                  subst e1
                  have := (run_append (P := P) (ty := ty) (sLen := 0) (sCap := 0) (base := A) (olds := []) hd hu hie hz (by rw [hzk, hsz]) hbytes hlim hsrc (by
                    cases A with
                    | none => rfl
                    | some ad => simp [Builtin.firstCells]; rfl)).1 (by simp) _ hw1
                  exact outv_put this g4 hst2 (.own0 _ _ _) (by simp) (by simp) trivial hK
                · have hl : 0 < ys.length := List.length_pos_iff.2 hys
                  have := (run_append (P := P) (w := w) (ty := ty) (sLen := 0) (sCap := 0) (base := A) (olds := []) hd hu hie hz (by rw [hzk, hsz]) hbytes hlim hsrc (by
                    cases A with
                    | none => rfl
                    | some ad => simp [Builtin.firstCells]; rfl)).2 (by omega)
                  refine grow_out (rows := []) (olds := []) (Ox := []) hpos hzk rfl (by simp) huny this g4 hst2 .nil hreps (by simp) hone (by simpa using hLy2) (fun hn => ⟨rfl, hOy ?_⟩) (by simpa using hK)
                  cases n <;> simp_all
              | @own b o c _ _ _ O m1 m2 m3 m4 m5 m6 =>
                have hOs : (n || nest) = false → O = [] ∧ Oy = [] := fun hn => by
                  rw [Bool.or_eq_false_iff] at hn
                  exact ⟨m5 hn.1, hOy hn.2⟩
                have hrowsO : rows = [] → O = [] := fun e => by
                  subst e
                  have : ∀ {b o : Nat} {xs : List V} {O : List Nat}, Mem S1 w b o xs O → xs = [] → O = [] := by
                    intro b o xs O hm e
                    cases hm with
                    | nil => rfl
                    | cons => cases e
                  exact this m6 rfl
                have hLO : Loose S1 who who2 O := ⟨by have := g2; simp only [List.nodup_cons] at this; exact this.2, fun b' hb' => hLx.2 b' (by simp [hb'])⟩
                by_cases hroom : rows.length + ys.length ≤ c
                · -- in place
                  have hnl : news.length = ys.length * k := by rw [hreps.len, flatten_length huny]
                  have hmul : rows.length * k + ys.length * k ≤ c * k := by rw [← Nat.add_mul]; exact Nat.mul_le_mul_right _ hroom
                  obtain ⟨w2, hrun, hp⟩ := poke_many (P := P) (o := o + rows.length * k) (i := 0) (vs := news) m3 (by rw [hnl]; omega) hone
                  rw [Nat.add_zero] at hp
                  obtain ⟨olds, q1, q2, q3, q4, q5⟩ := src_slice (P := P) (z := z) (d := .string) (n := 0) (c := c) (S := S1) (w := w) (A := some ⟨b, o, none⟩) (by simp) m2 (fun _ => ⟨b, o, rfl, m6⟩) hrowsO
                  have happ := (run_append (P := P) (w := w) (ty := ty) (sLen := rows.length) (sCap := c) (base := some ⟨b, o, none⟩) (olds := olds) hd hu hie hz (by rw [hzk, hsz]) hbytes hlim hsrc (by rw [hsz]; exact q5)).1 hroom w2 (by
                    rw [hsz]
                    show (storeCells (Addr.add ⟨b, o, none⟩ (rows.length * k)) news).run P w = _
                    rw [add_none]; exact hrun)
                  have hbS : ¬ S1 b := (g3 b (by simp)).2.2
                  have hnb : ∀ b', S1 b' → b' ≠ b := fun b' hb' e => hbS (e ▸ hb')
                  have hbO : b ∉ O := by have := g2; simp only [List.nodup_cons] at this; exact this.1
                  have hbOy : b ∉ Oy := hdis b (by simp)
                  have hrel : Rel E S1 who2 w2 a.tmps (setPlace σ1 r0 p .undef) :=
                    g4.world (fun b' hb' => hp.other b' (hnb b' hb')) (fun b' hb' => hp.other b' fun e => hb' (e ▸ (g3 b (by simp)).2.1)) (Nat.le_of_eq hp.size.symm) (fun _ h => h) g4.sep (fun b' hb' => by rw [hp.size]; exact g4.low b' hb')
                  have hst3 : Step S who w S1 who2 w2 := by
                    refine ⟨Nat.le_of_eq hp.size.symm, fun b' hb' hn => hp.other b' fun e => ?_, hst2.sub, hst2.new, hst2.own, hp.out⟩
                    exact hback b (g3 b (by simp)).1 (e ▸ hn)
                  have hm1 : Mem S1 w2 b o rows.flatten O := m6.other (fun _ h => h) (fun b' hb' => hp.other b' (hnb b' hb')) (fun j hj => hp.beside _ (.inl (by rw [flatten_length m2] at hj; omega))) fun b' hb' => hp.other b' fun e => hbO (e ▸ hb')
                  have hm2 : Mem S1 w2 b (o + rows.flatten.length) ys.flatten Oy := by
                    rw [flatten_length m2]
                    exact Mem.fresh (hreps.mono (fun _ h => h) (fun b' hb' => hp.other b' (hnb b' hb')) fun b' hb' => hp.other b' fun e => hbOy (e ▸ hb')) hone fun j hj => hp.inside j hj
                  have hrep : Rep S1 w2 (.slice (some ⟨b, o, none⟩) (rows ++ ys).length c) (.own (n || nest) k (rows ++ ys)) (b :: (O ++ Oy)) :=
                    .own hpos (fun r hr => (List.mem_append.1 hr).elim (m2 r) (huny r)) (hp.row _ _ m3) (by simpa using hroom) (fun hn => by obtain ⟨e1, e2⟩ := hOs hn; simp [e1, e2]) (by rw [List.flatten_append]; exact hm1.append hm2)
                  rw [List.length_append] at hrep
                  have hLall : Loose S1 who who2 (b :: (O ++ Oy)) := by
                    have := hLx.append hLy2 hdis
                    simpa using this
                  exact outv_put happ hrel hst3 hrep hLall.1 (fun b' hb' => ⟨⟨(hLall.2 b' hb').1, (hLall.2 b' hb').2.1⟩, .inl (hLall.2 b' hb').2.2⟩) trivial hK
                · obtain ⟨olds, q1, q2, q3, q4, q5⟩ := src_slice (P := P) (z := z) (d := .string) (n := 0) (c := c) (S := S1) (w := w) (A := some ⟨b, o, none⟩) (by simp) m2 (fun _ => ⟨b, o, rfl, m6⟩) hrowsO
                  have := (run_append (P := P) (w := w) (ty := ty) (sLen := rows.length) (sCap := c) (base := some ⟨b, o, none⟩) (olds := olds) hd hu hie hz (by rw [hzk, hsz]) hbytes hlim hsrc (by rw [hsz]; exact q5)).2 hroom
                  exact grow_out hpos hzk rfl m2 huny this g4 hst2 q2 hreps q3 hone (hLO.append hLy2 fun b' hb' => hdis b' (by simp [hb'])) hOs hK
            · cases hK
          · cases f with
            | false => cases hK
            | true =>
              simp only [cond_true] at hK
              split at hK
              · cases hK
              · split at hK
                · rename_i hys hlim
                  obtain ⟨O, hX, _⟩ := hf.rep h1
                  refine full (RowsIn.of_sl hX) ?_ hys hlim hK
                  generalize a.eval x = ux at hX ⊢
                  cases hX with
                  | sl0 A c _ _ hc => exact ⟨A, by rw [hc rfl]; rfl⟩
                  | sl _ _ _ _ h5 _ => exact ⟨_, by rw [h5.2 rfl]⟩
                · cases hK
        · rename_i k' f rows hx
          rw [hx] at hrx
          cases f with
          | false => cases hK
          | true =>
            simp only [cond_true] at hK
            split at hK
            · rename_i hkk; subst hkk
              split at hK
              · cases hK
              · split at hK
                · rename_i hys hlim
                  refine full (RowsIn.of_sl hrx) ?_ hys hlim hK
                  generalize a.eval x = ux at hrx ⊢
                  cases hrx with
                  | sl0 A c _ _ hc => exact ⟨A, by rw [hc rfl]; rfl⟩
                  | sl _ _ _ _ h5 _ => exact ⟨_, by rw [h5.2 rfl]⟩
                · cases hK
            · cases hK
        · rename_i hx
          rw [hx] at hrx
          split at hK
          · rename_i hlim
            by_cases hys : ys = []
            · subst hys
              have hnews : news = [] := by have := hreps.len; simpa using this
              subst hnews
              generalize a.eval x = ux at hrx ⊢
              cases hrx with
              | nilsl A =>
                obtain ⟨w1, hw1, e1⟩ : ∃ w1, (match A with | some ad => (storeCells (ad.add (0 * ie.size)) []).run P w | none => .ok () w) = .ok () w1 ∧ w1 = w := by
                  cases A with
                  | none => exact ⟨w, rfl, rfl⟩
                  | some ad => exact ⟨w, rfl, rfl⟩
                subst e1
                have := (run_append (P := P) (ty := ty) (sLen := 0) (sCap := 0) (base := A) (olds := []) hd hu hie hz (by rw [hzk, hsz]) hbytes (by simp) hsrc (by
                  cases A with
                  | none => rfl
                  | some ad => simp [Builtin.firstCells]; rfl)).1 (by simp) _ hw1
                exact outv_put this h1 hst1 (.own0 _ _ _) (by simp) (by simp) trivial hK
            · have hl : 0 < ys.length := List.length_pos_iff.2 hys
              refine full (rows := []) ?_ ?_ (by omega) (by simpa using hlim) (by simpa using hK)
              · generalize a.eval x = ux at hrx ⊢
                cases hrx
                exact ⟨_, 0, rfl, by simp, fun h => absurd rfl h⟩
              · generalize a.eval x = ux at hrx ⊢
                cases hrx
                exact ⟨_, rfl⟩
          · cases hK
        · cases hK
      · cases hs
    · cases hs
  · cases hs

end
end Go.Zv
