/- Zv: the soundness of operations: conversions. No condition. -/
import Derived.Test.YtdddbifjkkhpbaaGreatDoorZvOp6
import Derived.Lib.ConvBytes
import Derived.Laws.BytesString
namespace Go.Zv
open Go

section
variable {R : Type} {P : Program} {E : Env} {r : R} {K : List V → Option R} {S S' : Nat → Prop} {who who' : Nat → Option Nat} {w w' : World} {a : Act} {dst : Option Nat} {σ σ' : List V}

theorem asBytes_sem : ∀ {rows : List (List V)} {s : List UInt8}, asBytes rows = some s → (∀ r ∈ rows, r.length = 1) →
    ∃ ns : List Int, rows.flatten = ns.map (V.int .u8) ∧ s = ns.map (fun n => UInt8.ofNat n.toNat) ∧ rows.length = ns.length
  | [], s, h, _ => by cases h; exact ⟨[], rfl, rfl, rfl⟩
  | r :: rows, s, h, hl => by
    unfold asBytes at h
    cases e : asInt .u8 (r.getD 0 .undef) with
    | none => rw [e] at h; cases h
    | some n =>
      rw [e] at h
      simp only [Option.bind_some] at h
      cases e2 : asBytes rows with
      | none => rw [e2] at h; cases h
      | some s' =>
        rw [e2] at h
        cases h
        obtain ⟨ns, h1, h2, h3⟩ := asBytes_sem e2 fun r hr => hl r (by simp [hr])
        have hr1 := hl r (by simp)
        match r, hr1 with
        | [x], _ =>
          have hx : x = .int .u8 n := by
            simp only [List.getD_cons_zero] at e
            unfold asInt at e
            split at e
            · split at e
              · rename_i hk; subst hk; cases e; rfl
              · cases e
            · cases e
          subst hx
          exact ⟨n :: ns, by simp [h1], by simp [h2], by simp [h3]⟩

theorem Mem.ints {b : Nat} : ∀ {o : Nat} {ns : List Int} {O : List Nat}, Mem S w b o (ns.map (V.int .u8)) O → ∀ j v, (ns.map (Value.int .u8))[j]? = some v → w.cell? ⟨b, o + j, none⟩ = some v
  | _, [], _, _, _, _, h => by simp at h
  | o, n :: ns, _, .cons h1 h0 h2 h3, j, v, h => by
    cases j with
    | zero =>
      simp only [List.map_cons, List.getElem?_cons_zero, Option.some.injEq] at h
      subst h
      cases h2
      exact h1
    | succ j =>
      have := Mem.ints h3 j v (by simpa using h)
      rw [Nat.add_assoc, Nat.add_comm 1 j] at this
      exact this

theorem run_bytes_str {s : Nat} {u : Value} {rows : List (List V)} {bs : List UInt8} {src dst : Nat} (hE : EnvOK P E) (hu8 : E.u8s src = true) (hd : P.underlying dst = some .string) (hR : RowsIn S w u 1 rows) (hb : asBytes rows = some bs) :
    (convert src dst u).run P w = .ok (.string ⟨bs.toArray⟩) w := by
  obtain ⟨A, c, rfl, hl, hA⟩ := hR
  obtain ⟨e, ie, h1, h2, h3, h4⟩ := hE.u8 _ hu8
  obtain ⟨ns, g1, g2, g3⟩ := asBytes_sem hb hl
  rw [run_convert_bytes_string w src dst e A rows.length c h1 h2 hd]
  have fin : ∀ ns : List Int, ns.foldl (fun r n => r.push (UInt8.ofNat n.toNat)) ByteArray.empty = ⟨(ns.map fun n => UInt8.ofNat n.toNat).toArray⟩ := by
    have : ∀ (ns : List Int) (r : ByteArray), ns.foldl (fun r n => r.push (UInt8.ofNat n.toNat)) r = ⟨r.data ++ (ns.map fun n => UInt8.ofNat n.toNat).toArray⟩ := by
      intro ns
      induction ns with
      | nil => intro r; simp
      | cons n ns ih =>
        intro r
        rw [List.foldl_cons, ih]
        simp [ByteArray.push, Array.append_assoc]
    intro ns
    rw [this]
    have he0 : ByteArray.empty.data = #[] := rfl
    simp [he0]
  by_cases hr : rows = []
  · subst hr
    have : ns = [] := List.eq_nil_of_length_eq_zero (by simpa using g3.symm)
    subst this
    subst g2
    cases A with
    | none => rfl
    | some a =>
      rw [show ([] : List (List V)).length = 0 from rfl, run_bytesToString w a 0 c [] (by simpa using run_loadCells_list (P := P) w a [] (by simp)), fin]
  · obtain ⟨_, b, o, rfl, hm⟩ := hA hr
    rw [g1] at hm
    rw [run_bytesToString w _ _ c ns (by
      have := run_loadCells_list (P := P) w ⟨b, o, none⟩ (ns.map (Value.int .u8)) (fun j v hj => by rw [add_none]; exact hm.ints j v hj)
      rw [g3]
      simpa using this), fin, g2]

theorem bytesV_reps : ∀ s : List UInt8, Reps S w (s.map fun b => Value.int .u8 b.toNat) (bytesV s).flatten []
  | [] => .nil
  | b :: s => by simpa [bytesV] using Reps.cons (.int .u8 b.toNat) (bytesV_reps s)

theorem convert_out {src d : Nat} {x : Operand} (hE : EnvOK P E) (h : Rel E S who w a.tmps σ) (hs : evConvert E src d σ (opnd E σ x) (fun v σ' => K (put dst v σ')) = some r) :
    OutV E r K S who w a dst ((convert src d (a.eval x)).run P w) := by
  obtain ⟨hr, hl⟩ := opnd_spec h x
  unfold evConvert at hs
  split at hs
  · cases hs
  rename_i si hsi
  obtain ⟨sd, hsd, _⟩ := (hE.ty _ _ hsi).under
  split at hs
  · -- an owned slice of bytes, marked
    rename_i k bb r0 hk hx
    cases hc : (Nat.beq src d && E.u8s d) with
    | false => rw [hc] at hs; cases hs
    | true =>
      rw [hc] at hs
      simp only [cond_true] at hs
      rw [Bool.and_eq_true] at hc
      have hsd : src = d := Nat.eq_of_beq_eq_true hc.1
      subst hsd
      obtain ⟨e, ie, h1, h2, h3, h4⟩ := hE.u8 _ hc.2
      split at hs
      · rename_i n k' rows hg
        split at hs
        · cases hs
        · rename_i row rows
          split at hs
          · rename_i hkk; subst hkk
            rw [hx] at hl
            have hu : a.eval x = a.tmps.getD r0 undef := by
              rcases hl with ⟨_, hl⟩ | ⟨q, i, j, c, X, b, o, e, _⟩
              · exact hl (by rw [hg]; trivial)
              · simp at e
            have hf : Follow w (a.tmps.getD r0 undef) (gt σ r0) [] (a.tmps.getD r0 undef) (gt σ r0) := .nil _ _
            obtain ⟨OX, who', g1, g2, g3, g4, g5⟩ := take_sem h hf (by rw [hg]; simp)
            rw [hu]
            rw [hg] at g1
            generalize a.tmps.getD r0 undef = u at g1 ⊢
            generalize hrows : row :: rows = rs at g1 hs
            cases g1 with
            | own0 => simp at hrows
            | @own b o c _ _ _ O m1 m2 m3 m4 m5 m6 =>
              obtain ⟨cs, t, lo, hi, q1, q2, q3⟩ := m3
              have hk1 : k' = 1 := by
                obtain ⟨ti, e', ie', z', _, hd', hie', _, hsz', _⟩ := kind_slice hE hk
                rw [h1] at hd'; cases hd'
                rw [h3] at hie'; cases hie'
                omega
              -- the mark
              obtain ⟨w2, hw2, lo', hi', q4, q5, q6⟩ : ∃ w2, (markStringish ⟨b, o, none⟩).run P w = .ok () w2 ∧ ∃ lo' hi', w2.heap[b]? = some (.cells cs t (lo', hi')) ∧ (lo' = hi' ∨ (k' = 1 ∧ cs.size ≤ lo')) ∧
                  (w2.heap.size = w.heap.size ∧ (∀ b', b' ≠ b → w2.heap[b']? = w.heap[b']?) ∧ Same w w2) := by
                refine ⟨w.freeze ⟨b, cs.size, none⟩ 1, ?_, ?_⟩
                · simp only [markStringish, Sem.run_bind, run_shape, Result.andThen_ok, World.shape?, q1, run_freeze]
                · have hb : b < w.heap.size := lt_of_some q1
                  have hz : (w.freeze ⟨b, cs.size, none⟩ 1).heap.size = w.heap.size := by simp [World.freeze]
                  have ho : ∀ b', b' ≠ b → (w.freeze ⟨b, cs.size, none⟩ 1).heap[b']? = w.heap[b']? := fun b' hne => by
                    simp [World.freeze, Array.getElem?_modify, Ne.symm hne]
                  have hget : (w.freeze ⟨b, cs.size, none⟩ 1).heap[b]? = some (.cells cs t (if lo == hi then (cs.size, cs.size + 1) else (min lo cs.size, max hi (cs.size + 1)))) := by
                    simp [World.freeze, Array.getElem?_modify, q1]
                  by_cases hlh : lo = hi
                  · subst hlh
                    exact ⟨_, _, by simpa using hget, .inr ⟨hk1, Nat.le_refl _⟩, hz, ho, ⟨rfl, rfl, rfl⟩⟩
                  · rcases q3 with q3 | ⟨_, q3⟩
                    · exact absurd q3 hlh
                    · have hne : (lo == hi) = false := by simpa using hlh
                      rw [hne] at hget
                      exact ⟨_, _, hget, .inr ⟨hk1, by show cs.size ≤ min lo cs.size; omega⟩, hz, ho, ⟨rfl, rfl, rfl⟩⟩
              have hwb : who b ≠ none := (g3 b (by simp)).1
              have hsb : ∀ b', S b' → w2.heap[b']? = w.heap[b']? := fun b' hb' => q6.2.1 b' fun e => (g3 b (by simp)).2.2 (e ▸ hb')
              have hrel : Rel E S who' w2 a.tmps (setPlace σ r0 [] .undef) :=
                g4.world hsb (fun b' hb' => q6.2.1 b' fun e => hb' (e ▸ (g3 b (by simp)).2.1)) (Nat.le_of_eq q6.1.symm) (fun _ h => h) g4.sep (fun b' hb' => by rw [q6.1]; exact g4.low b' hb')
              have hst : Step S who w S who' w2 := ⟨Nat.le_of_eq q6.1.symm, fun b' _ hn => q6.2.1 b' (fun e => hwb (e ▸ hn)), fun _ h => h, fun _ h => .inl h, fun b' hb' => (g5.own b' hb').imp id fun h => h, q6.2.2⟩
              have hO : ∀ b' ∈ O, b' ≠ b := fun b' hb' e => by simp only [List.nodup_cons] at g2; exact g2.1 (e ▸ hb')
              have hrep : Rep S w2 (.slice (some ⟨b, o, none⟩) rs.length c) (.own n k' rs) (b :: O) :=
                .own m1 m2 ⟨cs, t, lo', hi', q4, q2, q5⟩ m4 m5 (m6.other (fun _ h => h) hsb (fun j _ => by simp [World.cell?, q4, q1]) fun b' hb' => q6.2.1 b' (hO b' hb'))
              refine outv_put (u := .slice (some ⟨b, o, none⟩) rs.length c) ?_ hrel hst hrep g2 (fun b' hb' => ⟨⟨(g3 b' hb').2.1, (g3 b' hb').2.2⟩, .inl (g3 b' hb').1⟩) trivial hs
              simp [convert, run_under w h1, run_under w h2, hw2]
          · cases hs
      · cases hs
  · -- whole numbers
    rename_i k kk n hk hx
    rw [hx] at hr
    have hd := kind_int hE hk
    generalize a.eval x = u at *
    cases hr
    refine outv_val ?_ h (.int _ _) trivial hs
    simp [convert, run_under w hsd, run_under w hd, Conv.intToInt]
  · rename_i bs hk hx
    rw [hx] at hr
    have hd := kind_str hE hk
    generalize a.eval x = u at *
    cases hr with
    | str s =>
      refine outv_val (u := .string s) ?_ h (.str s) trivial hs
      simp [convert, run_under w hsd, run_under w hd]
  · rename_i kk n hk hx
    rw [hx] at hr
    have hd := kind_str hE hk
    generalize a.eval x = u at *
    cases hr
    refine outv_val (u := .string (Utf8.encode n)) ?_ h (.str _) trivial hs
    simp [convert, run_under w hsd, run_under w hd, Conv.intToString]
  · rename_i kk bb bs hk hx
    cases hu8 : E.u8s d with
    | false => rw [hu8] at hs; cases hs
    | true =>
      rw [hu8] at hs
      simp only [cond_true] at hs
      obtain ⟨e, ie, h1, h2, h3, h4⟩ := hE.u8 _ hu8
      rw [hx] at hr
      generalize a.eval x = u at *
      cases hr with
      | str s =>
        have hrun := Lib.run_convert_string_bytes (P := P) w src d e s hsd h1 h2
        have hg : Grows w (Lib.bytesWorld w e s) := ⟨by rw [Lib.bytesWorld_size]; omega, fun b hb => Lib.bytesWorld_at_old w e s b hb, ⟨rfl, rfl, rfl⟩⟩
        have hnew : who w.heap.size = none := by
          cases e : who w.heap.size with
          | none => rfl
          | some x => have := h.lowO _ x e; omega
        have hcap := grownCap_ge w s.size 0 e
        have hsz : (Lib.bytesCells w e s).size = grownCap w s.size 0 e := by
          have : s.data.size = s.size := rfl
          simp only [Lib.bytesCells, Array.size_append, Array.size_map, Array.size_replicate, this]; omega
        have hlen : (bytesV s.data.toList).length = s.size := by simp [bytesV]
        have hm : Mem S (Lib.bytesWorld w e s) w.heap.size 0 (bytesV s.data.toList).flatten [] := by
          refine Mem.fresh (bytesV_reps s.data.toList) (by intro v hv; obtain ⟨b, _, rfl⟩ := List.mem_map.1 hv; rfl) fun j hj => ?_
          have hj' : j < s.size := by simpa using hj
          rw [Nat.zero_add, Lib.bytesWorld_cell w e s j hj']
          simp only [List.getD_eq_getElem?_getD, List.getElem?_map]
          rw [List.getElem?_eq_getElem (by simpa using hj)]
          rfl
        have hrep : Rep S (Lib.bytesWorld w e s) (.slice (some ⟨w.heap.size, 0, none⟩) s.size (grownCap w s.size 0 e)) (.own false 1 (bytesV s.data.toList)) [w.heap.size] := by
          have := Rep.own (S := S) (w := Lib.bytesWorld w e s) (b := w.heap.size) (o := 0) (c := grownCap w s.size 0 e) (n := false) (rows := bytesV s.data.toList) (k := 1) (by omega)
            (by intro r hr; obtain ⟨b, _, rfl⟩ := List.mem_map.1 hr; rfl) ⟨_, _, _, _, Lib.bytesWorld_at_new w e s, by rw [hsz]; omega, .inr ⟨rfl, Nat.le_refl _⟩⟩ (by rw [hlen]; exact hcap) (fun _ => rfl) hm
          rw [hlen] at this
          exact this
        exact outv_put hrun (h.grow hg) ((Step.refl _ _ _).grow hg) hrep (by simp) (fun b hb => by
          rw [List.mem_singleton] at hb; subst hb
          exact ⟨⟨hnew, fun hs => absurd (h.low _ hs) (by omega)⟩, .inr (Nat.le_refl _)⟩) trivial hs
  · rename_i hk _ _
    cases hu8 : E.u8s src with
    | false => rw [hu8] at hs; cases hs
    | true =>
      rw [hu8] at hs
      simp only [cond_true] at hs
      obtain ⟨rows, g1, g2⟩ := reads_sem h hr hl hs
      cases e : asBytes rows with
      | none => rw [e] at g1; cases g1
      | some bs =>
        rw [e] at g1
        simp only [Option.bind_some] at g1
        exact outv_val (v := .str bs) (run_bytes_str (s := 0) hE hu8 (kind_str hE hk) g2 e) h (by simpa using Rep.str (S := S) (w := w) ⟨bs.toArray⟩) trivial g1
  · cases hs

end
end Go.Zv
