/- Zv: the soundness of operations: boxes, literals, new slices. No condition. -/
import Derived.Test.YtdddbifjkkhpbaaGreatDoorZvNew
import Derived.Laws.MakeOwn
namespace Go.Zv
open Go

/-- What an operation with a value has to come to. -/
def OutV {R : Type} (E : Env) (r : R) (K : List V → Option R) (S : Nat → Prop) (who : Nat → Option Nat) (w : World) (a : Act) (dst : Option Nat) (res : Result Value) : Prop :=
  ∃ u w' σ' S' who', res = .ok u w' ∧ K σ' = some r ∧ Rel E S' who' w' (a.put dst u).tmps σ' ∧ Step S who w S' who' w'

section
variable {R : Type} {P : Program} {E : Env} {r : R} {K : List V → Option R} {S S' : Nat → Prop} {who who' : Nat → Option Nat} {w w' : World} {a : Act} {dst : Option Nat} {σ σ' : List V}

theorem outv_put {res : Result Value} {u : Value} {v : V} {O : List Nat} (hres : res = .ok u w') (h : Rel E S' who' w' a.tmps σ') (hst : Step S who w S' who' w')
    (hr : Rep S' w' u v O) (hn : O.Nodup) (hO : ∀ b ∈ O, (who' b = none ∧ ¬ S' b) ∧ (who b ≠ none ∨ w.heap.size ≤ b)) (hl : Link w' a.tmps σ' u v) (hK : K (put dst v σ') = some r) :
    OutV E r K S who w a dst res := by
  cases dst with
  | none => exact ⟨u, w', σ', S', who', hres, hK, h, hst⟩
  | some d =>
    obtain ⟨who2, h2, h3⟩ := h.put (d := d) hr hn (fun b hb => (hO b hb).1) hl
    refine ⟨u, w', _, S', who2, hres, hK, h2, ⟨hst.size, hst.keep, hst.sub, hst.new, fun b hb => ?_, hst.out⟩⟩
    rcases h3 b hb with h4 | h4
    · exact hst.own b h4
    · exact (hO b h4).2
theorem outv_val {res : Result Value} {u : Value} {v : V} (hres : res = .ok u w) (h : Rel E S who w a.tmps σ) (hr : Rep S w u v []) (hl : Link w a.tmps σ u v) (hK : K (put dst v σ) = some r) :
    OutV E r K S who w a dst res :=
  outv_put hres h (Step.refl _ _ _) hr (by simp) (by simp) hl hK

/-- A new row, owned. -/
theorem outv_new {res : Result Value} {u : Value} {v : V} {O : List Nat} {vs : List Value} {xs : List V} {cells : Array Value} {e : TypeId} (hres : res = .ok u (w.alloc (.cells cells e)))
    (h : Rel E S' who' w a.tmps σ') (hst : Step S who w S' who' w) (hr : Reps S' w vs xs O) (hL : Loose S' who who' O) (h0 : ∀ v ∈ vs, v.oneCell' = true) (hc : ∃ l, cells.toList = vs ++ l)
    (hv : Mem S' (w.alloc (.cells cells e)) w.heap.size 0 xs O → (∀ k, OpenRow k (w.alloc (.cells cells e)) w.heap.size cells.size) → Rep S' (w.alloc (.cells cells e)) u v (w.heap.size :: O))
    (hf : linkFree v = true) (hK : K (put dst v σ') = some r) : OutV E r K S who w a dst res := by
  obtain ⟨hm, hop, hno, hwn, hsn⟩ := alloc_sem h hr h0 cells e hc
  have hrep := hv hm hop
  refine outv_put hres (h.grow (Grows.alloc w _)) (hst.grow (Grows.alloc w _)) hrep (by simp [hno, hL.1]) (fun b hb => ?_) (hrep.link hf) hK
  rcases List.mem_cons.1 hb with rfl | hb
  · exact ⟨⟨hwn, hsn⟩, .inr (Nat.le_refl _)⟩
  · obtain ⟨g1, g2, g3⟩ := hL.2 b hb
    exact ⟨⟨g1, g2⟩, .inl g3⟩

theorem run_newVar {t : Nat} {u : Value} : (newVar t u).run P w = .ok ⟨w.heap.size, 0, none⟩ (w.alloc (.cells u.cells t)) := by
  simp [newVar, newRow]

theorem box_out {t : Nat} {x : Operand} (hT : ∀ i, E.tys t = some i → TyOK P t i) (h : Rel E S who w a.tmps σ)
    (hs : (match E.tys t with
      | some i => cond i.kind.isAgg
          (match opnd E σ x with
            | .agg cs => cond (goodCells cs) (if cs.length = i.size then K (put dst (.obox (boxed i.sk cs)) σ) else none) none
            | _ => none)
          (cellVal true i.kind σ (opnd E σ x) fun c σ' => K (put dst (.obox [c]) σ'))
      | none => none) = some r) : OutV E r K S who w a dst ((Instr.box t (a.eval x)).run P w) := by
  have hrun : (Instr.box t (a.eval x)).run P w = .ok (.pointer (some ⟨w.heap.size, 0, none⟩)) (w.alloc (.cells (a.eval x).cells t)) := by
    simp only [Instr.box, Sem.run_bind, run_newVar, Result.andThen_ok, Sem.run_pure]
  obtain ⟨hrx, hlx⟩ := opnd_spec h x
  split at hs
  · rename_i i hi
    cases hag : i.kind.isAgg with
    | true =>
      rw [hag] at hs
      simp only [cond_true] at hs
      split at hs
      · rename_i cs hx
        rw [hx] at hrx
        cases hg : goodCells cs with
        | false => rw [hg] at hs; cases hs
        | true =>
          rw [hg] at hs
          simp only [cond_true] at hs
          split at hs
          · rename_i hlen
            cases hv : a.eval x with
            | agg us =>
              rw [hv] at hrx hrun
              cases hrx with
              | agg h0 hreps =>
                have hl := hreps.len
                exact outv_new hrun h (Step.refl _ _ _) (boxed_reps (sk := i.sk) hreps) ⟨by simp, by simp⟩ h0 ⟨[], by simp [Value.cells]⟩
                  (fun hm hop => .obox (by rw [boxed_len, ← hl]; simpa [Value.cells] using hop _) hm) rfl hs
            | _ => rw [hv] at hrx; cases hrx
          · cases hs
      · cases hs
    | false =>
      rw [hag] at hs
      simp only [cond_false] at hs
      obtain ⟨c, σ', S', who', O, h1, h2, h3, h4, _, _, hone, _, h5⟩ := cellVal_sem h hrx hlx hs
      have hcells : (a.eval x).cells = #[a.eval x] := by cases hv : a.eval x <;> first | rfl | (rw [hv] at hone; cases hone)
      rw [hcells] at hrun
      exact outv_new hrun h2 h5 (vs := [a.eval x]) (by simpa using Reps.cons h3 .nil) h4 (by simpa using hone) ⟨[], by simp⟩ (fun hm hop => .obox (by simpa using hop _) hm) rfl h1
  · cases hs

theorem alloc_out {t : Nat} (hT : ∀ i, E.tys t = some i → TyOK P t i) (h : Rel E S who w a.tmps σ)
    (hs : (match E.tys t with
      | some i => K (put dst (.obox (boxed i.sk i.zero)) σ)
      | none => none) = some r) : OutV E r K S who w a dst ((Instr.alloc t true (.tuple #[])).run P w) := by
  split at hs
  · rename_i i hi
    obtain ⟨ti, z, hti, hsz, hz, hzero, hzs, h0⟩ := (hT i hi).info
    have hrun : (Instr.alloc t true (.tuple #[])).run P w = .ok (.pointer (some ⟨w.heap.size, 0, none⟩)) (w.alloc (.cells z.cells t)) := by
      simp only [Instr.alloc, Sem.run_bind, run_zero w hti hz, run_newVar, Result.andThen_ok, Sem.run_pure]
    have hreps : Reps S w z.cells.toList (boxed i.sk i.zero) [] := by rw [hzero]; exact boxed_reps (ofScalars_rep S w _)
    exact outv_new hrun h (Step.refl _ _ _) hreps ⟨by simp, by simp⟩ h0 ⟨[], by simp⟩
      (fun hm hop => .obox (by rw [boxed_len, hzero]; simpa using hop _) hm) rfl hs
  · cases hs

theorem build_out {t : Nat} {parts : Array (Nat × Operand)} (hT : ∀ i, E.tys t = some i → TyOK P t i) (h : Rel E S who w a.tmps σ)
    (hs : (match E.tys t with
      | some i => match i.kind with
        | .struct fs => fillCells (fun j => (fs[j]?).map fun f => (f.1, f.2.2)) false E parts.toList i.zero σ fun cs σ' => K (put dst (.agg cs) σ')
        | .arr n k _ => fillCells (fun j => some (j * k, k)) false E parts.toList i.zero σ fun cs σ' => K (put dst (.agg cs) σ')
        | _ => none
      | none => none) = some r) : OutV E r K S who w a dst ((Instr.build t (parts.map fun (i, x) => (i, a.eval x))).run P w) := by
  split at hs
  · rename_i i hi
    have hTi := hT i hi
    obtain ⟨ti, z, hti, hsz, hz, hzero, hzs, h0⟩ := hTi.info
    obtain ⟨d, hd, hk⟩ := hTi.under
    have hreps : Reps S w z.cells.toList i.zero [] := by rw [hzero]; exact ofScalars_rep S w _
    have hparts : (parts.map fun (i, x) => (i, a.eval x)).toList = parts.toList.map fun x => (x.1, a.eval x.2) := by simp
    have fin : ∀ {cs : List V} {σ' : List V} {S' : Nat → Prop} {who' : Nat → Option Nat} {O : List Nat} {acc' : Array Value}, P.built t (parts.toList.map fun x => (x.1, a.eval x.2)) = some acc' → K (put dst (.agg cs) σ') = some r →
        Rel E S' who' w a.tmps σ' → Reps S' w acc'.toList cs O → O = [] → (∀ v ∈ acc'.toList, v.oneCell' = true) → Step S who w S' who' w → OutV E r K S who w a dst ((Instr.build t (parts.map fun (i, x) => (i, a.eval x))).run P w) := by
      intro cs σ' S' who' O acc' hb hK h2 h3 hO h4 h5
      subst hO
      exact outv_put (run_build w t _ acc' (by rw [hparts]; exact hb)) h2 h5 (.agg h4 h3) (by simp) (by simp) trivial hK
    split at hs
    · rename_i l hkind
      cases d <;> simp only [KindOK, hkind, reduceCtorEq] at hk
      case slice e => obtain ⟨_, _, _, _, h, _⟩ := hk; cases h
      case array n e => obtain ⟨h, _⟩ := hk; cases h
      case struct fs =>
        obtain ⟨l', hl', e2, hfs⟩ := hk
        cases hl'
        obtain ⟨cs, σ', S', who', O, acc', g1, g2, g3, g4, g5, g6, g7, g8, g9⟩ := fill_sem _ false (who0 := who) parts.toList h hreps ⟨by simp, by simp⟩ h0 (fun _ => rfl) (fun _ h => h) hs
        refine fin ?_ g2 g3 g4 (g7 rfl) g6 g8
        have hplaces : fs.toList.mapM (fun f => (P.info? f.type).map fun i => (f.offset, i.size)) = some (fs.toList.map fun f => (f.offset, P.cellsOf f.type)) := by
          have : ∀ l : List Field, (∀ f ∈ l, ∃ ti, P.info? f.type = some ti) → l.mapM (fun f => (P.info? f.type).map fun i => (f.offset, i.size)) = some (l.map fun f => (f.offset, P.cellsOf f.type)) := by
            intro l
            induction l with
            | nil => intro _; rfl
            | cons f l ih =>
              intro hl
              obtain ⟨ti, hti⟩ := hl f (by simp)
              simp [List.mapM_cons, hti, ih fun f hf => hl f (by simp [hf]), cellsOf_info hti]
          exact this _ hfs
        simp only [Program.built, hti, hd, hz, hplaces]
        rw [← g1]
        congr 1
        funext j
        subst e2
        simp only [List.getElem?_toArray, List.getElem?_map]
        cases fs.toList[j]? <;> rfl
    · rename_i n k e0 hkind
      cases d <;> simp only [KindOK, hkind, reduceCtorEq] at hk
      case slice e => obtain ⟨_, _, _, _, h, _⟩ := hk; cases h
      case struct fs => obtain ⟨_, h, _⟩ := hk; cases h
      case array n' e =>
        obtain ⟨h1, hpos, ie, hie⟩ := hk
        cases h1
        obtain ⟨cs, σ', S', who', O, acc', g1, g2, g3, g4, g5, g6, g7, g8, g9⟩ := fill_sem _ false (who0 := who) parts.toList h hreps ⟨by simp, by simp⟩ h0 (fun _ => rfl) (fun _ h => h) hs
        refine fin ?_ g2 g3 g4 (g7 rfl) g6 g8
        simp only [Program.built, hti, hd, hz, hie]
        rw [← g1, cellsOf_info hie]
    · cases hs
  · cases hs

theorem zeros_reps {z : Value} {k n : Nat} (hk : z.cells.size = k) (hpos : 0 < k) :
    Reps S w ((Array.range n).map (fun j => z.cells[j % z.cells.size]!)).toList ((List.range n).map fun j => (z.cells.toList.map ofScalar).getD (j % k) .undef) [] ∧
      ((∀ c ∈ z.cells.toList, c.oneCell' = true) → ∀ v ∈ ((Array.range n).map (fun j => z.cells[j % z.cells.size]!)).toList, v.oneCell' = true) := by
  have e1 : ((Array.range n).map (fun j => z.cells[j % z.cells.size]!)).toList = (List.range n).map fun j => z.cells[j % k]! := by
    rw [Array.toList_map, Array.toList_range, hk]
  have hlt : ∀ j, j % k < z.cells.size := fun j => by rw [hk]; exact Nat.mod_lt _ hpos
  have e2 : ((List.range n).map fun j => (z.cells.toList.map ofScalar).getD (j % k) .undef) = ((List.range n).map fun j => z.cells[j % k]!).map ofScalar := by
    rw [List.map_map]
    apply List.map_congr_left
    intro j _
    have := hlt j
    simp [List.getD_eq_getElem?_getD, Function.comp, this, getElem!_pos]
  rw [e1, e2]
  refine ⟨ofScalars_rep S w _, fun h v hv => ?_⟩
  obtain ⟨j, _, rfl⟩ := List.mem_map.1 hv
  have := hlt j
  rw [getElem!_pos z.cells (j % k) this]
  exact h _ (by simp)

theorem buildSlice_out {t len : Nat} {nest : Bool} {parts : Array (Nat × Operand)} (hT : ∀ i, E.tys t = some i → TyOK P t i) (h : Rel E S who w a.tmps σ)
    (hs : (match E.tys t with
      | some i => match i.kind with
        | .slice k _ => if len * k ≤ 65536 then
            fillCells (fun j => some (j * k, k)) nest E parts.toList ((List.range (len * k)).map fun j => i.ez.getD (j % k) .undef) σ fun cs σ' =>
              K (put dst (.own nest k (chunks len k (stripAll cs))) σ')
          else none
        | _ => none
      | none => none) = some r) : OutV E r K S who w a dst ((Instr.buildSlice t len (parts.map fun (i, x) => (i, a.eval x))).run P w) := by
  split at hs
  · rename_i i hi
    obtain ⟨d, hd, hk⟩ := (hT i hi).under
    split at hs
    · rename_i k b hkind
      split at hs
      · rename_i hle
        cases d <;> simp only [KindOK, hkind, reduceCtorEq] at hk
        case array n e => obtain ⟨h, _⟩ := hk; cases h
        case struct fs => obtain ⟨_, h, _⟩ := hk; cases h
        case slice e =>
          obtain ⟨ie, z, hie, hz, h1, hez, hsz, hpos, h0⟩ := hk
          cases h1
          have hz0 := zeros_reps (S := S) (w := w) (n := len * ie.size) hsz.symm hpos
          rw [hez] at hs
          obtain ⟨cs, σ', S', who', O, acc', g1, g2, g3, g4, g5, g6, g7, g8, g9⟩ := fill_sem _ nest (who0 := who) parts.toList h hz0.1 ⟨by simp, by simp⟩ (hz0.2 h0) (fun _ => rfl) (fun _ h => h) hs
          have hparts : (parts.map fun (i, x) => (i, a.eval x)).toList = parts.toList.map fun x => (x.1, a.eval x.2) := by simp
          have hrun : (Instr.buildSlice t len (parts.map fun (i, x) => (i, a.eval x))).run P w = .ok (.slice (some ⟨w.heap.size, 0, none⟩) len len) (w.alloc (.cells acc' e)) := by
            have hns : ¬ len * ie.size > 2 ^ 24 := by omega
            by_cases h0' : len = 0
            · subst h0'
              have g1' : Instr.fill (fun j => some (j * ie.size, ie.size)) #[] (parts.toList.map fun x => (x.1, a.eval x.2)) = some acc' := by
                rw [← g1]; congr 1; simp
              simp [Instr.buildSlice, run_under w hd, run_sizeOf w hie, show Array.range 0 = #[] from by simp, g1', newRow]
            · have h0'' : ¬ len * ie.size = 0 := by
                intro hc
                rcases Nat.mul_eq_zero.1 hc with h | h
                · exact h0' h
                · omega
              simp only [Instr.buildSlice, Sem.run_bind, run_under w hd, Result.andThen_ok, run_sizeOf w hie, hns, if_false, h0'', run_zero w hie hz, Sem.run_pure]
              rw [hparts]
              simp only [g1, newRow, Sem.run_bind, run_newObj, Result.andThen_ok, Sem.run_pure, World.alloc_eq]
          have hlen : cs.length = len * ie.size := by rw [g9]; simp
          obtain ⟨c1, c2, c3⟩ := chunks_flatten (k := ie.size) (n := len) (cs := stripAll cs) (by rw [strip_len]; exact hlen)
          have hal : acc'.size = len * ie.size := by have := g4.len; rw [hlen] at this; simpa using this
          by_cases hl0 : len = 0
          · subst hl0
            have hc0 : chunks 0 ie.size (stripAll cs) = [] := by simpa using c3
            rw [hc0] at g2
            refine outv_put hrun (g3.grow (Grows.alloc w _)) (g8.grow (Grows.alloc w _)) (.own0 _ _ _) (by simp) (by simp) trivial g2
          · refine outv_new hrun g3 g8 (strip_repsO g4) g5 g6 ⟨[], by simp⟩ (fun hm hop => ?_) rfl g2
            have := Rep.own (S := S') (w := w.alloc (.cells acc' e)) (b := w.heap.size) (o := 0) (c := len) (n := nest) hpos c2 (by rw [Nat.zero_add, ← hal]; exact (hop _)) (by rw [c3]; exact Nat.le_refl _) (fun hn => g7 hn) (by rw [c1]; exact hm)
            rw [c3] at this
            exact this
      · cases hs
    · cases hs
  · cases hs

theorem replicate_flatten {k : Nat} (l : List V) (hl : l.length = k) : ∀ n : Nat, (List.replicate n l).flatten.length = n * k ∧ ∀ j, j < n * k → (List.replicate n l).flatten.getD j .undef = l.getD (j % k) .undef := by
  intro n
  have h1 : (List.replicate n l).flatten.length = n * k := by rw [flatten_length (k := k) (fun r hr => by rw [List.eq_of_mem_replicate hr]; exact hl)]; simp
  refine ⟨h1, fun j hj => ?_⟩
  have hk : 0 < k := by
    rcases Nat.eq_zero_or_pos k with h | h
    · subst h; simp at hj
    · exact h
  have hd : j / k < n := Nat.div_lt_of_lt_mul (by rw [Nat.mul_comm]; exact hj)
  have := flatten_getD (rows := List.replicate n l) (k := k) (i := j / k) (j := j % k) (fun r hr => by rw [List.eq_of_mem_replicate hr]; exact hl) (by simpa using hd) (Nat.mod_lt _ hk)
  rw [show j / k * k + j % k = j by rw [Nat.mul_comm]; exact Nat.div_add_mod j k] at this
  rw [this]
  simp [List.getD_eq_getElem?_getD, List.getElem?_replicate, hd]

theorem makeSlice_out {t : Nat} {nest : Bool} {l c : Operand} (hT : ∀ i, E.tys t = some i → TyOK P t i) (h : Rel E S who w a.tmps σ)
    (hs : (match E.tys t, opnd E σ l, opnd E σ c with
      | some i, .int _ x, .int _ y => match i.kind with
        | .slice k b => if 0 ≤ x ∧ x ≤ y ∧ y ≤ lim ∧ b ≤ 65536 then K (put dst (.own nest k (List.replicate x.toNat i.ez)) σ) else none
        | _ => none
      | _, _, _ => none) = some r) : OutV E r K S who w a dst ((Instr.makeSlice t (a.eval l) (a.eval c)).run P w) := by
  obtain ⟨hrl, _⟩ := opnd_spec h l
  obtain ⟨hrc, _⟩ := opnd_spec h c
  split at hs
  · rename_i i kx x ky y hi hl hc
    rw [hl] at hrl
    rw [hc] at hrc
    generalize hvl : a.eval l = vl at *
    generalize hvc : a.eval c = vc at *
    cases hrl with
    | int =>
    cases hrc with
    | int =>
    obtain ⟨d, hd, hk⟩ := (hT i hi).under
    split at hs
    · rename_i k b hkind
      split at hs
      · rename_i hle
        obtain ⟨hx0, hxy, hyl, hb⟩ := hle
        cases d <;> simp only [KindOK, hkind, reduceCtorEq] at hk
        case array n e => obtain ⟨h, _⟩ := hk; cases h
        case struct fs => obtain ⟨_, h, _⟩ := hk; cases h
        case slice e =>
          obtain ⟨ie, z, hie, hz, h1, hez, hsz, hpos, h0⟩ := hk
          cases h1
          have hlim : (lim : Int) = 2147483648 := rfl
          rw [hlim] at hyl
          have wx : IntKind.i64.wrap x = x := by simp [IntKind.wrap, IntKind.bits, IntKind.signed]; omega
          have wy : IntKind.i64.wrap y = y := by simp [IntKind.wrap, IntKind.bits, IntKind.signed]; omega
          have hby : (ie.bytes : Int) * y ≤ 2 ^ 48 := by
            have : (ie.bytes : Int) * y ≤ 65536 * 2147483648 := Int.mul_le_mul (by omega) hyl (by omega) (by omega)
            omega
          have hrun : (Instr.makeSlice t (.int kx x) (.int ky y)).run P w = .ok (.slice (some ⟨w.heap.size, 0, none⟩) x.toNat y.toNat) (w.alloc (.cells ((Array.range (y.toNat * ie.size)).map (z.cells[· % z.cells.size]!)) e)) := by
            have := run_make (P := P) w t e ie z hd hie hz kx ky x y hx0 hxy (by simpa using hby) (by omega)
            rw [this]
            rfl
          have hez' : i.ez.length = ie.size := by rw [hez]; simp [hsz]
          have hz0 := zeros_reps (S := S) (w := w) (n := y.toNat * ie.size) hsz.symm hpos
          have hz1 := zeros_reps (S := S) (w := w) (n := x.toNat * ie.size) hsz.symm hpos
          obtain ⟨f1, f2⟩ := replicate_flatten i.ez hez' x.toNat
          have hflat : (List.range (x.toNat * ie.size)).map (fun j => (z.cells.toList.map ofScalar).getD (j % ie.size) V.undef) = (List.replicate x.toNat i.ez).flatten := by
            apply List.ext_getElem?
            intro j
            by_cases hj : j < x.toNat * ie.size
            · have := f2 j hj
              rw [hez] at this
              rw [List.getD_eq_getElem?_getD, List.getElem?_eq_getElem (by rw [← hez, f1]; exact hj)] at this
              rw [List.getElem?_map, List.getElem?_range hj, hez, List.getElem?_eq_getElem (by rw [← hez, f1]; exact hj)]
              simp only [Option.map_some, Option.some.injEq]
              simpa using this.symm
            · rw [List.getElem?_eq_none (by simp; omega), List.getElem?_eq_none (by rw [f1]; omega)]
          by_cases hx : x.toNat = 0 ∧ y.toNat = 0
          · rw [hx.1, hx.2] at hrun
            rw [hx.1] at hs
            exact outv_put hrun (h.grow (Grows.alloc w _)) ((Step.refl _ _ _).grow (Grows.alloc w _)) (.own0 _ _ _) (by simp) (by simp) trivial hs
          · have hpre : ∃ l, ((Array.range (y.toNat * ie.size)).map (fun j => z.cells[j % z.cells.size]!)).toList = ((Array.range (x.toNat * ie.size)).map (fun j => z.cells[j % z.cells.size]!)).toList ++ l := by
              refine ⟨((List.range (y.toNat * ie.size)).drop (x.toNat * ie.size)).map (fun j => z.cells[j % z.cells.size]!), ?_⟩
              have hle : x.toNat * ie.size ≤ y.toNat * ie.size := Nat.mul_le_mul_right _ (by omega)
              simp only [Array.toList_map, Array.toList_range, ← List.map_append]
              congr 1
              conv => lhs; rw [← List.take_append_drop (x.toNat * ie.size) (List.range (y.toNat * ie.size))]
              congr 1
              rw [List.take_range, Nat.min_eq_left hle]
            refine outv_new hrun h (Step.refl _ _ _) hz1.1 ⟨by simp, by simp⟩ (hz1.2 h0) hpre (fun hm hop => ?_) rfl hs
            rw [hflat] at hm
            have := Rep.own (S := S) (w := w.alloc (.cells ((Array.range (y.toNat * ie.size)).map (z.cells[· % z.cells.size]!)) e)) (b := w.heap.size) (o := 0) (c := y.toNat) (n := nest) (k := ie.size) (rows := List.replicate x.toNat i.ez) hpos
              (fun r hr => by rw [List.eq_of_mem_replicate hr]; exact hez') (by simpa using hop _) (by simp; omega) (fun _ => rfl) hm
            simpa using this
      · cases hs
    · cases hs
  · cases hs

end
end Go.Zv
