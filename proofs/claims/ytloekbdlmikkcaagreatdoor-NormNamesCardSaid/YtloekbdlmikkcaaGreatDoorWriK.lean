/- Walks of the methods of strings.Builder and bytes.Buffer, with exact frames. No condition. -/
import Derived.Test.YtloekbdlmikkcaaGreatDoorProg
import Derived.Test.YtloekbdlmikkcaaGreatDoorShelfK
import Derived.Test.YtloekbdlmikkcaaGreatDoorWalkK
import Derived.Test.YtloekbdlmikkcaaGreatDoorZvK7
import Derived.Shelf.RegionOpenPlain
import Derived.Lib.Walk
import Derived.Lib.Builder
import Derived.Lib.UnsafeStr
import Derived.Lib.BufferWrite
import Derived.Lib.BufferMore
import Derived.Lib.Hide
import Derived.WalkKit
import Derived.RegionTactic
import Derived.Deep.RegionWith
import Derived.Deep.Draws
import Derived.BigCall
import Derived.BigGuard
import Derived.Laws.Externs
import Derived.Laws.MakeOwn
import Derived.Lib.SliceRun
import Derived.Lib.LazyBuf
set_option linter.unusedSimpArgs false
set_option linter.unusedVariables false
namespace Go.Proofs.YtloekbdlmikkcaaGreatDoor
open Go Go.RowKit Go.Proofs Go.Zv Go.Shelf
theorem sizeBuilder : ∃ j, Tryz.prog.info? 136 = some j ∧ j.size = 2 := by
 have h : (Tryz.prog.info? 136).map (·.size) = some 2 := by kernel_rfl
 exact Option.map_eq_some_iff.1 h
theorem liesBuilder : liesAt Tryz.prog Tryz.prog.depth 136 (2 / Tryz.prog.cellsOf 136) 0 136 1 = true := by kernel_rfl
theorem infoByte : ∃ i, Tryz.prog.info? 5 = some i ∧ i.zero = some (.int .u8 0) ∧ i.size = 1 ∧ i.bytes = 1 := by
 have h : (Tryz.prog.info? 5).map (fun i => (i.zero, i.size, i.bytes)) = some (some (.int .u8 0), 1, 1) := by kernel_rfl
 obtain ⟨i, h1, h2⟩ := Option.map_eq_some_iff.1 h
 simp only [Prod.mk.injEq] at h2
 exact ⟨i, h1, h2.1, h2.2.1, h2.2.2⟩
theorem isByte1 : (Tryz.prog.info? 5).map (·.size) = some 1 := by kernel_rfl
set_option maxHeartbeats 1000000 in
set_option maxRecDepth 100000 in
theorem check_used (b : Nat) (w : World) (h0 : w.cell? ⟨b, 0, none⟩ = some (.pointer (some ⟨b, 0, none⟩))) :
  Calls Tryz.prog 136 #[.pointer (some ⟨b, 0, none⟩)] w fun e w' => e = .returned (.tuple #[]) ∧ w' = w := by
 obtain ⟨j, hj, _⟩ := sizeBuilder
 go_enter Tryz.func136, Tryz.ntmps136
 go_wp2
 rw [Lib.run_neq_ptr_same w _ Tryz.underlying134 hj]
 go_wp2
 go_end0
 exact ⟨rfl, rfl⟩
set_option maxHeartbeats 1000000 in
set_option maxRecDepth 100000 in
theorem check_fresh (b : Nat) (w : World) (h0 : w.cell? ⟨b, 0, none⟩ = some (.pointer none)) (hsh : w.shape? b = some (136, 2)) (hfz : w.frozen? ⟨b, 0, none⟩ = false) :
  Calls Tryz.prog 136 #[.pointer (some ⟨b, 0, none⟩)] w fun e w' => e = .returned (.tuple #[]) ∧ w' = w.setCell ⟨b, 0, none⟩ (.pointer (some ⟨b, 0, none⟩)) := by
 obtain ⟨j, hj, hjs⟩ := sizeBuilder
 go_enter Tryz.func136, Tryz.ntmps136
 go_wp2
 rw [Lib.run_to_unsafe w ⟨b, 0, none⟩ Tryz.underlying134 Tryz.underlying204 hj (by rw [hjs]; decide) hsh (Nat.zero_lt_succ 1)]
 simp only [Result.andThen]
 rw [Oper.upon_value]
 go_wp2
 rw [run_callFunc_extern Tryz.func172 (by kernel_rfl) (by kernel_rfl) (by kernel_rfl) (e := Extern.AbiNoEscape.same) (by kernel_rfl)]
 rw [Lib.run_noEscape]
 simp only [Result.andThen]
 rw [Oper.upon_value]
 go_wp2
 rw [Lib.run_from_unsafe w ⟨b, 0, none⟩ Tryz.underlying204 Tryz.underlying134 hj hsh liesBuilder]
 simp only [Result.andThen]
 rw [Oper.upon_value]
 go_wp2
 go_end0
 exact ⟨rfl, rfl⟩
set_option maxHeartbeats 1000000 in
set_option maxRecDepth 100000 in
theorem builder_step (b : Nat) (v : Value) (A : Option Addr) (n c : Nat) (s : ByteArray) (w w1 w2 : World)
  (hck : Calls Tryz.prog 136 #[.pointer (some ⟨b, 0, none⟩)] w fun e w' => e = .returned (.tuple #[]) ∧ w' = w1)
  (hbk : w1.heap[b]? = some (.cells #[.pointer (some ⟨b, 0, none⟩), v] 136 (0, 0)))
  (happ : (Builtin.append_ #[34, 9] 34 #[v, .string s]).run Tryz.prog w1 = .ok (.slice A n c) w2)
  (hb2 : w2.heap[b]? = some (.cells #[.pointer (some ⟨b, 0, none⟩), v] 136 (0, 0))) :
  Calls Tryz.prog 96 #[.pointer (some ⟨b, 0, none⟩), .string s] w fun e w' => e = .returned (.tuple #[.int .i64 s.size, .nilIface]) ∧ w' = w2.setCell ⟨b, 1, none⟩ (.slice A n c) := by
 have c1 : w1.cell? ⟨b, 1, none⟩ = some v := by rw [Lib.cell_of_heap hbk]; rfl
 have d1 : w2.cell? ⟨b, 1, none⟩ = some v := by rw [Lib.cell_of_heap hb2]; rfl
 have f1 : w2.frozen? ⟨b, 1, none⟩ = false := Lib.frozen_of_heap hb2 1
 go_enter Tryz.func96, Tryz.ntmps96
 go_wp2_with (go_at_call 136; refine hck.mono ?_)
 rintro e w1' ⟨rfl, rfl⟩
 go_wp2_with (at_builtin; refine wpList_append_eq rfl _ _ 34 9 rfl _ _ rfl rfl happ ?_)
 go_ret2
 exact ⟨rfl, rfl⟩
theorem builder_write (w : World) (b : Nat) (O : List Nat) (bs : List UInt8) (s : ByteArray) (h : LibBox w 0 136 5 b bs O) (hs : 1 ≤ s.size) (hle : bs.length + s.size ≤ lim) :
  Calls Tryz.prog 96 #[.pointer (some ⟨b, 0, none⟩), .string s] w fun ex w' => ex = .returned (.tuple #[.int .i64 s.size, .nilIface]) ∧ WriterOut w 0 136 5 b O (bs ++ s.data.toList) w' := by
 obtain ⟨i, hi, hz, hsz, hby⟩ := infoByte
 have hnd := h.nodup
 have hbO : b ∉ O := (List.nodup_cons.1 hnd).1
 rcases h with ⟨_, p, v, hbk, hp, hrow⟩ | ⟨h0, _⟩ | ⟨h0, _⟩
 ·
  have hlt := lt_of_some hbk
  have key : ∀ w1 : World, Calls Tryz.prog 136 #[.pointer (some ⟨b, 0, none⟩)] w (fun e w' => e = .returned (.tuple #[]) ∧ w' = w1) → w1.heap[b]? = some (.cells #[.pointer (some ⟨b, 0, none⟩), v] 136 (0, 0)) →
    w1.heap.size = w.heap.size → (∀ k, k ≠ b → w1.heap[k]? = w.heap[k]?) → Same w w1 →
    Calls Tryz.prog 96 #[.pointer (some ⟨b, 0, none⟩), .string s] w fun ex w' => ex = .returned (.tuple #[.int .i64 s.size, .nilIface]) ∧ WriterOut w 0 136 5 b O (bs ++ s.data.toList) w' := by
   intro w1 hck hb1 hsz1 hk1 hsame1
   have hrow1 : LibRow w1 5 b v bs O := hrow.of_heap fun y hy => hk1 y fun e => hbO (e ▸ hy)
   obtain ⟨v', w2, O', happ, hout⟩ := row_append_str (P := Tryz.prog) (ty := 34) Tryz.underlying34 Tryz.underlying9 hi hz hsz (by omega) hrow1 (by omega) s hs hle
   have hb2 : w2.heap[b]? = some (.cells #[.pointer (some ⟨b, 0, none⟩), v] 136 (0, 0)) := by rw [hout.keep b (by omega) hbO]; exact hb1
   obtain ⟨A, n, c, rfl⟩ : ∃ A n c, v' = .slice A n c := by
    rcases hout.row with ⟨h, _⟩ | ⟨g, cap, cur, _, h, _⟩
    ·
     exact ⟨_, _, _, h⟩
    ·
     exact ⟨_, _, _, h⟩
   refine (builder_step b v A n c s w w1 w2 hck hb1 happ hb2).mono ?_
   rintro e w' ⟨rfl, rfl⟩
   obtain ⟨O2, q1, q2, q3, q4, q5⟩ := hout.writer (kd := 0) rfl hbO (.inr rfl) hb1
   exact ⟨rfl, O2, q1, fun y hy => by rw [← hsz1]; exact q2 y hy, by rw [← hsz1]; exact q3, fun k hk hkb hn => by rw [q4 k (by omega) hkb hn]; exact hk1 k hkb, hsame1.trans q5⟩
  rcases hp with rfl | rfl
  ·
   refine key _ (check_fresh b w (by rw [Lib.cell_of_heap hbk]; rfl) (by simp [World.shape?, hbk]) (Lib.frozen_of_heap hbk 0)) ?_ (by simp [World.setCell]) (fun k hk => Below.heap_setCell _ _ _ _ fun e => hk (by simp [e])) ⟨rfl, rfl, rfl⟩
   simp [World.setCell, Array.getElem?_modify, hbk]
  ·
   exact key w (check_used b w (by rw [Lib.cell_of_heap hbk]; rfl)) hbk rfl (fun _ _ => rfl) (Same.refl _)
 ·
  cases h0
 ·
  cases h0
theorem builder_len (w : World) (b : Nat) (O : List Nat) (bs : List UInt8) (h : LibBox w 0 136 5 b bs O) :
  Calls Tryz.prog 97 #[.pointer (some ⟨b, 0, none⟩)] w fun ex w' => ex = .returned (.int .i64 bs.length) ∧ w' = w := by
 have hc : ∃ p v A c, w.heap[b]? = some (.cells #[p, v] 136 (0, 0)) ∧ v = .slice A bs.length c := by
  rcases h with ⟨_, p, v, hbk, hp, hrow⟩ | ⟨h0, _⟩ | ⟨h0, _⟩
  ·
   rcases hrow with ⟨rfl, rfl, rfl⟩ | ⟨g, cap, cur, _, rfl, _⟩
   ·
    exact ⟨p, _, none, 0, hbk, rfl⟩
   ·
    exact ⟨p, _, _, _, hbk, rfl⟩
  ·
   cases h0
  ·
   cases h0
 obtain ⟨p, v, A, c, hbk, rfl⟩ := hc
 have c1 : w.cell? ⟨b, 1, none⟩ = some (.slice A bs.length c) := by rw [Lib.cell_of_heap hbk]; rfl
 go_enter Tryz.func97, Tryz.ntmps97
 go_wp2
 go_ret
 exact ⟨rfl, rfl⟩
set_option maxHeartbeats 1000000 in
set_option maxRecDepth 100000 in
theorem builder_string (w : World) (b : Nat) (O : List Nat) (bs : List UInt8) (h : LibBox w 0 136 5 b bs O) (h0 : bs ≠ []) :
  Calls Tryz.prog 98 #[.pointer (some ⟨b, 0, none⟩)] w fun ex w' => ex = .returned (.string ⟨bs.toArray⟩) ∧ w.heap.size ≤ w'.heap.size ∧ (∀ k, k < w.heap.size → k ∉ O → w'.heap[k]? = w.heap[k]?) ∧ Same w w' := by
 have hc : ∃ p g cap cur, w.heap[b]? = some (.cells #[p, .slice (some ⟨g, 0, none⟩) bs.length cap] 136 (0, 0)) ∧ O = [g] ∧ g ≠ b ∧ w.heap[g]? = some (.cells cur 5 (0, 0)) ∧ bs.length ≤ cap ∧ cap ≤ maxLen ∧ cur.size = cap ∧ cur.toList.take bs.length = bs.map fun c => Value.int .u8 c.toNat := by
  rcases h with ⟨_, p, v, hbk, hp, hrow⟩ | ⟨h0, _⟩ | ⟨h0, _⟩
  ·
   rcases hrow with ⟨rfl, rfl, rfl⟩ | ⟨g, cap, cur, _, rfl, q⟩
   ·
    exact absurd rfl h0
   ·
    exact ⟨p, g, cap, cur, hbk, q⟩
  ·
   cases h0
  ·
   cases h0
 obtain ⟨p, g, cap, cur, hbk, rfl, hgb, hg, hlc, hcm, hcs, htk⟩ := hc
 have hl0 : bs.length ≠ 0 := by simpa using h0
 have c1 : w.drew.cell? ⟨b, 1, none⟩ = some (.slice (some ⟨g, 0, none⟩) bs.length cap) := by
  have : w.drew.heap[b]? = some (.cells #[p, .slice (some ⟨g, 0, none⟩) bs.length cap] 136 (0, 0)) := hbk
  rw [Lib.cell_of_heap this]; rfl
 have hSD : (Builtin.unsafeSliceData_ #[34] 175 #[.slice (some ⟨g, 0, none⟩) bs.length cap]).run Tryz.prog w.drew = .ok (.pointer (some ⟨g, 0, none⟩)) w.drew :=
  Lib.run_unsafeSliceData_row _ _ _ _ _ _ (by omega)
 have hUS : (Builtin.unsafeString_ #[175, 3] 9 #[.pointer (some ⟨g, 0, none⟩), .int .i64 bs.length]).run Tryz.prog w.drew = .ok (.string ⟨bs.toArray⟩) (w.drew.freeze ⟨g, 0, none⟩ bs.length) := by
  have hg' : w.drew.heap[g]? = some (.cells cur 5 (0, 0)) := hg
  refine Lib.run_unsafeString_row w.drew 175 3 9 5 Tryz.underlying175 (by kernel_rfl) g cur.size (by simp [World.shape?, hg']) bs h0 (by omega) (by unfold maxLen at hcm; omega) ?_
  intro j x hx
  have hadd : (⟨g, 0, none⟩ : Addr).add j = ⟨g, j, none⟩ := by unfold Addr.add; split <;> simp_all
  rw [hadd, Lib.cell_of_heap hg']
  have hjl : j < bs.length := (List.getElem?_eq_some_iff.1 hx).1
  have h1 := congrArg (·[j]?) htk
  simp only [List.getElem?_take, if_pos hjl, List.getElem?_map, hx, Option.map_some] at h1
  rw [← Array.getElem?_toList]; exact h1
 have mixed : Tryz.prog.follows .mixedOrders = true := by kernel_rfl
 go_enter Tryz.func98, Tryz.ntmps98
 go_wp2
 go_region_o
 all_goals (go_wp2; go_ret; exact ⟨rfl, by rw [freeze_size]; exact Nat.le_refl _, fun k hk hn => freeze_other _ _ _ (by simpa using hn), (show Same w w.drew from ⟨rfl, rfl, rfl⟩).trans (freeze_same _ _ _)⟩)
end Go.Proofs.YtloekbdlmikkcaaGreatDoor
namespace Go.Proofs.YtloekbdlmikkcaaGreatDoor
open Go Go.RowKit Go.Proofs Go.Zv Go.Shelf
theorem buf_len (w : World) (b : Nat) (v : Value) (lr : Int) (bs : List UInt8) (O : List Nat) (hbk : w.heap[b]? = some (.cells #[v, .int .i64 0, .int .i8 lr] 89 (0, 0))) (hrow : LibRow w 5 b v bs O) :
  Calls Tryz.prog 137 #[.pointer (some ⟨b, 0, none⟩)] w fun e w' => e = .returned (.int .i64 bs.length) ∧ w'.heap = w.heap ∧ Same w w' := by
 have hI : Lib.IsBuffer 89 5 0 b (u8cells bs) w := by
  refine ⟨Nat.zero_le _, v, lr, hbk, ?_, ?_⟩
  ·
   rcases hrow with ⟨rfl, rfl, rfl⟩ | ⟨g, cap, cur, _, rfl, rfl, hgb, hg, hlc, hcm, hcs, htk⟩
   ·
    exact World.ownsRow_nil _ _ _ _
   ·
    exact ⟨by simp, .inr ⟨g, cap, cur, by rw [u8cells_len], Nat.zero_le _, hg, by rw [u8cells_len]; exact hlc, hcm, by omega, by rw [u8cells_len, Nat.mul_one]; exact htk⟩⟩
  ·
   rcases hrow with ⟨rfl, rfl, rfl⟩ | ⟨g, cap, cur, _, rfl, rfl, hgb, _⟩
   ·
    simp [Value.ownBlock]
   ·
    simpa [Value.ownBlock] using hgb
 refine (Tryz.Buffer_Len 0 b (u8cells bs) w hI).mono ?_
 rintro e w' ⟨rfl, n, rfl⟩
 exact ⟨by rw [u8cells_len], rfl, ⟨rfl, rfl, rfl⟩⟩
set_option maxHeartbeats 6400000 in
set_option maxRecDepth 100000 in
theorem buf_grow_small (w : World) (b n : Nat) (lr : Int) (hbk : w.heap[b]? = some (.cells #[.slice none 0 0, .int .i64 0, .int .i8 lr] 89 (0, 0))) (hn : 1 ≤ n) (h64 : n ≤ 64) :
  Calls Tryz.prog 100 #[.pointer (some ⟨b, 0, none⟩), .int .i64 n] w fun e w' => e = .returned (.int .i64 0) ∧ Room w 89 5 b [] [] n w' := by
 have mixed : Tryz.prog.follows .mixedOrders = true := by kernel_rfl
 obtain ⟨i0, hi, hz0, hz1, hz2⟩ := infoByte
 obtain ⟨M, hM⟩ : ∃ M, M = madeCells (Value.int .u8 0).cells ((64 : Int).toNat * i0.size) := ⟨_, rfl⟩
 have hMs : M.size = 64 := by rw [hM, size_madeCells, hz1]; rfl
 have hmk : ∀ W : World, (Instr.makeSlice 34 (.int .i64 (n : Int)) (.int .i64 64)).run Tryz.prog W = .ok (.slice (some ⟨W.heap.size, 0, none⟩) n 64) (W.alloc (.cells M 5)) := fun W => by
  have h := run_makeSlice (P := Tryz.prog) W 34 5 i0 (.int .u8 0) Tryz.underlying34 hi hz0 .i64 .i64 (n : Int) 64 (by omega) (by omega) (by rw [hz1]; decide) (by rw [hz2]; decide) (by decide)
  rw [← hM] at h
  simpa using h
 clear hM
 have hnil : ∀ W, (binOp .eql 34 (.slice none 0 0) (.slice none 0 0)).run Tryz.prog W = .ok (.bool true) W := fun W => Lib.run_eql_slice_nil_nil W _ _ Tryz.underlying34
 go_enter Tryz.func100, Tryz.ntmps100
 go_wp2_with (go_at_call 137; refine (buf_len _ b _ lr [] [] hbk (.inl ⟨rfl, rfl, rfl⟩)).mono ?_)
 rintro e W0 ⟨rfl, hh0, hsame0⟩
 have hbk0 : W0.heap[b]? = some (.cells #[.slice none 0 0, .int .i64 0, .int .i8 lr] 89 (0, 0)) := by rw [hh0]; exact hbk
 have c0 : W0.cell? ⟨b, 0, none⟩ = some (.slice none 0 0) := by rw [Lib.cell_of_heap hbk0]; rfl
 have c1 : W0.cell? ⟨b, 1, none⟩ = some (.int .i64 0) := by rw [Lib.cell_of_heap hbk0]; rfl
 have f0 : W0.frozen? ⟨b, 0, none⟩ = false := Lib.frozen_of_heap hbk0 0
 have f1 : W0.frozen? ⟨b, 1, none⟩ = false := Lib.frozen_of_heap hbk0 1
 have hbW0 := Lib.lt_of_heap hbk0
 have c0a : ∀ o, (W0.alloc o).cell? ⟨b, 0, none⟩ = some (.slice none 0 0) := fun o => (World.cell?_of_block (a := ⟨b, 0, none⟩) (Below.heap_alloc W0 o b hbW0)).trans c0
 have f0a : ∀ o, (W0.alloc o).frozen? ⟨b, 0, none⟩ = false := fun o => (World.frozen?_of_block (a := ⟨b, 0, none⟩) (Below.heap_alloc W0 o b hbW0)).trans f0
 go_wp2_with (go_at_call 99; refine (Tryz.Buffer_tryGrow_none b _ 0 0 n _ c0 (Nat.le_refl _) (Nat.zero_le _) (by omega)).mono ?_; rintro e w' ⟨rfl, rfl⟩)
 go_ret
 have hsz : w.heap.size = w'.heap.size := by rw [hh0]
 have hbA : (w'.alloc (.cells M 5)).heap[b]? = some (.cells #[.slice none 0 0, .int .i64 0, .int .i8 lr] 89 (0, 0)) := by rw [Below.heap_alloc w' _ b hbW0]; exact hbk0
 refine ⟨rfl, w.heap.size, 64, M, lr, ?_, by omega, .inr (Nat.le_refl _), ?_, by simpa using h64, by unfold maxLen; omega, hMs, rfl, ?_, fun k hk hkb => ?_, hsame0.trans ⟨rfl, rfl, rfl⟩⟩
 ·
  rw [setCell_heap hbA]
  simp
 ·
  rw [setCell_other _ (by omega), hsz]
  exact heap_alloc_new w' _
 ·
  show w.heap.size ≤ (World.setCell _ _ _).heap.size
  simp only [World.setCell, World.alloc, Array.size_modify, Array.size_push]
  omega
 ·
  rw [setCell_other _ hkb, Below.heap_alloc _ _ k (by omega), hh0]
theorem room_end {w w1 w2 : World} {b N l n cap2 : Nat} {lr : Int} {v0 v1 : Value} {cells : Array Value} {bs : List UInt8} {O : List Nat} (hbk2 : w2.heap[b]? = some (.cells #[v0, .int .i64 0, .int .i8 lr] 89 (0, 0)))
  (hN : w2.heap[N]? = some (.cells cells 5 (0, 0))) (hNb : N ≠ b) (hl : l = bs.length) (hcsz : cells.size = cap2) (htk : cells.toList.take l = u8cells bs) (hcap2 : l + n ≤ cap2) (hcm2 : cap2 ≤ maxLen)
  (hNw : w.heap.size ≤ N) (h1 : w1.heap = w.heap) (hs1 : Same w w1) (hbel : Below w1.heap.size w1 w2) :
  Room w 89 5 b O bs n (((w2.setCell ⟨b, 0, none⟩ v1).setCell ⟨b, 1, none⟩ (.int .i64 0)).setCell ⟨b, 0, none⟩ (.slice (some ⟨N, 0, none⟩) (l + n) cap2)) := by
 subst hl
 refine ⟨N, cap2, cells, lr, ?_, hNb, .inr hNw, ?_, hcap2, hcm2, hcsz, htk, ?_, fun k hk hkb => ?_, hs1.trans ((show Same w1 w2 from ⟨hbel.os, hbel.tape, hbel.output⟩).trans ⟨rfl, rfl, rfl⟩)⟩
 ·
  rw [setCell_heap (setCell_heap (setCell_heap hbk2 _) _)]
  simp
 ·
  rw [setCell_other _ hNb, setCell_other _ hNb, setCell_other _ hNb]; exact hN
 ·
  have := hbel.size
  rw [h1] at this
  simpa [World.setCell] using this
 ·
  rw [setCell_other _ hkb, setCell_other _ hkb, setCell_other _ hkb, hbel.block k (by rw [h1]; exact hk), h1]
set_option maxHeartbeats 12800000 in
set_option maxRecDepth 100000 in
theorem buf_grow_big (w : World) (b n : Nat) (lr : Int) (hbk : w.heap[b]? = some (.cells #[.slice none 0 0, .int .i64 0, .int .i8 lr] 89 (0, 0))) (h64 : 64 < n) (hlim : n ≤ lim) :
  Calls Tryz.prog 100 #[.pointer (some ⟨b, 0, none⟩), .int .i64 n] w fun e w' => e = .returned (.int .i64 0) ∧ Room w 89 5 b [] [] n w' := by
 have mixed : Tryz.prog.follows .mixedOrders = true := by kernel_rfl
 have hn : 1 ≤ n := by omega
 have hlim' : n ≤ 140737488355328 := by unfold lim at hlim; omega
 clear hlim
 have hnil : ∀ W, (binOp .eql 34 (.slice none 0 0) (.slice none 0 0)).run Tryz.prog W = .ok (.bool true) W := fun W => Lib.run_eql_slice_nil_nil W _ _ Tryz.underlying34
 go_enter Tryz.func100, Tryz.ntmps100
 go_wp2_with (go_at_call 137; refine (buf_len _ b _ lr [] [] hbk (.inl ⟨rfl, rfl, rfl⟩)).mono ?_)
 rintro e W0 ⟨rfl, hh0, hsame0⟩
 have hbk0 : W0.heap[b]? = some (.cells #[.slice none 0 0, .int .i64 0, .int .i8 lr] 89 (0, 0)) := by rw [hh0]; exact hbk
 have c0 : W0.cell? ⟨b, 0, none⟩ = some (.slice none 0 0) := by rw [Lib.cell_of_heap hbk0]; rfl
 have c1 : W0.cell? ⟨b, 1, none⟩ = some (.int .i64 0) := by rw [Lib.cell_of_heap hbk0]; rfl
 have f0 : W0.frozen? ⟨b, 0, none⟩ = false := Lib.frozen_of_heap hbk0 0
 have f1 : W0.frozen? ⟨b, 1, none⟩ = false := Lib.frozen_of_heap hbk0 1
 have hbW := Lib.lt_of_heap hbk0
 go_wp2_with (go_at_call 99; refine (Tryz.Buffer_tryGrow_none b _ 0 0 n _ c0 (Nat.le_refl _) (Nat.zero_le _) (by omega)).mono ?_; rintro e w' ⟨rfl, rfl⟩)
 have hwn : IntKind.i64.wrap (n : Int) = n := by rw [IntKind.wrap_i64]; omega
 go_region_with (
   go_at_call 139
   refine (Tryz.bytes_growSlice_nil n _ hn hlim').mono ?_
   rintro e w2 ⟨cap2, cells, rfl, hN, hcsz, hcap2, hcm2, hbel⟩
   have hbk2 : w2.heap[b]? = some (.cells #[.slice none 0 0, .int .i64 0, .int .i8 lr] 89 (0, 0)) := (hbel.block b hbW).trans hbk0
   have d0 : w2.cell? ⟨b, 0, none⟩ = some (.slice none 0 0) := by rw [Lib.cell_of_heap hbk2]; rfl
   have d1 : w2.cell? ⟨b, 1, none⟩ = some (.int .i64 0) := by rw [Lib.cell_of_heap hbk2]; rfl
   have e0 : w2.frozen? ⟨b, 0, none⟩ = false := Lib.frozen_of_heap hbk2 0
   have e1 : w2.frozen? ⟨b, 1, none⟩ = false := Lib.frozen_of_heap hbk2 1)
 all_goals (
  go_wp2
  go_ret
  have hsz : w.heap.size = w'.heap.size := by rw [hh0]
  have := room_end (w := w) (w1 := w'.drew) (l := 0) (n := n) (bs := []) (O := []) (v1 := .slice (some ⟨w'.heap.size, 0, none⟩) 0 cap2) hbk2 hN (by show w'.heap.size ≠ b; omega) rfl hcsz rfl (by omega) hcm2 (by show w.heap.size ≤ w'.heap.size; omega) (by show w'.heap = w.heap; exact hh0) (hsame0.trans ⟨rfl, rfl, rfl⟩) hbel
  exact ⟨rfl, by simpa [hh0] using this⟩)
set_option maxHeartbeats 12800000 in
set_option maxRecDepth 100000 in
theorem buf_grow_row (w : World) (b g l cap n : Nat) (lr : Int) (cur : Array Value) (bs : List UInt8) (hbk : w.heap[b]? = some (.cells #[.slice (some ⟨g, 0, none⟩) l cap, .int .i64 0, .int .i8 lr] 89 (0, 0))) (hl : bs.length = l) (hl0 : 1 ≤ l) (hgb : g ≠ b)
  (hg : w.heap[g]? = some (.cells cur 5 (0, 0))) (hlc : l ≤ cap) (hcm : cap ≤ maxLen) (hcs : cur.size = cap) (htk0 : cur.toList.take l = u8cells bs) (hn : 1 ≤ n) (hroom : cap - l < n) (hlim : l + n ≤ lim) :
  Calls Tryz.prog 100 #[.pointer (some ⟨b, 0, none⟩), .int .i64 n] w fun e w' => e = .returned (.int .i64 l) ∧ Room w 89 5 b [g] bs n w' := by
 have mixed : Tryz.prog.follows .mixedOrders = true := by kernel_rfl
 have hlim' : l + n ≤ 140737488355328 := by unfold lim at hlim; omega
 have hrow : LibRow w 5 b (.slice (some ⟨g, 0, none⟩) l cap) bs [g] := .inr ⟨g, cap, cur, by intro h; rw [h] at hl; simp at hl; omega, by rw [hl], rfl, hgb, hg, by omega, hcm, hcs, by rw [hl]; exact htk0⟩
 clear hlim
 have hnil : ∀ W, (binOp .eql 34 (.slice (some ⟨g, 0, none⟩) l cap) (.slice none 0 0)).run Tryz.prog W = .ok (.bool false) W := fun W => Lib.run_eql_slice_some_nil W _ _ _ Tryz.underlying34
 go_enter Tryz.func100, Tryz.ntmps100
 go_wp2_with (go_at_call 137; refine (buf_len _ b _ lr bs [g] hbk hrow).mono ?_)
 rintro e W0 ⟨rfl, hh0, hsame0⟩
 rw [hl]
 have hbk0 : W0.heap[b]? = some (.cells #[.slice (some ⟨g, 0, none⟩) l cap, .int .i64 0, .int .i8 lr] 89 (0, 0)) := by rw [hh0]; exact hbk
 have hg0 : W0.heap[g]? = some (.cells cur 5 (0, 0)) := by rw [hh0]; exact hg
 have c0 : W0.cell? ⟨b, 0, none⟩ = some (.slice (some ⟨g, 0, none⟩) l cap) := by rw [Lib.cell_of_heap hbk0]; rfl
 have c1 : W0.cell? ⟨b, 1, none⟩ = some (.int .i64 0) := by rw [Lib.cell_of_heap hbk0]; rfl
 have f0 : W0.frozen? ⟨b, 0, none⟩ = false := Lib.frozen_of_heap hbk0 0
 have f1 : W0.frozen? ⟨b, 1, none⟩ = false := Lib.frozen_of_heap hbk0 1
 have hbW := Lib.lt_of_heap hbk0
 have hcm' := hcm
 unfold maxLen at hcm'
 clear hrow
 go_wp2_with (go_at_call 99; refine (Tryz.Buffer_tryGrow_none b _ l cap n _ c0 hlc hcm hroom).mono ?_; rintro e w' ⟨rfl, rfl⟩)
 have hc2 : cap ≤ 140737488355328 := by omega
 have h1' : ∀ v ∈ cur.toList.take l, v.oneCell' = true := by rw [htk0]; exact u8cells_one bs
 have hwn : IntKind.i64.wrap (n : Int) = n := by rw [IntKind.wrap_i64]; omega
 go_region_with (
   go_at_call 139
   refine (Tryz.bytes_growSlice_row g l cap n cur _ ?_ hcs hlc hn hlim' hc2 h1').mono ?_
   exact hg0
   rintro e w2 ⟨cap2, cells, rfl, hN, hcsz, htk, hcap2, hcm2, hbel⟩
   have hbk2 : w2.heap[b]? = some (.cells #[.slice (some ⟨g, 0, none⟩) l cap, .int .i64 0, .int .i8 lr] 89 (0, 0)) := (hbel.block b hbW).trans hbk0
   have d0 : w2.cell? ⟨b, 0, none⟩ = some (.slice (some ⟨g, 0, none⟩) l cap) := by rw [Lib.cell_of_heap hbk2]; rfl
   have d1 : w2.cell? ⟨b, 1, none⟩ = some (.int .i64 0) := by rw [Lib.cell_of_heap hbk2]; rfl
   have e0 : w2.frozen? ⟨b, 0, none⟩ = false := Lib.frozen_of_heap hbk2 0
   have e1 : w2.frozen? ⟨b, 1, none⟩ = false := Lib.frozen_of_heap hbk2 1)
 all_goals (
  go_wp2
  go_ret
  have hsz : w.heap.size = w'.heap.size := by rw [hh0]
  have hN' : w2.heap[w.heap.size]? = some (.cells cells 5 (0, 0)) := by rw [hsz]; exact hN
  exact ⟨rfl, room_end (w := w) (w1 := w'.drew) hbk2 hN' (by omega) hl.symm hcsz (htk.trans htk0) hcap2 hcm2 (Nat.le_refl _) (by show w'.heap = w.heap; exact hh0) (hsame0.trans ⟨rfl, rfl, rfl⟩) hbel⟩)
def HasRoom (v : Value) (l n : Nat) : Prop := ∃ A cap, v = .slice A l cap ∧ n ≤ cap - l
theorem buf_try_room (w : World) (b n : Nat) (v : Value) (lr : Int) (bs : List UInt8) (O : List Nat) (hbk : w.heap[b]? = some (.cells #[v, .int .i64 0, .int .i8 lr] 89 (0, 0))) (hrow : LibRow w 5 b v bs O) (hn : 1 ≤ n) (hr : HasRoom v bs.length n) :
  Calls Tryz.prog 99 #[.pointer (some ⟨b, 0, none⟩), .int .i64 n] w fun e w' => e = .returned (.tuple #[.int .i64 bs.length, .bool true]) ∧ Room w 89 5 b O bs n w' := by
 obtain ⟨A, cap', hv, hr⟩ := hr
 rcases hrow with ⟨rfl, rfl, rfl⟩ | ⟨g, cap, cur, hbs, rfl, rfl, hgb, hg, hlc, hcm, hcs, htk⟩
 ·
  cases hv; simp at hr; omega
 ·
  cases hv
  have c0 : w.cell? ⟨b, 0, none⟩ = some (.slice (some ⟨g, 0, none⟩) bs.length cap') := by rw [Lib.cell_of_heap hbk]; rfl
  refine (Tryz.Buffer_tryGrow_room b _ bs.length cap' n w c0 (Lib.frozen_of_heap hbk 0) hlc hcm hr).mono ?_
  rintro e w' ⟨rfl, rfl⟩
  refine ⟨rfl, g, cap', cur, lr, ?_, hgb, .inl (by simp), ?_, by omega, hcm, hcs, htk, by simp [World.setCell], fun k hk hkb => setCell_other _ hkb, ⟨rfl, rfl, rfl⟩⟩
  ·
   rw [setCell_heap hbk]; simp
  ·
   rw [setCell_other _ hgb]; exact hg
theorem buf_try_none (w : World) (b n : Nat) (v : Value) (lr : Int) (bs : List UInt8) (O : List Nat) (hbk : w.heap[b]? = some (.cells #[v, .int .i64 0, .int .i8 lr] 89 (0, 0))) (hrow : LibRow w 5 b v bs O) (hn : 1 ≤ n) (hr : ¬ HasRoom v bs.length n) :
  Calls Tryz.prog 99 #[.pointer (some ⟨b, 0, none⟩), .int .i64 n] w fun e w' => e = .returned (.tuple #[.int .i64 0, .bool false]) ∧ w' = w := by
 rcases hrow with ⟨rfl, rfl, rfl⟩ | ⟨g, cap, cur, hbs, rfl, rfl, hgb, hg, hlc, hcm, hcs, htk⟩
 ·
  have c0 : w.cell? ⟨b, 0, none⟩ = some (.slice none 0 0) := by rw [Lib.cell_of_heap hbk]; rfl
  exact Tryz.Buffer_tryGrow_none b _ 0 0 n w c0 (Nat.le_refl _) (Nat.zero_le _) (by omega)
 ·
  have c0 : w.cell? ⟨b, 0, none⟩ = some (.slice (some ⟨g, 0, none⟩) bs.length cap) := by rw [Lib.cell_of_heap hbk]; rfl
  refine Tryz.Buffer_tryGrow_none b _ bs.length cap n w c0 hlc hcm ?_
  apply Nat.lt_of_not_le
  exact fun h => hr ⟨_, _, rfl, h⟩
theorem buf_grow (w : World) (b n : Nat) (v : Value) (lr : Int) (bs : List UInt8) (O : List Nat) (hbk : w.heap[b]? = some (.cells #[v, .int .i64 0, .int .i8 lr] 89 (0, 0))) (hrow : LibRow w 5 b v bs O) (hn : 1 ≤ n) (hr : ¬ HasRoom v bs.length n) (hlim : bs.length + n ≤ lim) :
  Calls Tryz.prog 100 #[.pointer (some ⟨b, 0, none⟩), .int .i64 n] w fun e w' => e = .returned (.int .i64 bs.length) ∧ Room w 89 5 b O bs n w' := by
 rcases hrow with ⟨rfl, rfl, rfl⟩ | ⟨g, cap, cur, hbs, rfl, rfl, hgb, hg, hlc, hcm, hcs, htk⟩
 ·
  by_cases h64 : n ≤ 64
  ·
   exact buf_grow_small w b n lr hbk hn h64
  ·
   exact buf_grow_big w b n lr hbk (by omega) (by simpa using hlim)
 ·
  refine buf_grow_row w b g bs.length cap n lr cur bs hbk rfl (Nat.pos_of_ne_zero fun h => hbs (List.eq_nil_of_length_eq_zero h)) hgb hg hlc hcm hcs htk hn ?_ hlim
  apply Nat.lt_of_not_le
  exact fun h => hr ⟨_, _, rfl, h⟩
set_option maxHeartbeats 6400000 in
set_option maxRecDepth 100000 in
theorem buf_writeS (w : World) (b : Nat) (O : List Nat) (bs : List UInt8) (s : ByteArray) (h : LibBox w 1 89 5 b bs O) (hs : 1 ≤ s.size) (hle : bs.length + s.size ≤ lim) :
  Calls Tryz.prog 57 #[.pointer (some ⟨b, 0, none⟩), .string s] w fun ex w' => ex = .returned (.tuple #[.int .i64 s.size, .nilIface]) ∧ WriterOut w 1 89 5 b O (bs ++ s.data.toList) w' := by
 have hbO : b ∉ O := (List.nodup_cons.1 h.nodup).1
 have hslen : s.data.toList.length = s.size := Array.length_toList
 have hsne : s.data.toList ≠ [] := fun h => by rw [h] at hslen; simp at hslen; omega
 obtain ⟨v, lr, hbk, hrow⟩ : ∃ v lr, w.heap[b]? = some (.cells #[v, .int .i64 0, .int .i8 lr] 89 (0, 0)) ∧ LibRow w 5 b v bs O := by
  rcases h with ⟨h0, _⟩ | ⟨_, v, lr, h1, h2⟩ | ⟨h0, _⟩
  ·
   cases h0
  ·
   exact ⟨v, lr, h1, h2⟩
  ·
   cases h0
 have hbw := lt_of_some hbk
 have c2 : w.cell? ⟨b, 2, none⟩ = some (.int .i8 lr) := by rw [Lib.cell_of_heap hbk]; rfl
 have f2 : w.frozen? ⟨b, 2, none⟩ = false := Lib.frozen_of_heap hbk 2
 have hbk0 : (w.setCell ⟨b, 2, none⟩ (.int .i8 0)).heap[b]? = some (.cells #[v, .int .i64 0, .int .i8 0] 89 (0, 0)) := by rw [setCell_heap hbk]; simp
 have hrow0 : LibRow (w.setCell ⟨b, 2, none⟩ (.int .i8 0)) 5 b v bs O := hrow.of_heap fun y hy => setCell_other _ fun e => hbO (e ▸ hy)
 have hsz0 : (w.setCell ⟨b, 2, none⟩ (.int .i8 0)).heap.size = w.heap.size := by simp [World.setCell]
 have hk0 : ∀ k, k ≠ b → (w.setCell ⟨b, 2, none⟩ (.int .i8 0)).heap[k]? = w.heap[k]? := fun k hk => setCell_other _ hk
 have hs0 : Same w (w.setCell ⟨b, 2, none⟩ (.int .i8 0)) := ⟨rfl, rfl, rfl⟩
 have fin : ∀ W1, Room (w.setCell ⟨b, 2, none⟩ (.int .i8 0)) 89 5 b O bs s.size W1 → ∃ (g cap : Nat) (cur : Array Value), W1.cell? ⟨b, 0, none⟩ = some (.slice (some ⟨g, 0, none⟩) (bs.length + s.size) cap) ∧ ¬ cap = bs.length ∧ bs.length + s.size ≤ cap ∧ cap ≤ 9223372036854775807 ∧
   (Builtin.copy_ #[34, 9] 3 #[.slice (some ⟨g, bs.length, none⟩) s.size (cap - bs.length), .string s]).run Tryz.prog W1 = .ok (goInt s.size) (W1.setRow g (cur.toList.take bs.length ++ u8cells s.data.toList ++ cur.toList.drop (bs.length + s.size)).toArray) ∧
   WriterOut w 1 89 5 b O (bs ++ s.data.toList) (W1.setRow g (cur.toList.take bs.length ++ u8cells s.data.toList ++ cur.toList.drop (bs.length + s.size)).toArray) := by
  rintro W1 ⟨g, cap, cur, lr2, h1, h2, h3, h4, h5, h6, h7, h8, h9, h10, h11⟩
  have hcp := Lib.run_copy_row_string (P := Tryz.prog) W1 34 9 3 5 g bs.length s.size (cap - bs.length) s cur 5 Tryz.underlying34 isByte1 h4 (Nat.le_refl _) (by omega)
  have hw := room_written (w := w) (w' := W1) (O := O) (s := s.data.toList) hsne (by rw [hslen]; exact h1) h2 (by rw [← hsz0]; exact h3) h4 (by rw [hslen]; exact h5) h6 h7 h8 (by omega) (fun k hk hkb => (h10 k (by omega) hkb).trans (hk0 k hkb)) (hs0.trans h11) hbw
  rw [hslen] at hw
  exact ⟨g, cap, cur, by rw [Lib.cell_of_heap h1]; rfl, by omega, h5, by unfold maxLen at h6; exact h6, hcp, hw⟩
 by_cases hr : HasRoom v bs.length s.size
 ·
  have hT := fun W (hW : W = w.setCell ⟨b, 2, none⟩ (.int .i8 0)) => hW ▸ buf_try_room _ b s.size v 0 bs O hbk0 hrow0 hs hr
  go_enter Tryz.func57, Tryz.ntmps57
  go_wp2_with (go_at_call 99; refine (hT _ ?_).mono ?_)
  ·
   rfl
  rintro e W1 ⟨rfl, hR⟩
  obtain ⟨g, cap, cur, d0, hne, hcap, hcm', hcp, hW⟩ := fin W1 hR
  clear fin hT hR hbk0 hrow0 hk0 c2 f2
  go_wp2
  go_ret2
  exact ⟨rfl, by simpa only [List.append_assoc] using hW⟩
 ·
  have hT := fun W (hW : W = w.setCell ⟨b, 2, none⟩ (.int .i8 0)) => hW ▸ buf_try_none _ b s.size v 0 bs O hbk0 hrow0 hs hr
  have hG := fun W (hW : W = w.setCell ⟨b, 2, none⟩ (.int .i8 0)) => hW ▸ buf_grow _ b s.size v 0 bs O hbk0 hrow0 hs hr hle
  go_enter Tryz.func57, Tryz.ntmps57
  go_wp2_with (go_at_call 99; refine (hT _ ?_).mono ?_)
  ·
   rfl
  rintro e W0 ⟨rfl, rfl⟩
  go_wp2_with (go_at_call 100; refine (hG _ ?_).mono ?_)
  ·
   rfl
  rintro e W1 ⟨rfl, hR⟩
  obtain ⟨g, cap, cur, d0, hne, hcap, hcm', hcp, hW⟩ := fin W1 hR
  clear fin hT hG hR hbk0 hrow0 hk0 c2 f2
  go_wp2
  go_ret2
  exact ⟨rfl, by simpa only [List.append_assoc] using hW⟩
set_option maxHeartbeats 6400000 in
set_option maxRecDepth 100000 in
theorem buf_writeB (w : World) (b : Nat) (O : List Nat) (bs s : List UInt8) (a o c : Nat) (h : LibBox w 1 89 5 b bs O) (hs : 1 ≤ s.length) (hle : bs.length + s.length ≤ lim) (hab : a ≠ b) (haO : a ∉ O) (haw : a < w.heap.size) (hsc : s.length ≤ c) (hcell : ∀ j, j < s.length → w.cell? ⟨a, o + j, none⟩ = some (.int .u8 (s.getD j 0).toNat)) :
  Calls Tryz.prog 60 #[.pointer (some ⟨b, 0, none⟩), .slice (some ⟨a, o, none⟩) s.length c] w fun ex w' => ex = .returned (.tuple #[.int .i64 s.length, .nilIface]) ∧ WriterOut w 1 89 5 b O (bs ++ s) w' := by
 have hbO : b ∉ O := (List.nodup_cons.1 h.nodup).1
 have hsne : s ≠ [] := fun h => by rw [h] at hs; simp at hs
 obtain ⟨v, lr, hbk, hrow⟩ : ∃ v lr, w.heap[b]? = some (.cells #[v, .int .i64 0, .int .i8 lr] 89 (0, 0)) ∧ LibRow w 5 b v bs O := by
  rcases h with ⟨h0, _⟩ | ⟨_, v, lr, h1, h2⟩ | ⟨h0, _⟩
  ·
   cases h0
  ·
   exact ⟨v, lr, h1, h2⟩
  ·
   cases h0
 have hbw := lt_of_some hbk
 have c2 : w.cell? ⟨b, 2, none⟩ = some (.int .i8 lr) := by rw [Lib.cell_of_heap hbk]; rfl
 have f2 : w.frozen? ⟨b, 2, none⟩ = false := Lib.frozen_of_heap hbk 2
 have hbk0 : (w.setCell ⟨b, 2, none⟩ (.int .i8 0)).heap[b]? = some (.cells #[v, .int .i64 0, .int .i8 0] 89 (0, 0)) := by rw [setCell_heap hbk]; simp
 have hrow0 : LibRow (w.setCell ⟨b, 2, none⟩ (.int .i8 0)) 5 b v bs O := hrow.of_heap fun y hy => setCell_other _ fun e => hbO (e ▸ hy)
 have hsz0 : (w.setCell ⟨b, 2, none⟩ (.int .i8 0)).heap.size = w.heap.size := by simp [World.setCell]
 have hk0 : ∀ k, k ≠ b → (w.setCell ⟨b, 2, none⟩ (.int .i8 0)).heap[k]? = w.heap[k]? := fun k hk => setCell_other _ hk
 have hs0 : Same w (w.setCell ⟨b, 2, none⟩ (.int .i8 0)) := ⟨rfl, rfl, rfl⟩
 have fin : ∀ W1, Room (w.setCell ⟨b, 2, none⟩ (.int .i8 0)) 89 5 b O bs s.length W1 → ∃ (g cap : Nat) (cur : Array Value), W1.cell? ⟨b, 0, none⟩ = some (.slice (some ⟨g, 0, none⟩) (bs.length + s.length) cap) ∧ ¬ cap = bs.length ∧ bs.length + s.length ≤ cap ∧ cap ≤ 9223372036854775807 ∧
   (Builtin.copy_ #[34, 34] 3 #[.slice (some ⟨g, bs.length, none⟩) s.length (cap - bs.length), .slice (some ⟨a, o, none⟩) s.length c]).run Tryz.prog W1 = .ok (goInt s.length) (W1.setRow g (cur.toList.take bs.length ++ u8cells s ++ cur.toList.drop (bs.length + s.length)).toArray) ∧
   WriterOut w 1 89 5 b O (bs ++ s) (W1.setRow g (cur.toList.take bs.length ++ u8cells s ++ cur.toList.drop (bs.length + s.length)).toArray) := by
  rintro W1 ⟨g, cap, cur, lr2, h1, h2, h3, h4, h5, h6, h7, h8, h9, h10, h11⟩
  have hsrc : ∀ j v, (u8cells s)[j]? = some v → W1.cell? ((⟨a, o, none⟩ : Addr).add j) = some v := by
   intro j v hj
   have hjl : j < s.length := by
    have := (List.getElem?_eq_some_iff.1 hj).1
    rwa [u8cells_len] at this
   have hv : v = .int .u8 (s.getD j 0).toNat := by
    simp only [u8cells, List.getElem?_map, List.getElem?_eq_getElem hjl, Option.map_some, Option.some.injEq] at hj
    rw [← hj]
    simp [List.getD_eq_getElem?_getD, hjl]
   rw [add_none, cell?_of_heap ((h10 a (by omega) hab).trans (hk0 a hab)), hcell j hjl, hv]
  have hcp := run_copy_row (P := Tryz.prog) W1 34 34 3 5 g bs.length s.length (cap - bs.length) ⟨a, o, none⟩ s.length c cur 5 (u8cells s) Tryz.underlying34 isByte1 h4 (by rw [u8cells_len]; exact (Nat.min_self _).symm) hsrc (by rw [u8cells_len]; omega) (u8cells_one s)
  rw [u8cells_len] at hcp
  have hw := room_written (w := w) (w' := W1) (O := O) (s := s) hsne h1 h2 (by rw [← hsz0]; exact h3) h4 h5 h6 h7 h8 (by omega) (fun k hk hkb => (h10 k (by omega) hkb).trans (hk0 k hkb)) (hs0.trans h11) hbw
  exact ⟨g, cap, cur, by rw [Lib.cell_of_heap h1]; rfl, by omega, h5, by unfold maxLen at h6; exact h6, hcp, hw⟩
 by_cases hr : HasRoom v bs.length s.length
 ·
  have hT := fun W (hW : W = w.setCell ⟨b, 2, none⟩ (.int .i8 0)) => hW ▸ buf_try_room _ b s.length v 0 bs O hbk0 hrow0 hs hr
  go_enter Tryz.func60, Tryz.ntmps60
  go_wp2_with (go_at_call 99; refine (hT _ ?_).mono ?_)
  ·
   rfl
  rintro e W1 ⟨rfl, hR⟩
  obtain ⟨g, cap, cur, d0, hne, hcap, hcm', hcp, hW⟩ := fin W1 hR
  clear fin hT hR hbk0 hrow0 hk0 c2 f2
  go_wp2
  go_ret2
  exact ⟨rfl, by simpa only [List.append_assoc] using hW⟩
 ·
  have hT := fun W (hW : W = w.setCell ⟨b, 2, none⟩ (.int .i8 0)) => hW ▸ buf_try_none _ b s.length v 0 bs O hbk0 hrow0 hs hr
  have hG := fun W (hW : W = w.setCell ⟨b, 2, none⟩ (.int .i8 0)) => hW ▸ buf_grow _ b s.length v 0 bs O hbk0 hrow0 hs hr hle
  go_enter Tryz.func60, Tryz.ntmps60
  go_wp2_with (go_at_call 99; refine (hT _ ?_).mono ?_)
  ·
   rfl
  rintro e W0 ⟨rfl, rfl⟩
  go_wp2_with (go_at_call 100; refine (hG _ ?_).mono ?_)
  ·
   rfl
  rintro e W1 ⟨rfl, hR⟩
  obtain ⟨g, cap, cur, d0, hne, hcap, hcm', hcp, hW⟩ := fin W1 hR
  clear fin hT hG hR hbk0 hrow0 hk0 c2 f2
  go_wp2
  go_ret2
  exact ⟨rfl, by simpa only [List.append_assoc] using hW⟩
set_option maxHeartbeats 4000000 in
set_option maxRecDepth 100000 in
theorem buf_bytes (w : World) (b : Nat) (v : Value) (lr : Int) (O : List Nat) (bs : List UInt8) (hbk : w.heap[b]? = some (.cells #[v, .int .i64 0, .int .i8 lr] 89 (0, 0))) (hrow : LibRow w 5 b v bs O) :
  Calls Tryz.prog 61 #[.pointer (some ⟨b, 0, none⟩)] w fun ex w' => ex = .returned v ∧ w'.heap = w.heap ∧ Same w w' := by
 have mixed : Tryz.prog.follows .mixedOrders = true := by kernel_rfl
 rcases hrow with ⟨rfl, rfl, rfl⟩ | ⟨g, cap, cur, hbs, rfl, rfl, hgb, hg, hlc, hcm, hcs, htk⟩
 ·
  have c0 : w.cell? ⟨b, 0, none⟩ = some (.slice none 0 0) := by rw [Lib.cell_of_heap hbk]; rfl
  have c1 : w.cell? ⟨b, 1, none⟩ = some (.int .i64 0) := by rw [Lib.cell_of_heap hbk]; rfl
  go_enter Tryz.func61, Tryz.ntmps61
  go_wp2
  go_region_o
  all_goals (go_wp2; go_ret; exact ⟨rfl, rfl, ⟨rfl, rfl, rfl⟩⟩)
 ·
  have c0 : w.cell? ⟨b, 0, none⟩ = some (.slice (some ⟨g, 0, none⟩) bs.length cap) := by rw [Lib.cell_of_heap hbk]; rfl
  have c1 : w.cell? ⟨b, 1, none⟩ = some (.int .i64 0) := by rw [Lib.cell_of_heap hbk]; rfl
  have hcm' := hcm
  unfold maxLen at hcm'
  go_enter Tryz.func61, Tryz.ntmps61
  go_wp2
  go_region_o
  all_goals (go_wp2; go_ret; exact ⟨rfl, rfl, ⟨rfl, rfl, rfl⟩⟩)
end Go.Proofs.YtloekbdlmikkcaaGreatDoor
namespace Go.Proofs.YtloekbdlmikkcaaGreatDoor
open Go Go.RowKit Go.Proofs Go.Zv Go.Shelf
set_option maxHeartbeats 2000000 in
set_option maxRecDepth 100000 in
theorem cloneB_at (a : Addr) (n c : Nat) (xs : List Int) (w : World) (hx : xs.length = n) (hn : n ≤ lim) (hc : ∀ i, i < n → w.cell? (a.add i) = some (.int .u8 (xs.getD i 0))) :
  Calls Tryz.prog 112 #[.slice (some a) n c] w fun e w' => ∃ v', e = .returned v' ∧ w'.ownsRow w.heap.size 5 1 v' n (xs.map (Value.int .u8)) ∧ v' ≠ .slice none 0 0 ∧ Below w.heap.size w w' := by
 obtain ⟨i0, hi, hz0, hz1, hz2⟩ := infoByte
 have qnil : ∀ (w : World) (a : Option Addr) (n c : Nat), (binOp .eql 34 (.slice a n c) (.slice none 0 0)).run Tryz.prog w = .ok (.bool a.isNone) w := fun w a n c => Lib.run_eql_slice_nil w _ _ a n c 0 0 Tryz.underlying34
 obtain ⟨A', c', w1, happ, hown, hbel⟩ := clone_append (P := Tryz.prog) (ty := 34) Tryz.underlying34 hi hz0 hz1 (by omega) w a n c xs hx hn hc
 clear hc
 go_enter Tryz.func112, Tryz.ntmps112
 go_wp2_with (at_builtin; refine wpList_append_eq rfl _ _ 34 34 rfl _ _ rfl rfl happ ?_)
 go_ret
 exact ⟨_, rfl, hown, by simp, hbel⟩
set_option maxHeartbeats 2000000 in
set_option maxRecDepth 100000 in
theorem cloneB_nil (n c : Nat) (w : World) : Calls Tryz.prog 112 #[.slice none n c] w fun e w' => e = .returned (.slice none 0 0) ∧ w' = w := by
 have qnil : ∀ (w : World) (a : Option Addr) (n c : Nat), (binOp .eql 34 (.slice a n c) (.slice none 0 0)).run Tryz.prog w = .ok (.bool a.isNone) w := fun w a n c => Lib.run_eql_slice_nil w _ _ a n c 0 0 Tryz.underlying34
 go_enter Tryz.func112, Tryz.ntmps112
 go_wp2
 go_ret
 exact ⟨rfl, rfl⟩
set_option maxHeartbeats 2000000 in
set_option maxRecDepth 100000 in
theorem growB_zero (A : Option Addr) (w : World) : Calls Tryz.prog 145 #[.slice A 0 0, .int .i64 0] w fun e w' => e = .returned (.slice A 0 0) ∧ w' = w := by
 go_enter Tryz.func145, Tryz.ntmps145
 go_wp2
 go_ret
 exact ⟨rfl, rfl⟩
set_option maxHeartbeats 2000000 in
set_option maxRecDepth 100000 in
theorem growB_pos (A : Option Addr) (n : Nat) (w : World) (h0 : 0 < n) (hn : n ≤ lim) : Calls Tryz.prog 145 #[.slice A 0 0, .int .i64 n] w fun e w' => ∃ cap cur, e = .returned (.slice (some ⟨w.heap.size, 0, none⟩) 0 cap) ∧ w' = w.drew.alloc (.cells cur 5) ∧ cur.size = cap := by
 obtain ⟨i0, hi, hz0, hz1, hz2⟩ := infoByte
 obtain ⟨cap, cur, happ, h1, h2, h3⟩ := grow_append (P := Tryz.prog) (ty := 34) Tryz.underlying34 Tryz.underlying3 hi hz0 hz1 (by omega) w A n h0 hn
 have hn' : n ≤ 2147483648 := hn
 have h2' : cap ≤ 9223372036854775807 := by unfold maxLen at h2; exact h2
 have e1 : ¬ ((n : Int) < 0) := by omega
 have e2 : (0 : Int) < (n : Int) := by omega
 have hsl : cap ≠ 0 := by omega
 cases A with
 | none =>
  go_enter Tryz.func145, Tryz.ntmps145
  go_wp2_with (at_builtin; refine wpList_append_eq rfl _ _ 34 3 rfl _ _ rfl rfl happ ?_)
  go_ret
  first | exact ⟨cap, cur, rfl, rfl, h3⟩ | exact ⟨cap, rfl, h3⟩ | exact ⟨cap, rfl, cur, rfl, h3⟩ | trace_state
 | some a =>
  go_enter Tryz.func145, Tryz.ntmps145
  go_wp2_with (at_builtin; refine wpList_append_eq rfl _ _ 34 3 rfl _ _ rfl rfl happ ?_)
  go_ret
  first | exact ⟨cap, cur, rfl, rfl, h3⟩ | exact ⟨cap, rfl, h3⟩ | exact ⟨cap, rfl, cur, rfl, h3⟩ | trace_state
theorem dec_dig : ∀ i, i < 100 → Lib.decDigits i = dig10 i := by
 have h : ((List.range 100).all fun i => Lib.decDigits i == dig10 i) = true := by kernel_rfl
 intro i hi
 have := List.all_eq_true.1 h i (List.mem_range.2 hi)
 exact eq_of_beq this
theorem itoa_small (i : Nat) (hi : i < 100) (w : World) : Calls Tryz.prog 59 #[.int .i64 i] w fun ex w' => ex = .returned (.string ⟨(dig10 i).toArray⟩) ∧ w' = w := by
 rw [← dec_dig i hi]
 exact Tryz.strconv_Itoa_small i hi w
end Go.Proofs.YtloekbdlmikkcaaGreatDoor
