/- Walks of slices.Repeat at numbers and of slices.Grow at files. No condition. -/
import Derived.Test.YtedbfdlgiilapaaGreatDoorWalkL
import Derived.Test.YtedbfdlgiilapaaGreatDoorShelfL
import Derived.Test.YtedbfdlgiilapaaGreatDoorZvL7
import Derived.Laws.CopyRow
import Derived.Laws.MakeOwn
import Derived.Shelf.Small.Bits
set_option linter.unusedSimpArgs false
set_option linter.unusedVariables false
namespace Go.Proofs.YtedbfdlgiilapaaGreatDoor
open Go Go.RowKit Go.Proofs Go.Zv
theorem wpList_make_eq {P:Program} {ops:Array Oper} {rest:List Oper} {o:Oper} {a:Act} {w:World} {Q:Exit→Act→World→Prop} (hg:o.guard=none) (t:TypeId) (l c:Operand)
  (ho:o.op=.makeSlice t l c) (v u:Value) (hd:a.eval l=v) (hx:a.eval c=u) {v':Value} {w':World}
  (hr:(Instr.makeSlice t v u).run P w=.ok v' w') (h:wpList P ops Q rest (a.put o.dst v') w'):wpList P ops Q (o::rest) a w :=
 wpList_plain hg fun K hK=>by
  unfold Oper.wp
  simp[execOp,ho,hd,hx,hr,Result.andThen]
  exact hK _ _ h
theorem copy_more {x:Value} {cur:Array Value} {m N k:Nat} (hs:cur.size=N) (ht:cur.toList.take m=List.replicate m x) (hk:k=min m (N-m)) (hm:m≤N) :
  (cur.toList.take m++List.replicate k x++cur.toList.drop (m+k)).toArray.size=N∧(cur.toList.take m++List.replicate k x++cur.toList.drop (m+k)).toArray.toList.take (m+k)=List.replicate (m+k) x:=by
 have hl:cur.toList.length=N:=by simpa using hs
 constructor
 ·
  simp[hl];omega
 ·
  rw[ht]
  have:(List.replicate m x++List.replicate k x++cur.toList.drop (m+k))=List.replicate (m+k) x++cur.toList.drop (m+k):=by rw[List.replicate_append_replicate]
  simp only[this]
  rw[List.take_left' (by simp)]
theorem cell_of_take {x:Value} {w:World} {b t m:Nat} {cur:Array Value} {fr:Nat×Nat} (hh:w.heap[b]?=some (.cells cur t fr)) (ht:cur.toList.take m=List.replicate m x) {j:Nat} (hj:j<m) (hm:m≤cur.size):w.cell? ⟨b,j,none⟩=some x:=by
 have:cur.toList[j]?=some x:=by
  have:=congrArg (fun l=>l[j]?) ht
  simpa[List.getElem?_take,hj,List.getElem?_replicate] using this
 simp only[World.cell?,hh]
 simpa using this
theorem infoInt:∃ i,Tryz.prog.info? 3=some i∧i.zero=some (.int .i64 0)∧i.size=1∧i.bytes=8:=by
 have h:(Tryz.prog.info? 3).map (fun i=>(i.zero,i.size,i.bytes))=some (some (.int .i64 0),1,8):=by kernel_rfl
 obtain ⟨i,h1,h2⟩:=Option.map_eq_some_iff.1 h
 simp only[Prod.mk.injEq] at h2
 exact ⟨i,h1,h2.1,h2.2.1,h2.2.2⟩
theorem mul_any (n:Nat) (hn:n≤lim) (w:World):Calls Tryz.prog 150 #[.int .u64 1,.int .u64 n] w fun e w'=>e=.returned (.tuple #[.int .u64 0,.int .u64 n])∧w'=w:=by
 have hl:lim=2147483648:=rfl
 have h:=Tryz.bits_Mul 1 n (by decide) (by omega) w
 have e1:1*n / 18446744073709551616=0:=by omega
 have e2:1*n % 18446744073709551616=n:=by omega
 rw[e1,e2] at h
 exact h
theorem below_setRow {B:Nat} {a w:World} (h:Below B a w) {b:Nat} (hb:B≤b) (cs:Array Value):Below B a (w.setRow b cs) :=
 ⟨h.os,h.tape,h.output,by simpa[World.setRow] using h.size,fun k hk=>by
  have hne:b≠k:=by omega
  rw[←h.block k hk]
  simp[World.setRow,Array.getElem?_modify,hne]⟩
structure RepInv (w wr:World) (x:Int) (N m:Nat):Prop where
 le:m≤N
 pos:0<N→0<m
 row:∃ cur,wr.heap[w.heap.size]?=some (.cells cur 3 (0,0))∧cur.size=N∧cur.toList.take m=List.replicate m (.int .i64 x)
 low:Below w.heap.size w wr
theorem RepInv.drew {w wr:World} {x:Int} {N m:Nat} (h:RepInv w wr x N m):RepInv w wr.drew x N m:=⟨h.le,h.pos,h.row,h.low.drew⟩
theorem RepInv.copy {w wr:World} {x:Int} {N m:Nat} (h:RepInv w wr x N m) (hm:m<N):∃ (k:Nat) (w2:World),(Builtin.copy_ #[116,116] 3 #[.slice (some ⟨w.heap.size,m,none⟩) (N-m) (N-m),.slice (some ⟨w.heap.size,0,none⟩) m N]).run Tryz.prog wr=.ok (goInt k) w2∧k≤N-m∧0<k∧RepInv w w2 x N (m+k):=by
 obtain ⟨i0,hi,hz0,hz1,hz2⟩:=infoInt
 obtain ⟨cur,h1,h2,h3⟩:=h.row
 have hp:=h.pos (by omega)
 have hk:Nat.min m (N-m)=min m (N-m):=rfl
 have hrun:=run_copy_row (P:=Tryz.prog) wr 116 116 3 3 w.heap.size m (N-m) (N-m) ⟨w.heap.size,0,none⟩ m N cur 3 (List.replicate (min m (N-m)) (.int .i64 x)) Tryz.underlying116 (by rw[hi];simp[hz1]) h1 (by simp[hk]) (by
  intro j v hj
  have hjl:j<min m (N-m):=by
   have:=(List.getElem?_eq_some_iff.1 hj).1
   simpa using this
  have hv:v=.int .i64 x:=by
   rw[List.getElem?_replicate,if_pos hjl] at hj
   exact (Option.some.inj hj).symm
  have hadd:(⟨w.heap.size,0,none⟩:Addr).add j=⟨w.heap.size,j,none⟩:=by unfold Addr.add;split <;> simp_all
  rw[hadd,hv]
  exact cell_of_take h1 h3 (by omega) (by omega)) (by simp;omega) (by
  intro v hv
  rw[List.mem_replicate] at hv
  rw[hv.2];rfl)
 obtain ⟨c1,c2⟩:=copy_more (x:=.int .i64 x) (cur:=cur) (m:=m) (N:=N) (k:=min m (N-m)) h2 h3 rfl h.le
 refine ⟨_,_,hrun,?_,?_,⟨?_,?_,⟨_,setRow_heap wr w.heap.size cur _ 3 _ h1,?_,?_⟩,?_⟩⟩
 ·
  simp;omega
 ·
  simp;omega
 ·
  simp;omega
 ·
  intro _;omega
 ·
  simpa using c1
 ·
  simpa using c2
 ·
  exact below_setRow h.low (Nat.le_refl _) _
set_option maxHeartbeats 2000000 in
set_option maxRecDepth 100000 in
theorem repI_any (b o c:Nat) (x:Int) (n:Nat) (w:World) (hx:w.cell? ⟨b,o,none⟩=some (.int .i64 x)) (hb:b<w.heap.size) (hn:n≤lim) (hc1:1≤c) :
  Calls Tryz.prog 106 #[.slice (some ⟨b,o,none⟩) 1 c,.int .i64 n] w fun ex w'=>∃ v',ex=.returned v'∧w'.ownsRow w.heap.size 3 1 v' n (List.replicate n (.int .i64 x))∧Below w.heap.size w w':=by
 have hl:n≤2147483648:=hn
 obtain ⟨i0,hi,hz0,hz1,hz2⟩:=infoInt
 have hwn:IntKind.u64.wrap (n:Int)=(n:Int):=wrapLu64 (by omega) (by omega)
 have hwi:IntKind.i64.wrap (n:Int)=(n:Int):=wrapL (by omega) (by omega)
 have hg1:¬((n:Int)<0):=by omega
 have hg2:¬((9223372036854775807:Int)<(n:Int)):=by omega
 have hmake:=run_make (P:=Tryz.prog) w 116 3 i0 (.int .i64 0) Tryz.underlying116 hi hz0 .i64 .i64 (n:Int) (n:Int) (by omega) (by omega) (by rw[hz2];omega) (by omega)
 have hs:madeCells (.int .i64 0:Value).cells ((n:Int).toNat*i0.size)=madeCells #[Value.int .i64 0] n:=by rw[hz1];simp[Value.cells]
 rw[hs,Int.toNat_natCast] at hmake
 have hrow0:(w.alloc (.cells (madeCells #[Value.int .i64 0] n) 3)).heap[w.heap.size]?=some (.cells (madeCells #[Value.int .i64 0] n) 3 (0,0)):=heap_new w _
 have hm1:min 1 n≤n:=by omega
 have hcopy0:∃ w2,(Builtin.copy_ #[116,116] 3 #[.slice (some ⟨w.heap.size,0,none⟩) n n,.slice (some ⟨b,o,none⟩) 1 c]).run Tryz.prog (w.alloc (.cells (madeCells #[Value.int .i64 0] n) 3))=.ok (.int .i64 (min 1 n:Nat)) w2∧RepInv w w2 x n (min 1 n):=by
  have hrun:=run_copy_row (P:=Tryz.prog) (w.alloc (.cells (madeCells #[Value.int .i64 0] n) 3)) 116 116 3 3 w.heap.size 0 n n ⟨b,o,none⟩ 1 c _ 3 (List.replicate (min 1 n) (.int .i64 x)) Tryz.underlying116 (by rw[hi];simp[hz1]) hrow0 (by simp) (by
   intro j v hj
   have hjl:j<min 1 n:=by
    have:=(List.getElem?_eq_some_iff.1 hj).1
    simpa using this
   have hj0:j=0:=by omega
   have hv:v=.int .i64 x:=by
    rw[List.getElem?_replicate,if_pos hjl] at hj
    exact (Option.some.inj hj).symm
   have hadd:(⟨b,o,none⟩:Addr).add j=⟨b,o,none⟩:=by subst hj0;unfold Addr.add;split <;> simp_all
   rw[hadd,hv,World.cell?_of_block (heap_alloc_old w _ hb)]
   exact hx) (by simp[size_madeCells];omega) (by
   intro v hv
   rw[List.mem_replicate] at hv
   rw[hv.2];rfl)
  refine ⟨_,by simpa[goInt] using hrun,⟨hm1,by omega,⟨_,setRow_heap _ w.heap.size _ _ 3 _ hrow0,?_,?_⟩,?_⟩⟩
  ·
   simp[size_madeCells];omega
  ·
   simp only[List.take_zero,List.nil_append,List.length_replicate,Nat.zero_add]
   rw[List.take_left' (by simp)]
  ·
   exact below_setRow ((Below.refl _ w).alloc (Nat.le_refl _) _) (Nat.le_refl _) _
 obtain ⟨w2,hcopy,hinv0⟩:=hcopy0
 have hinv:Hid (RepInv w w2 x n (min 1 n)):=hinv0
 clear hinv0 hrow0 hs
 go_enter Tryz.func106,Tryz.ntmps106
 go_wp2_with (first
  | (go_at_call 150;refine (mul_any n hn _).mono ?_;rintro e w1 ⟨rfl,hw1⟩;replace hw1:=hw1.symm;subst hw1)
  | (at_make;refine wpList_make_eq rfl 116 _ _ rfl _ _ rfl rfl hmake ?_)
  | (at_builtin;refine wpList_copy_eq rfl _ _ 116 116 rfl _ _ rfl rfl hcopy ?_))
 go_loopw [8] (fun k wr=>∃ m:Nat,k=.int .i64 m∧Hid (RepInv w wr x n m)) (fun k _=>n-(intOf k).toNat)
 case atStart=>exact ⟨min 1 n,rfl,hinv⟩
 case round =>
  obtain ⟨m,rfl,HR⟩:=hrel
  have hmn:m≤n:=HR.out.le
  by_cases hlt:m<n
  ·
   obtain ⟨k,w3,hrun,hk1,hk2,hinv3⟩:=HR.out.drew.copy hlt
   have HR3:Hid (RepInv w w3 x n (m+k)):=hinv3
   clear hinv3
   have hlt':(m:Int)<(n:Int):=by omega
   have hb1:¬(n=m):=by omega
   have hb2:(m:Int)≤(n:Int):=by omega
   have hwk:IntKind.i64.wrap ((m:Int)+(k:Int))=((m+k:Nat):Int):=by rw[wrapL (by omega) (by omega)];omega
   go_wp2
   go_region_law (refine step_copy_run rfl _ _ 116 116 rfl _ _ (by simp[Act.eval,Act.put]) (by simp[Act.eval,Act.put]) hrun ?_)
   simp[Act.put,hwk]
   go_wp2
   go_roundw
   case rel=>exact ⟨m+k,by simp,HR3⟩
   case measure=>simp[intOf];omega
  ·
   have hlt':¬((m:Int)<(n:Int)):=by omega
   have hme:m=n:=by omega
   go_wp2
   go_ret
   subst hme
   obtain ⟨cur,h1,h2,h3⟩:=HR.out.row
   exact ⟨_,rfl,⟨by simp,.inr ⟨_,_,_,rfl,Nat.le_refl _,h1,Nat.le_refl _,by unfold maxLen;omega,by rw[h2];simp,by simpa using h3⟩⟩,HR.out.low⟩
theorem infoFile:∃ i,Tryz.prog.info? 37=some i∧i.zero=some (.agg #[.string ⟨#[]⟩,.slice none 0 0])∧i.size=2∧i.bytes=40:=by
 have h:(Tryz.prog.info? 37).map (fun i=>(i.zero,i.size,i.bytes))=some (some (.agg #[.string ⟨#[]⟩,.slice none 0 0]),2,40):=by kernel_rfl
 obtain ⟨i,h1,h2⟩:=Option.map_eq_some_iff.1 h
 simp only[Prod.mk.injEq] at h2
 exact ⟨i,h1,h2.1,h2.2.1,h2.2.2⟩
set_option maxHeartbeats 2000000 in
set_option maxRecDepth 100000 in
theorem growF_zero (A:Option Addr) (w:World):Calls Tryz.prog 140 #[.slice A 0 0,.int .i64 0] w fun e w'=>e=.returned (.slice A 0 0)∧w'=w:=by
 go_enter Tryz.func140,Tryz.ntmps140
 go_wp2
 go_ret
 exact ⟨rfl,rfl⟩
set_option maxHeartbeats 2000000 in
set_option maxRecDepth 100000 in
theorem growF_pos (A:Option Addr) (n:Nat) (w:World) (h0:0<n) (hn:n≤lim):Calls Tryz.prog 140 #[.slice A 0 0,.int .i64 n] w fun e w'=>∃ cap cur,e=.returned (.slice (some ⟨w.heap.size,0,none⟩) 0 cap)∧w'=w.drew.alloc (.cells cur 37)∧cur.size=cap*2:=by
 obtain ⟨i0,hi,hz0,hz1,hz2⟩:=infoFile
 obtain ⟨cap,cur,happ,h1,h2,h3⟩:=grow_appendK (P:=Tryz.prog) (ty:=22) (K:=2) Tryz.underlying22 Tryz.underlying3 hi hz0 rfl hz1 (by omega) w A n h0 hn
 have hn':n≤2147483648:=hn
 have h2':cap≤9223372036854775807:=by unfold maxLen at h2;exact h2
 have e1:¬((n:Int)<0):=by omega
 have e2:(0:Int)<(n:Int):=by omega
 have hsl:cap≠0:=by omega
 cases A with
 | none =>
  go_enter Tryz.func140,Tryz.ntmps140
  go_wp2_with (at_builtin;refine wpList_append_eq rfl _ _ 22 3 rfl _ _ rfl rfl happ ?_)
  go_ret
  first | exact ⟨cap,cur,rfl,rfl,h3⟩ | exact ⟨cap,rfl,h3⟩ | exact ⟨cap,rfl,cur,rfl,h3⟩ | trace_state
 | some a =>
  go_enter Tryz.func140,Tryz.ntmps140
  go_wp2_with (at_builtin;refine wpList_append_eq rfl _ _ 22 3 rfl _ _ rfl rfl happ ?_)
  go_ret
  first | exact ⟨cap,cur,rfl,rfl,h3⟩ | exact ⟨cap,rfl,h3⟩ | exact ⟨cap,rfl,cur,rfl,h3⟩ | trace_state
end Go.Proofs.YtedbfdlgiilapaaGreatDoor
