/- Plain laws: what the plain functions say. No condition. -/
import Derived.Test.YtloekbdlmikkcaaGreatDoorLawF2
set_option linter.unusedSimpArgs false
set_option linter.unusedVariables false
namespace Go.Zv.G
open Go Go.Zv
set_option maxRecDepth 100000
attribute [local simp high] bsome
def padB (x:Int) (e:Nat):UInt8:=UInt8.ofNat (IntKind.u8.wrap (Int.fdiv (IntKind.u64.wrap (8*IntKind.u64.wrap x)) (2 ^ (min e (IntKind.bits .u64))))).toNat
def padL (x:Int) (k:Nat):List UInt8:=(List.range k).map fun j=>padB x (56-8*j)
theorem padL_succ (x:Int) (k:Nat):padL x (k+1)=padL x k++[padB x (56-8*k)]:=by
 unfold padL
 rw[List.range_succ,List.map_append,List.map_singleton]
theorem padL_len (x:Int) (k:Nat):(padL x k).length=k:=by simp[padL]
theorem pad15_eq (x:Int) (o:List UInt8) (ho:o.length<1000):∀ (m i:Nat),i≤8→8<m+i→qd7 x m (o++padL x i) (i:Int)=some (o++padL x 8):=by
 have hl:lim=2147483648:=rfl
 intro m
 induction m with
 | zero=>intro i h1 h2;omega
 | succ m ih =>
  intro i h1 h2
  rw[qd7.eq_2]
  by_cases hc:i<8
  ·
   have e:(56:Int)-8*(i:Int)=((56-8*i:Nat):Int):=by omega
   have e8:IntKind.u64.wrap x*(2 ^ (min (Int.toNat 3) (IntKind.bits .u64)))=8*IntKind.u64.wrap x:=by
    rw[show (2:Int) ^ (min (Int.toNat 3) (IntKind.bits .u64))=8 from rfl]
    omega
   rw[if_pos (by simp;omega),fb,fb,rb (by omega) (by omega),rb (by omega) (by omega),nb (by omega),fb,e,e8,Int.toNat_natCast]
   unfold frc8
   rw[qmf,bsome,bsome,nb (by simp[padL_len];omega),qm (by omega),bsome]
   dsimp only
   rw[List.append_assoc]
   have:=ih (i+1) hc (by omega)
   rw[padL_succ] at this
   exact this
  ·
   rw[if_neg (by simp;omega)]
   have:i=8:=by omega
   rw[this]
theorem pad21_eq (x:Int) (o:List UInt8) (ho:o.length<1000):∀ (m i:Nat),i≤8→8<m+i→qbl x m (o++padL x i) (7-(i:Int))=some (o++padL x 8):=by
 have hl:lim=2147483648:=rfl
 intro m
 induction m with
 | zero=>intro i h1 h2;omega
 | succ m ih =>
  intro i h1 h2
  rw[qbl.eq_2]
  by_cases hc:i<8
  ·
   have e:(8:Int)*(7-(i:Int))=((56-8*i:Nat):Int):=by omega
   have e1:(7:Int)-(i:Int)-1=7-((i+1:Nat):Int):=by omega
   rw[if_pos (by simp;omega),fb,fb,rb (by omega) (by omega),nb (by omega),fb,e,Int.toNat_natCast]
   unfold frc8
   rw[qmf,bsome,bsome,nb (by simp[padL_len];omega),rb (by omega) (by omega),e1]
   dsimp only
   rw[List.append_assoc]
   have:=ih (i+1) hc (by omega)
   rw[padL_succ] at this
   exact this
  ·
   rw[if_neg (by simp;omega)]
   have:i=8:=by omega
   rw[this]
def qhx (len:Nat):Nat:=(119-len % 64) % 64
def padOf (len:Nat):List UInt8:=((128:UInt8)::List.replicate (qhx len) 0)++padL (len:Int) 8
theorem f_sha_pad_eq {n:Nat} (hn:100<n) (len:Nat):qi8 n (len:Int)=some (padOf len):=by
 have hl:lim=2147483648:=rfl
 have a1:Int.tmod (len:Int) 64=((len % 64:Nat):Int):=by
  rw[Int.tmod_eq_emod_of_nonneg (by omega)];omega
 have a2:Int.tmod (119-((len % 64:Nat):Int)) 64=((qhx len:Nat):Int):=by
  rw[Int.tmod_eq_emod_of_nonneg (by omega)]
  unfold qhx
  omega
 have a3:qhx len<64:=Nat.mod_lt _ (by omega)
 unfold qi8
 rw[fb,a1,rb (by omega) (by omega),fb,a2,nb (by omega),nb (by omega),Int.toNat_natCast]
 have:=pad15_eq (len:Int) ((128:UInt8)::List.replicate (qhx len) 0) (by simp;omega) n 0 (by omega) (by omega)
 rw[show padL (len:Int) 0=[] from rfl,List.append_nil] at this
 exact this
theorem pad5_eq {n:Nat} (hn:100<n) (len:Nat) (hlen:len≤1000000):∀ (m j:Nat),j≤qhx len→64<m+j→qbt n (len:Int) m ((128:UInt8)::List.replicate j 0)=some (padOf len):=by
 have hl:lim=2147483648:=rfl
 have a3:qhx len<64:=Nat.mod_lt _ (by omega)
 intro m
 induction m with
 | zero=>intro j h1 h2;omega
 | succ m ih =>
  intro j h1 h2
  have e1:(len:Int)+((((128:UInt8)::List.replicate j 0).length:Nat):Int)=((len+1+j:Nat):Int):=by simp;omega
  have e2:Int.tmod (((len+1+j:Nat):Int)+8) 64=(((len+9+j) % 64:Nat):Int):=by
   rw[Int.tmod_eq_emod_of_nonneg (by omega)];omega
  rw[qbt.eq_2,rb (by omega) (by omega),e1,rb (by omega) (by omega),fb,e2]
  by_cases hc:j<qhx len
  ·
   have:(len+9+j) % 64≠0:=by unfold qhx at hc;omega
   rw[if_pos (by simp;omega),nb (by simp;omega)]
   dsimp only
   have e3:((128:UInt8)::List.replicate j 0)++[0]=(128:UInt8)::List.replicate (j+1) 0:=by
    rw[List.replicate_succ',List.cons_append]
   rw[e3]
   exact ih (j+1) hc (by omega)
  ·
   have hj:j=qhx len:=by omega
   have:(len+9+j) % 64=0:=by rw[hj];unfold qhx;omega
   rw[if_neg (by rw[this];simp),hj]
   have:=pad21_eq (len:Int) ((128:UInt8)::List.replicate (qhx len) 0) (by simp;omega) n 0 (by omega) (by omega)
   rw[show padL (len:Int) 0=[] from rfl,List.append_nil] at this
   exact this
theorem f_ref_pad_eq {n:Nat} (hn:100<n) (len:Nat) (hlen:len≤1000000):qew n (len:Int)=some (padOf len):=by
 unfold qew
 exact pad5_eq hn len hlen n 0 (by omega) (by omega)
theorem padOf_len (len:Nat):(padOf len).length<80:=by
 have a3:qhx len<64:=Nat.mod_lt _ (by omega)
 unfold padOf
 simp[padL_len]
 omega
def takeF (n:Nat) (p:Nat→Int) (b:List UInt8):Nat→Int:=(qg8 n p b).getD zeroA
theorem takeF_ok {n:Nat} (hn:100<n) {p:Nat→Int} (hp:Z8 p) {l:List UInt8} (hl:l.length=64):qg8 n p l=some (takeF n p l)∧qej n p l=some (takeF n p l)∧Z8 (takeF n p l):=by
 obtain ⟨R,h1,h2,h3⟩:=take_eq hn hp hl
 have:takeF n p l=R:=by unfold takeF;rw[h1];rfl
 rw[this]
 exact ⟨h1,h2,h3⟩
def absorb (n:Nat):Nat→(Nat→Int)→List UInt8→(Nat→Int)×List UInt8
 | 0,v,l=>(v,l)
 | m+1,v,l=>if 64≤l.length then absorb n m (takeF n v (l.take 64)) (l.drop 64) else (v,l)
theorem absorb_small {n m:Nat} {v:Nat→Int} {l:List UInt8} (h:l.length<64):absorb n m v l=(v,l):=by
 cases m with
 | zero=>rfl
 | succ m=>rw[absorb,if_neg (by omega)]
theorem absorb_fuel {n:Nat}:∀ (m m':Nat) (v:Nat→Int) (l:List UInt8),l.length<64*m→l.length<64*m'→absorb n m v l=absorb n m' v l:=by
 intro m
 induction m with
 | zero=>intro m' v l h;omega
 | succ m ih =>
  intro m' v l h h'
  cases m' with
  | zero=>omega
  | succ m' =>
   rw[absorb,absorb]
   by_cases hc:64≤l.length
   ·
    rw[if_pos hc,if_pos hc]
    exact ih m' _ _ (by simp;omega) (by simp;omega)
   ·
    rw[if_neg hc,if_neg hc]
theorem absorb_append {n:Nat}:∀ (m:Nat) (v:Nat→Int) (a b:List UInt8),(a++b).length<64*m→absorb n m v (a++b)=absorb n m (absorb n m v a).1 ((absorb n m v a).2++b):=by
 intro m
 induction m with
 | zero=>intro v a b h;omega
 | succ m ih =>
  intro v a b h
  by_cases hc:64≤a.length
  ·
   have e1:absorb n (m+1) v (a++b)=absorb n m (takeF n v (a.take 64)) (a.drop 64++b):=by
    rw[absorb,if_pos (by simp;omega),List.take_append_of_le_length hc,List.drop_append_of_le_length hc]
   have e2:absorb n (m+1) v a=absorb n m (takeF n v (a.take 64)) (a.drop 64):=by
    rw[absorb,if_pos hc]
   simp only[List.length_append] at h
   rw[e1,e2,ih _ _ _ (by simp;omega)]
   have hlen:∀ (k:Nat) (w:Nat→Int) (c:List UInt8),(absorb n k w c).2.length≤c.length:=by
    intro k
    induction k with
    | zero=>intro w c;exact Nat.le_refl _
    | succ k ihk =>
     intro w c
     rw[absorb]
     split
     ·
      exact Nat.le_trans (ihk _ _) (by simp)
     ·
      exact Nat.le_refl _
   have:=hlen m (takeF n v (a.take 64)) (a.drop 64)
   simp only[List.length_drop] at this
   exact absorb_fuel _ _ _ _ (by simp;omega) (by simp;omega)
  ·
   rw[absorb_small (l:=a) (by omega)]
theorem absorb_z {n:Nat} (hn:100<n):∀ (m:Nat) (v:Nat→Int) (l:List UInt8),Z8 v→Z8 (absorb n m v l).1:=by
 intro m
 induction m with
 | zero=>intro v l h;exact h
 | succ m ih =>
  intro v l h
  rw[absorb]
  split
  ·
   exact ih _ _ (takeF_ok hn h (by simp;omega)).2.2
  ·
   exact h
theorem absorb_rest {n:Nat}:∀ (m:Nat) (v:Nat→Int) (l:List UInt8),l.length<64*m→(absorb n m v l).2.length<64:=by
 intro m
 induction m with
 | zero=>intro v l h;omega
 | succ m ih =>
  intro v l h
  rw[absorb]
  split
  ·
   exact ih _ _ (by simp;omega)
  ·
   dsimp only;omega
theorem write11_eq {n:Nat} (hn:100<n) (i3:Int):∀ (m:Nat) (v:Nat→Int) (l:List UInt8),Z8 v→l.length≤lim→l.length<64*m→qdm n i3 m v l=some ((absorb n m v l).1,(absorb n m v l).2,i3):=by
 intro m
 induction m with
 | zero=>intro v l hz h0 h;omega
 | succ m ih =>
  intro v l hz h0 h
  rw[qdm.eq_2,absorb]
  by_cases hc:64≤l.length
  ·
   have e1:cutI l 0 64=some (l.take 64):=qla (b:=64) hc
   have e2:cutI l 64 (l.length:Int)=some ((l.take l.length).drop 64):=qgj (a:=64) (b:=l.length) (by omega) (by omega)
   obtain ⟨t1,_,t3⟩:=takeF_ok hn hz (l:=l.take 64) (by simp;omega)
   rw[if_pos (by simp;omega),e1,bsome,t1,bsome,e2,bsome,if_pos hc,List.take_length]
   exact ih _ _ t3 (by simp;omega) (by simp;omega)
  ·
   rw[if_neg (by simp;omega),if_neg hc]
   unfold lmt
   rw[if_pos h0,bsome]
theorem after5_eq {n:Nat} (hn:100<n) (p2:List UInt8) (hp2:p2.length≤100000000):∀ (m i:Nat) (v:Nat→Int),Z8 v→i≤p2.length→p2.length<64*m+i→qch n p2 m v (i:Int)=some (absorb n m v (p2.drop i)).1:=by
 intro m
 induction m with
 | zero=>intro i v hz h0 h;omega
 | succ m ih =>
  intro i v hz h0 h
  have e64:(i:Int)+64=((i+64:Nat):Int):=by omega
  rw[qch.eq_2,absorb,rb (by omega) (by omega)]
  by_cases hc:64≤(p2.drop i).length
  ·
   have hc':i+64≤p2.length:=by simp at hc;omega
   have e1:(p2.take (i+64)).drop i=(p2.drop i).take 64:=by
    rw[List.drop_take]
    rw[show i+64-i=64 by omega]
   obtain ⟨_,t2,t3⟩:=takeF_ok hn hz (l:=(p2.drop i).take 64) (by simp;omega)
   rw[if_pos (by simp;omega),rb (by omega) (by omega),e64,qgj (by omega) (by omega),bsome,e1,t2,bsome,if_pos hc,List.drop_drop,rb (by omega) (by omega)]
   exact ih (i+64) _ t3 (by omega) (by omega)
  ·
   have hc':¬i+64≤p2.length:=by simp at hc;omega
   rw[if_neg (by simp;omega),if_neg hc]
theorem qpu {n:Nat} (hn:40000<n) (v:Nat→Int) (hz:Z8 v) (a:List UInt8) (c:Nat) (b:List UInt8) (ha:a.length<64) (hb:b.length≤1000000) (hc:c≤1000000000) :
  qga n v a (c:Int) b=some ((absorb n n v (a++b)).1,(absorb n n v (a++b)).2,((c+b.length:Nat):Int)):=by
 have hl:lim=2147483648:=rfl
 have e:(c:Int)+(b.length:Int)=((c+b.length:Nat):Int):=by omega
 unfold qga
 rw[rb (by omega) (by omega),qjc (by omega) a b (by omega),bsome,e]
 exact write11_eq (by omega) _ n v (a++b) hz (by simp;omega) (by simp;omega)
def digB (h:Nat→Int) (j:Nat):Int:=((UInt8.ofNat (IntKind.u8.wrap (Int.fdiv (h (j / 4)) (2 ^ (min (24-8*(j % 4)) (IntKind.bits .u32))))).toNat).toNat:Int)
def digA (h:Nat→Int) (k:Nat):Nat→Int:=fun j=>if j<k then digB h j else 0
theorem digA_upd (h:Nat→Int) (k:Nat):updA (digA h k) k (digB h k)=digA h (k+1):=by
 funext j
 by_cases hj:j=k
 ·
  subst hj
  rw[qh3]
  unfold digA
  rw[if_pos (by omega)]
 ·
  rw[qdh _ _ hj]
  unfold digA
  by_cases h1:j<k
  ·
   rw[if_pos h1,if_pos (by omega)]
  ·
   rw[if_neg h1,if_neg (by omega)]
theorem fin25_eq (r6:(Nat→Int)×(List UInt8)×Int) {i:Nat} (hi:i<8) (rec:(Nat→Int)→Int→Option (Nat→Int)):∀ (m k:Nat),k≤4→4<m+k→qc9 r6 (i:Int) rec m (digA r6.1 (4*i+k)) (k:Int)=rec (digA r6.1 (4*(i+1))) ((i+1:Nat):Int):=by
 intro m
 induction m with
 | zero=>intro k h1 h2;omega
 | succ m ih =>
  intro k h1 h2
  rw[qc9.eq_2]
  by_cases hc:k<4
  ·
   have e:(24:Int)-8*(k:Int)=((24-8*k:Nat):Int):=by omega
   have e1:(4:Int)*(i:Int)+(k:Int)=((4*i+k:Nat):Int):=by omega
   rw[if_pos (by simp;omega),rb (by omega) (by omega),rb (by omega) (by omega),rb (by omega) (by omega),rb (by omega) (by omega),nb (by omega),fb,e,e1]
   unfold frc8
   rw[qmf,bsome,bsome,nb (by omega),qm (by omega),bsome]
   simp only[Int.toNat_natCast]
   have hb:((UInt8.ofNat (IntKind.u8.wrap (Int.fdiv (r6.1 i) (2 ^ (min (24-8*k) (IntKind.bits .u32))))).toNat).toNat:Int)=digB r6.1 (4*i+k):=by
    unfold digB
    rw[show (4*i+k) / 4=i by omega,show (4*i+k) % 4=k by omega]
   rw[hb,digA_upd]
   exact ih (k+1) hc (by omega)
  ·
   have:k=4:=by omega
   subst this
   rw[if_neg (by simp),qm (by omega),bsome]
   rfl
theorem fin12_eq (r6:(Nat→Int)×(List UInt8)×Int):∀ (m i:Nat),i≤8→20<m+i→qb3 r6 m (digA r6.1 (4*i)) (i:Int)=some (digA r6.1 32):=by
 intro m
 induction m with
 | zero=>intro i h1 h2;omega
 | succ m ih =>
  intro i h1 h2
  rw[qb3.eq_2]
  by_cases hc:i<8
  ·
   rw[if_pos (by simp;omega),nb (by omega)]
   refine Eq.trans (fin25_eq r6 hc _ m 0 (by omega) (by omega)) ?_
   exact ih (i+1) hc (by omega)
  ·
   rw[if_neg (by simp;omega)]
   have:i=8:=by omega
   rw[this]
theorem dig6_eq (h:Nat→Int):∀ (m j:Nat),j≤32→32<m+j→qb5 h m (digA h j) (j:Int)=some (digA h 32):=by
 intro m
 induction m with
 | zero=>intro j h1 h2;omega
 | succ m ih =>
  intro j h1 h2
  rw[qb5.eq_2]
  by_cases hc:j<32
  ·
   have e4:IntKind.i64.wrap (Int.tdiv (j:Int) 4)=((j / 4:Nat):Int):=by
    have:Int.tdiv (j:Int) 4=((j / 4:Nat):Int):=by
     rw[Int.tdiv_eq_ediv_of_nonneg (by omega)];omega
    rw[this]
    simp[IntKind.wrap,IntKind.signed,IntKind.bits]
    omega
   have em:Int.tmod (j:Int) 4=((j % 4:Nat):Int):=by
    rw[Int.tmod_eq_emod_of_nonneg (by omega)];omega
   have e:(24:Int)-8*((j % 4:Nat):Int)=((24-8*(j % 4):Nat):Int):=by omega
   rw[if_pos (by simp;omega),fb,e4,nb (by omega),fb,em,rb (by omega) (by omega),rb (by omega) (by omega),nb (by omega),fb,e]
   unfold frc8
   rw[qmf,bsome,bsome,nb (by omega),qm (by omega),bsome]
   simp only[Int.toNat_natCast]
   have:=digA_upd h j
   unfold digB at this
   rw[this]
   exact ih (j+1) hc (by omega)
  ·
   rw[if_neg (by simp;omega)]
   have:j=32:=by omega
   rw[this]
theorem first_eq:litA glob0=updA (updA (updA (updA (updA (updA (updA (updA zeroA 0 1779033703) 1 3144134277) 2 1013904242) 3 2773480762) 4 1359893119) 5 2600822924) 6 528734635) 7 1541459225:=by
 funext j
 match j with
 | 0=>rfl
 | 1=>rfl
 | 2=>rfl
 | 3=>rfl
 | 4=>rfl
 | 5=>rfl
 | 6=>rfl
 | 7=>rfl
 | j+8 =>
  rw[qdh _ _ (by omega),qdh _ _ (by omega),qdh _ _ (by omega),qdh _ _ (by omega),qdh _ _ (by omega),qdh _ _ (by omega),qdh _ _ (by omega),qdh _ _ (by omega)]
  rfl
theorem first_z:Z8 (litA glob0):=by
 intro j h
 obtain ⟨k,rfl⟩:∃ k,j=k+8:=⟨j-8,by omega⟩
 rfl
theorem sum_eq {n:Nat} (hn:40000<n) (t:List UInt8):∃ r,qh2 n t=some r∧qe6 n t=some r:=by
 have hl:lim=2147483648:=rfl
 by_cases ht:1000000<t.length
 ·
  refine ⟨(zeroA,4),?_,?_⟩
  ·
   unfold qh2
   rw[if_pos (by simp;omega)]
  ·
   unfold qe6
   rw[if_pos (by simp;omega)]
 ·
  have hP:=padOf_len t.length
  have hr:=absorb_rest (n:=n) n (litA glob0) t (by omega)
  have hz:=absorb_z (n:=n) (by omega) n (litA glob0) t first_z
  refine ⟨(digA (absorb n n (litA glob0) (t++padOf t.length)).1 32,0),?_,?_⟩
  ·
   unfold qh2 qjv
   have w1:=qpu hn (litA glob0) first_z [] 0 t (by simp) (by omega) (by omega)
   rw[List.nil_append,Nat.zero_add] at w1
   rw[if_neg (by simp;omega),bsome]
   dsimp only
   rw[show (0:Int)=((0:Nat):Int) from rfl,w1,bsome]
   unfold qhu
   rw[f_sha_pad_eq (by omega),bsome,qpu hn _ hz _ t.length _ hr (by omega) (by omega),bsome,←absorb_append n _ _ _ (by simp;omega)]
   have:=fin12_eq ((absorb n n (litA glob0) (t++padOf t.length)).1,(absorb n n (litA glob0) (t++padOf t.length)).2,((t.length+(padOf t.length).length:Nat):Int)) n 0 (by omega) (by omega)
   rw[show digA (absorb n n (litA glob0) (t++padOf t.length)).1 (4*0)=zeroA from funext fun j=>by unfold digA zeroA;rw[if_neg (by omega)]] at this
   rw[show (((0:Nat):Nat):Int)=(0:Int) from rfl] at this ⊢
   rw[this,bsome]
  ·
   unfold qe6 qh8 qgl qgm qf5
   rw[if_neg (by simp;omega),bsome,nb (by omega),f_ref_pad_eq (by omega) _ (by omega),bsome,nb (by omega),←first_eq,List.nil_append]
   have a:=after5_eq (n:=n) (by omega) (t++padOf t.length) (by simp;omega) n 0 (litA glob0) first_z (by omega) (by simp;omega)
   rw[List.drop_zero] at a
   have d:=dig6_eq (absorb n n (litA glob0) (t++padOf t.length)).1 n 0 (by omega) (by omega)
   rw[show digA (absorb n n (litA glob0) (t++padOf t.length)).1 0=zeroA from funext fun j=>by unfold digA zeroA;rw[if_neg (by omega)]] at d
   rw[show (((0:Nat):Nat):Int)=(0:Int) from rfl] at a d
   rw[a,bsome,d,bsome,bsome]
#print axioms sum_eq
end Go.Zv.G
namespace Go.Zv.G
open Go Go.Zv
set_option maxRecDepth 100000
attribute [local simp high] bsome
def lns (c:UInt8):List (List UInt8)→List UInt8
 | []=>[]
 | s::l=>c::(s++[10])++lns c l
theorem lns_len (c:UInt8):∀ (l:List (List UInt8)),(∀ s∈l,s.length≤2000)→(lns c l).length≤2002*l.length
 | [],_=>by simp[lns]
 | s::l,h=>by
  have h1:=h s (by simp)
  have h2:=lns_len c l fun x hx=>h x (by simp[hx])
  simp only[lns,List.length_append,List.length_cons,List.length_nil]
  omega
theorem qq6 {x:Int} (h0:0≤x) (h1:x<100):itoaI x=some (dig10 x.toNat)∧(dig10 x.toNat).length≤2:=by
 unfold itoaI
 rw[if_pos ⟨h0,h1⟩]
 refine ⟨rfl,?_⟩
 unfold dig10
 split <;> simp
theorem qkw {x:Nat} (h1:x<100):itoaI (x:Int)=some (dig10 x)∧(dig10 x).length≤2:=by
 have:=qq6 (x:=(x:Int)) (by omega) (by omega)
 rwa [Int.toNat_natCast] at this
def textH (h:GHunk):List UInt8:=(64::(dig10 h.at_.toNat++(32::(dig10 h.old_.length++(32::(dig10 h.new_.length++[10]))))))++lns 45 h.old_++lns 43 h.new_
def textL:List GHunk→List UInt8
 | []=>[]
 | h::l=>textH h++textL l
theorem text68_eq {x:GHunk} (hx:TextOK x) {v15:Nat} (h15:v15<1000) (rec:List UInt8→Int→Option (List UInt8×Int)):∀ (m i:Nat) (acc:List UInt8),i≤x.new_.length→x.new_.length<m+i→acc.length≤100000000+i*2002 →
  qdk (v15:Int) x rec m acc (i:Int)=rec (acc++lns 43 (x.new_.drop i)) ((v15+1:Nat):Int):=by
 have hl:lim=2147483648:=rfl
 have hsl:qas=4611686018427387904:=rfl
 have hxn:=hx.n
 intro m
 induction m with
 | zero=>intro i acc h1 h2;omega
 | succ m ih =>
  intro i acc h1 h2 h4
  rw[qdk.eq_2]
  by_cases hc:i<x.new_.length
  ·
   have hs:=hx.ns _ (List.getElem_mem hc)
   rw[if_pos (by simpa using hc),qaa hc,bsome,nb (by simp;omega),nb (by simp;omega),qj3 (by simp) (by simp;omega),bsome,qm (by omega),bsome,List.drop_eq_getElem_cons hc,lns,←List.append_assoc]
   exact ih (i+1) _ hc (by omega) (by simp;omega)
  ·
   rw[if_neg (by simpa using hc),qm (by omega),bsome,List.drop_of_length_le (by omega),lns,List.append_nil]
theorem text47_eq {x:GHunk} (hx:TextOK x) {v15:Nat} (h15:v15<1000) (M:Nat) (hM:100<M) (rec:List UInt8→Int→Option (List UInt8×Int)):∀ (m i:Nat) (acc:List UInt8),i≤x.old_.length→x.old_.length<m+i→acc.length≤10000000+i*2002 →
  qdl (v15:Int) M x rec m acc (i:Int)=rec (acc++lns 45 (x.old_.drop i)++lns 43 x.new_) ((v15+1:Nat):Int):=by
 have hl:lim=2147483648:=rfl
 have hsl:qas=4611686018427387904:=rfl
 have hxo:=hx.o
 intro m
 induction m with
 | zero=>intro i acc h1 h2;omega
 | succ m ih =>
  intro i acc h1 h2 h4
  rw[qdl.eq_2]
  by_cases hc:i<x.old_.length
  ·
   have hs:=hx.os _ (List.getElem_mem hc)
   rw[if_pos (by simpa using hc),qaa hc,bsome,nb (by simp;omega),nb (by simp;omega),qj3 (by simp) (by simp;omega),bsome,qm (by omega),bsome,List.drop_eq_getElem_cons hc,lns,←List.append_assoc acc]
   exact ih (i+1) _ hc (by omega) (by simp;omega)
  ·
   have hxn:=hx.n
   rw[if_neg (by simpa using hc),List.drop_of_length_le (by omega),lns,List.append_nil]
   exact text68_eq hx h15 rec M 0 acc (by omega) (by omega) (by omega)
theorem textH_len {x:GHunk} (hx:TextOK x):0<(textH x).length∧(textH x).length≤250000:=by
 have h1:=(qq6 hx.a0 hx.a1).2
 have h2:=(qkw (x:=x.old_.length) (by have:=hx.o;omega)).2
 have h3:=(qkw (x:=x.new_.length) (by have:=hx.n;omega)).2
 have h4:=lns_len 45 x.old_ hx.os
 have h5:=lns_len 43 x.new_ hx.ns
 have:=hx.o
 have:=hx.n
 unfold textH
 simp only[List.length_append,List.length_cons,List.length_nil]
 omega
theorem text13_eq (l:List GHunk) (hl40:l.length≤40) (hx:∀ x∈l,TextOK x):∀ (m i:Nat) (acc:List UInt8),i≤l.length→200<m+i→acc.length≤i*250000→l≠[]→(0<i→0<acc.length) →
  qbi l m acc (i:Int)=some (if 20000<(acc++textL (l.drop i)).length then ([],4) else (acc++textL (l.drop i),0)):=by
 have hl:lim=2147483648:=rfl
 have hsl:qas=4611686018427387904:=rfl
 intro m
 induction m with
 | zero=>intro i acc h1 h2;omega
 | succ m ih =>
  intro i acc h1 h2 h4 hne h0
  rw[qbi.eq_2]
  by_cases hc:i<l.length
  ·
   have hX:=hx _ (List.getElem_mem hc)
   obtain ⟨e1,q1⟩:=qq6 hX.a0 hX.a1
   obtain ⟨e2,q2⟩:=qkw (x:=l[i].old_.length) (by have:=hX.o;omega)
   obtain ⟨e3,q3⟩:=qkw (x:=l[i].new_.length) (by have:=hX.n;omega)
   rw[if_pos (by simpa using hc),qaa hc,bsome,e1,bsome,nb (by simp;omega),nb (by simp;omega),e2,bsome,nb (by simp;omega),nb (by simp;omega),e3,bsome,nb (by simp;omega),nb (by simp;omega),qj3 (by simp) (by simp;omega),bsome]
   have hXo:=hX.o
   have hb:=textH_len hX
   refine Eq.trans (text47_eq hX (by omega) m (by omega) _ m 0 _ (by omega) (by omega) (by simp;omega)) ?_
   have e:∀ d:List UInt8,acc++d++lns 45 (l[i].old_.drop 0)++lns 43 l[i].new_=acc++(d++lns 45 l[i].old_++lns 43 l[i].new_):=fun d=>by rw[List.drop_zero];simp only[List.append_assoc]
   rw[e,List.drop_eq_getElem_cons hc,textL,←List.append_assoc acc (textH l[i])]
   exact ih (i+1) (acc++textH l[i]) hc (by omega) (by rw[List.length_append];omega) hne (fun _=>by rw[List.length_append];omega)
  ·
   have hi:i=l.length:=by omega
   have hac:0<acc.length:=h0 (by rw[hi];exact List.length_pos_iff.2 hne)
   rw[if_neg (by simpa using hc),List.drop_of_length_le (by omega),textL,List.append_nil]
   by_cases hb:20000<acc.length
   ·
    rw[if_pos (by simp;omega),if_pos hb]
   ·
    unfold strI
    rw[if_neg (by simp;omega),if_neg hb,if_pos (by intro e;rw[e] at hac;simp at hac),bsome]
theorem written57_eq {l:List GHunk} {k:Nat} (hk:k<l.length) (hk2:k<1000) (hx:TextOK l[k]) (rec:List UInt8→Int→Option (List UInt8)):∀ (m i:Nat) (acc:List UInt8),i≤l[k].new_.length→l[k].new_.length<m+i→acc.length≤100000000+i*2002 →
  qbj l (k:Int) rec m acc (i:Int)=rec (acc++lns 43 (l[k].new_.drop i)) ((k+1:Nat):Int):=by
 have hl:lim=2147483648:=rfl
 have hsl:qas=4611686018427387904:=rfl
 have hxn:=hx.n
 intro m
 induction m with
 | zero=>intro i acc h1 h2;omega
 | succ m ih =>
  intro i acc h1 h2 h4
  rw[qbj.eq_2,qaa hk,bsome]
  by_cases hc:i<l[k].new_.length
  ·
   have hs:=hx.ns _ (List.getElem_mem hc)
   rw[if_pos (by simpa using hc),nb (by omega),qaa hc,bsome,nb (by simp;omega),nb (by simp;omega),qm (by omega),bsome,List.drop_eq_getElem_cons hc,lns,←List.append_assoc]
   exact ih (i+1) _ hc (by omega) (by simp;omega)
  ·
   rw[if_neg (by simpa using hc),qm (by omega),bsome,List.drop_of_length_le (by omega),lns,List.append_nil]
theorem written37_eq {l:List GHunk} {k:Nat} (hk:k<l.length) (hk2:k<1000) (hx:TextOK l[k]) (M:Nat) (hM:100<M) (rec:List UInt8→Int→Option (List UInt8)):∀ (m i:Nat) (acc:List UInt8),i≤l[k].old_.length→l[k].old_.length<m+i→acc.length≤10000000+i*2002 →
  qbk l (k:Int) M rec m acc (i:Int)=rec (acc++lns 45 (l[k].old_.drop i)++lns 43 l[k].new_) ((k+1:Nat):Int):=by
 have hl:lim=2147483648:=rfl
 have hsl:qas=4611686018427387904:=rfl
 have hxo:=hx.o
 intro m
 induction m with
 | zero=>intro i acc h1 h2;omega
 | succ m ih =>
  intro i acc h1 h2 h4
  rw[qbk.eq_2,qaa hk,bsome]
  by_cases hc:i<l[k].old_.length
  ·
   have hs:=hx.os _ (List.getElem_mem hc)
   rw[if_pos (by simpa using hc),nb (by omega),qaa hc,bsome,nb (by simp;omega),nb (by simp;omega),qm (by omega),bsome,List.drop_eq_getElem_cons hc,lns,←List.append_assoc acc]
   exact ih (i+1) _ hc (by omega) (by simp;omega)
  ·
   have hxn:=hx.n
   rw[if_neg (by simpa using hc),List.drop_of_length_le (by omega),lns,List.append_nil]
   exact written57_eq hk hk2 hx rec M 0 acc (by omega) (by omega) (by omega)
theorem written6_eq (l:List GHunk) (hl40:l.length≤40) (hx:∀ x∈l,TextOK x):∀ (m i:Nat) (acc:List UInt8),i≤l.length→200<m+i→acc.length≤i*250000 →
  qar l m acc (i:Int)=some (acc++textL (l.drop i)):=by
 have hl:lim=2147483648:=rfl
 have hsl:qas=4611686018427387904:=rfl
 intro m
 induction m with
 | zero=>intro i acc h1 h2;omega
 | succ m ih =>
  intro i acc h1 h2 h4
  rw[qar.eq_2]
  by_cases hc:i<l.length
  ·
   have hX:=hx _ (List.getElem_mem hc)
   obtain ⟨e1,q1⟩:=qq6 hX.a0 hX.a1
   obtain ⟨e2,q2⟩:=qkw (x:=l[i].old_.length) (by have:=hX.o;omega)
   obtain ⟨e3,q3⟩:=qkw (x:=l[i].new_.length) (by have:=hX.n;omega)
   rw[if_pos (by simpa using hc),nb (by omega),qaa hc,bsome,e1,bsome,nb (by simp;omega),nb (by simp;omega),e2,bsome,nb (by simp;omega),nb (by simp;omega),e3,bsome,nb (by simp;omega),nb (by simp;omega)]
   have hXo:=hX.o
   have hb:=textH_len hX
   refine Eq.trans (written37_eq hc (by omega) hX m (by omega) _ m 0 _ (by omega) (by omega) (by simp;omega)) ?_
   have e:∀ d:List UInt8,acc++d++lns 45 (l[i].old_.drop 0)++lns 43 l[i].new_=acc++(d++lns 45 l[i].old_++lns 43 l[i].new_):=fun d=>by rw[List.drop_zero];simp only[List.append_assoc]
   rw[e,List.drop_eq_getElem_cons hc,textL,←List.append_assoc acc (textH l[i])]
   exact ih (i+1) (acc++textH l[i]) hc (by omega) (by rw[List.length_append];omega)
  ·
   rw[if_neg (by simpa using hc),List.drop_of_length_le (by omega),textL,List.append_nil]
theorem text_same {n:Nat} (hn:3000<n) {l:List GHunk} (hne:l≠[]) (h:hckE l=0):∃ r:List UInt8×Int,qhf n l=some r∧qfv n l=some r∧(r.2=0→0<r.1.length∧r.1.length≤20000):=by
 obtain ⟨h1,h2⟩:=qle h
 have hx:=okHs_text l 0 h2
 have hf:∀ x∈l,Fits n x:=fun x hX=>by
  have:=(hx x hX).o
  have:=(hx x hX).n
  exact ⟨by omega,by omega,by omega,by omega⟩
 obtain ⟨r,g1,g2⟩:=qnv (n:=n) (by omega) hne h
 refine ⟨r,g1,?_,g2⟩
 have w:=written6_eq l h1 hx n 0 [] (by omega) (by omega) (by simp)
 have t:=text13_eq l h1 hx n 0 [] (by omega) (by omega) (by simp) hne (by omega)
 rw[List.drop_zero,List.nil_append] at w t
 unfold qhf at g1
 rw[qlb (by omega),bsome,h,if_neg (by simp)] at g1
 rw[show (((0:Nat):Nat):Int)=(0:Int) from rfl] at w t
 rw[t] at g1
 rw[←g1]
 unfold qfv qfz
 rw[qj1 hn l hf,bsome,h,if_neg (by simp),w,bsome]
 by_cases hb:20000<(textL l).length
 ·
  rw[if_pos (by simp;omega),if_pos hb]
 ·
  rw[if_neg (by simp;omega),if_neg hb]
theorem digit_eq {n:Nat} (b:Bool):qff n b=qgg n b:=rfl
theorem class_same {n:Nat} (hn:40000<n) (l:List GPatch) (hl24:l.length≤24) (hx:∀ p∈l,ClassOK p):∀ (m i:Nat) (acc:List UInt8),i≤l.length→l.length<m+i→acc.length≤i*20200→∃ r,qb4 n l m acc (i:Int)=some r∧qb6 n l m acc (i:Int)=some r:=by
 have hl:lim=2147483648:=rfl
 have hsl:qas=4611686018427387904:=rfl
 intro m
 induction m with
 | zero=>intro i acc h1 h2;omega
 | succ m ih =>
  intro i acc h1 h2 h4
  rw[qb4.eq_2,qb6.eq_2]
  by_cases hc:i<l.length
  ·
   have hX:=hx _ (List.getElem_mem hc)
   obtain ⟨t,et,et2,qt⟩:=text_same (n:=n) (by omega) hX.hne hX.hk
   have hd:decide ((i:Int)<(l.length:Int))=true:=by simpa using hc
   rw[if_pos hd,if_pos hd,qaa hc,bsome,bsome,et,bsome,et2,bsome]
   by_cases hz:t.2=0
   ·
    obtain ⟨ht0,ht⟩:=qt hz
    have hp:=hX.path
    obtain ⟨d1,e1,q1⟩:=qho (n:=n) l[i].was_
    obtain ⟨d2,e2,q2⟩:=qho (n:=n) l[i].stays_
    obtain ⟨d3,e3,q3⟩:=qnu (x:=(l[i].hunks_.length:Int)) (by omega) (by have:=(qle hX.hk).1;omega)
    obtain ⟨r,k1,k2⟩:=ih (i+1) ((acc++(l[i].path_++(32::(d1++(32::(d2++(32::(d3++[10]))))))))++t.1) hc (by omega) (by simp;omega)
    have hz':¬(t.2 != 0)=true:=by simpa using hz
    refine ⟨r,?_,?_⟩
    ·
     rw[if_neg hz',nb (by omega),e1,bsome,nb (by simp;omega),nb (by simp;omega),e2,bsome,nb (by simp;omega),nb (by simp;omega),e3,bsome,nb (by simp;omega),nb (by simp;omega),qj3 (by simp) (by simp;omega),bsome,
      qj3 (by intro e;rw[e] at ht0;simp at ht0) (by simp;omega),bsome,qm (by omega),bsome]
     exact k1
    ·
     rw[if_neg hz',nb (by omega),digit_eq,e1,bsome,nb (by simp;omega),nb (by simp;omega),digit_eq,e2,bsome,nb (by simp;omega),nb (by simp;omega),e3,bsome,nb (by simp;omega),nb (by simp;omega),nb (by simp;omega),nb (by simp;omega),qm (by omega),bsome]
     exact k2
   ·
    have hz':(t.2 != 0)=true:=by simpa using hz
    rw[if_pos hz',if_pos hz']
    exact ⟨_,rfl,rfl⟩
  ·
   have hd:¬decide ((i:Int)<(l.length:Int))=true:=by simpa using hc
   rw[if_neg hd,if_neg hd]
   obtain ⟨r,a,b⟩:=sum_eq hn acc
   rw[a,bsome,b,bsome]
   exact ⟨_,rfl,rfl⟩
theorem qpv {n:Nat} {l:List GHunk} (hl:MidH l) (hn:300<n):qg2 n l=some l:=by
 have hlm:lim=2147483648:=rfl
 have key:∀ (m i:Nat),i≤l.length→l.length<m+i→qcr l m (l.take i) (i:Int)=some l:=by
  intro m
  induction m with
  | zero=>intro i h1 h2;omega
  | succ m ih =>
   intro i h1 h2
   have h60:=hl.1
   rw[qcr.eq_2]
   by_cases hc:i<l.length
   ·
    obtain ⟨q1,q2⟩:=hl.2 _ (List.getElem_mem hc)
    have o1:=q1.1
    have o2:=q2.1
    rw[if_pos (by simpa using hc),qaa hc,bsome,nb (by omega),nb (by omega),nb (by simp;omega),qm (by omega),bsome]
    have:=ih (i+1) hc (by omega)
    rw[List.take_succ_eq_append_getElem hc] at this
    exact this
   ·
    rw[if_neg (by simpa using hc),List.take_of_length_le (by omega)]
 have h60:=hl.1
 exact key n 0 (by omega) (by omega)
theorem qpw {n:Nat} {l:List GPatch} (hl:MidP l) (hn:300<n):qg3 n l=some l:=by
 have hlm:lim=2147483648:=rfl
 have h40:=hl.1
 have key:∀ (m i:Nat),i≤l.length→l.length<m+i→qcs n l m (l.take i) (i:Int)=some l:=by
  intro m
  induction m with
  | zero=>intro i h1 h2;omega
  | succ m ih =>
   intro i h1 h2
   rw[qcs.eq_2]
   by_cases hc:i<l.length
   ·
    rw[if_pos (by simpa using hc),qaa hc,bsome,qpv (hl.2 _ (List.getElem_mem hc)).2 hn,bsome,nb (by simp;omega),qm (by omega),bsome]
    have:=ih (i+1) hc (by omega)
    rw[List.take_succ_eq_append_getElem hc] at this
    exact this
   ·
    rw[if_neg (by simpa using hc),List.take_of_length_le (by omega)]
 exact key n 0 (by omega) (by omega)
theorem MidP.hfit {n:Nat} (hn:3000<n) {l:List GPatch} (h:MidP l):∀ p∈l,HFit n p.hunks_:=by
 intro p hp
 obtain ⟨_,q⟩:=h.2 p hp
 have:=q.1
 exact ⟨by omega,by omega,fun g hg=>by
  obtain ⟨q1,q2⟩:=q.2 g hg
  have:=q1.1
  have:=q2.1
  exact ⟨by omega,by omega,by omega,by omega⟩⟩
theorem qrg {n:Nat} (hn:50000<n) (a b:List GPatch):qe8 n a b=some true:=by
 unfold qe8
 obtain ⟨la,e1,e2⟩:=long17 (n:=n) (by omega) a
 rw[e1,bsome]
 cases la with
 | true=>rw[if_pos rfl]
 | false =>
 obtain ⟨lb,f1,f2⟩:=long17 (n:=n) (by omega) b
 rw[if_neg (by simp),f1,bsome]
 cases lb with
 | true=>rw[if_pos rfl]
 | false =>
 have ha:=e2 rfl
 have hb:=f2 rfl
 have ca:=qj2 (n:=n) (by omega) a (ha.fits (by omega))
 have cb:=qj2 (n:=n) (by omega) b (hb.fits (by omega))
 have ka:=qf1 (n:=n) (by omega) a
 have kb:=qf1 (n:=n) (by omega) b
 have h40:=ha.1
 have heq:=qfl (n:=n) (p:=a) (q:=a) (by omega) (by omega) (ha.hfit (by omega))
 rw[if_neg (by simp),qpw ha (by omega),bsome]
 obtain ⟨x,hx1,hx2,hx3⟩:∃ x:List GPatch×Int,qhe n a=some x∧qev n a=some x∧qdb n x.1 x.1=some true:=by
  by_cases hz:nckE a=0
  ·
   refine ⟨(normG a,0),qlu (by omega) hz,?_,?_⟩
   ·
    unfold qev
    rw[ca,bsome,if_neg (by simpa using hz),qf2 (by omega) hz,bsome]
   ·
    obtain ⟨v1,v2,v3⟩:=qf7 (qpb hz)
    rw[qfl (by omega) (by omega) (fun x hx=>hfit_of (by omega) (qkj (v3 x hx)))]
    simp
  ·
   refine ⟨([],nckE a),?_,?_,?_⟩
   ·
    unfold qhe
    rw[ka,bsome,if_pos (by simpa using hz)]
   ·
    unfold qev
    rw[ca,bsome,if_pos (by simpa using hz),bsome]
   ·
    rw[qfl (by simp) (by simp;omega) (fun x hx=>by simp at hx)]
    simp
 obtain ⟨c,hc1,hc2⟩:∃ c:(Nat→Int)×Int,qgh n a=some c∧qek n a=some c:=by
  by_cases hz:nckE a=0
  ·
   obtain ⟨c1,c2⟩:=normG_class hz
   obtain ⟨r,k1,k2⟩:=class_same (n:=n) (by omega) (normG a) c1 c2 n 0 [] (by omega) (by omega) (by simp)
   refine ⟨r,?_,?_⟩
   ·
    rw[f_norm_Class_eq (by omega) hz]
    exact k1
   ·
    unfold qek
    rw[ca,bsome,if_neg (by simpa using hz),qf2 (by omega) hz,bsome]
    exact k2
  ·
   refine ⟨(zeroA,nckE a),?_,?_⟩
   ·
    unfold qgh
    rw[ka,bsome,if_pos (by simpa using hz)]
   ·
    unfold qek
    rw[ca,bsome,if_pos (by simpa using hz),bsome]
 obtain ⟨s,hs1,hs2⟩:∃ s:Bool×Int,qgb n a b=some s∧qd6 n a b=some s:=by
  by_cases hz:nckE a=0
  ·
   by_cases hy:nckE b=0
   ·
    refine ⟨_,qlv (by omega) hz hy,?_⟩
    obtain ⟨v1,v2,v3⟩:=qf7 (qpb hz)
    unfold qd6
    rw[ca,bsome,if_neg (by simpa using hz),cb,bsome,if_neg (by simpa using hy),qf2 (by omega) hz,bsome,qf2 (by omega) hy,bsome,
     qfl (by omega) (by omega) (fun x hx=>hfit_of (by omega) (qkj (v3 x hx))),bsome]
   ·
    refine ⟨(false,nckE b),?_,?_⟩
    ·
     unfold qgb
     rw[ka,bsome,if_neg (by simpa using hz),kb,bsome,if_pos (by simpa using hy)]
    ·
     unfold qd6
     rw[ca,bsome,if_neg (by simpa using hz),cb,bsome,if_pos (by simpa using hy),bsome]
  ·
   refine ⟨(false,nckE a),?_,?_⟩
   ·
    unfold qgb
    rw[ka,bsome,if_pos (by simpa using hz)]
   ·
    unfold qd6
    rw[ca,bsome,if_pos (by simpa using hz),bsome]
 rw[hx1,bsome,hx2,bsome,hc1,bsome,hc2,bsome,hs1,bsome,hs2,bsome,ka,bsome,ca,bsome,if_pos (by simp),hx3,bsome,if_pos,heq,bsome]
 ·
  simp
 ·
  have:eqA 32 c.1 c.1=true:=by simp[eqA]
  rw[this]
  simp
#print axioms qrg
end Go.Zv.G
