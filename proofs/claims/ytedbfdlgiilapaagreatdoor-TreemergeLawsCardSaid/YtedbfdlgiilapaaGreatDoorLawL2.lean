/- Plain laws: what the plain functions say. No condition. -/
import Derived.Test.YtedbfdlgiilapaaGreatDoorLawL1
set_option linter.unusedSimpArgs false
set_option linter.unusedVariables false
namespace Go.Zv.G
open Go Go.Zv Go.Proofs
set_option maxRecDepth 100000
attribute [local simp high] bsome
theorem common_self {α:Type} [DecidableEq α]:∀ l:List α,common l l=l.length
 | []=>by simp[common]
 | x::l=>by simp[common,common_self l]
theorem snoc_one {α:Type} {y x:α} {ps:List α} (e:[y]=ps++[x]):ps=[]:=by
 cases ps with
 | nil=>rfl
 | cons a l=>simp at e
theorem snoc_nil {α:Type} {y x:α} {ps:List α} (e:y::ps=[]++[x]):ps=[]:=by
 simp at e
 exact e.2
structure With (a b:List S) (w:List Int):Prop where
 len:w.length=a.length
 val:∀ i (h:i<a.length),w[i]?=some (-1)∨∃ k,∃ (hk:k<b.length),w[i]?=some (k:Int)∧a[i]=b[k]
 mono:∀ (i j k l:Nat),i<j→w[i]?=some (k:Int)→w[j]?=some (l:Int)→k<l
def pairW (w:List Int):List (Nat×Nat)→List Int
 | []=>w
 | p::ps=>pairW (w.set p.1 (p.2:Int)) ps
theorem pairW_len:∀ (ps:List (Nat×Nat)) (w:List Int),(pairW w ps).length=w.length
 | [],w=>rfl
 | p::ps,w=>by rw[pairW,pairW_len ps];simp
theorem pairs_L16 {ms:List GMatch} {e:Int} {a:List S} {b:List S}:∀ (qs:List (Nat×Nat)) (pre:List (Nat×Nat)) (w:List Int) (fuel:Nat),ms=(pre++qs).map asMatch→(∀ p∈qs,p.1<w.length)→qs.length<fuel→ms.length<1000000 →
  f_merge_pairs_L16 (ms,e) fuel w (pre.length:Int)=some (pairW w qs,0)
 | [],pre,w,fuel,hm,hq,hf,hl=>by
  obtain ⟨fuel,rfl⟩:∃ k,fuel=k+1:=⟨fuel-1,by simp at hf;omega⟩
  rw[f_merge_pairs_L16.eq_2,if_neg (by rw[hm];simp)]
  rfl
 | q::qs,pre,w,fuel,hm,hq,hf,hl=>by
  obtain ⟨fuel,rfl⟩:∃ k,fuel=k+1:=⟨fuel-1,by simp at hf;omega⟩
  have hlen:pre.length<ms.length:=by rw[hm];simp
  have hget:ms[pre.length]=asMatch q:=by simp[hm]
  have hq1:=hq q (by simp)
  have ih:=pairs_L16 (ms:=ms) (e:=e) (a:=a) (b:=b) qs (pre++[q]) (w.set q.1 (q.2:Int)) fuel (by rw[hm];simp) (fun p hp=>by simpa using hq p (by simp[hp])) (by simp at hf;omega) hl
  rw[f_merge_pairs_L16.eq_2,if_pos (by simpa using hlen),ix_nat hlen,bsome,hget]
  show ((ix w ((q.1:Nat):Int)).bind fun _=>_)=_
  rw[ix_nat hq1,bsome,rng_succ (by omega),bsome]
  have e1:((pre++[q]).length:Int)=((pre.length+1:Nat):Int):=by simp
  rw[e1] at ih
  exact ih
theorem pairW_get:∀ (ps:List (Nat×Nat)) (w:List Int) (i:Nat),(∀ p∈ps,i<p.1)→(pairW w ps)[i]?=w[i]?
 | [],w,i,h=>rfl
 | p::ps,w,i,h=>by
  rw[pairW,pairW_get ps _ i fun q hq=>h q (by simp[hq]),List.getElem?_set_ne]
  have:=h p (by simp)
  omega
theorem pairs_lt {a b:List S} {i k:Nat} {qs:List (Nat×Nat)} (h:Pairs a b i k qs):∀ ps x,qs=ps++[x]→∀ p∈ps,i≤p.1∧k≤p.2∧p.1<a.length∧p.2<b.length:=by
 induction h with
 | last i k h1 h2 =>
  intro ps x e p hp
  have:ps=[]:=snoc_one e
  subst this
  cases hp
 | @pair i k x y ps' hx hy h1 h2 h3 h4 ih =>
  intro ps z e p hp
  cases ps with
  | nil =>
   have h5:ps'=[]:=snoc_nil e
   subst h5
   cases h4
  | cons q ps =>
   simp only[List.cons_append,List.cons.injEq] at e
   obtain ⟨e1,e2⟩:=e
   rcases List.mem_cons.1 hp with rfl | hp
   ·
    rw[←e1];exact ⟨h1,h2,hx,hy⟩
   ·
    have:=ih ps z e2 p hp
    omega
theorem pairs_with {a b:List S} {i k:Nat} {qs:List (Nat×Nat)} (h:Pairs a b i k qs):∀ ps x,qs=ps++[x]→∀ w:List Int,w.length=a.length→(∀ j,i≤j→j<a.length→w[j]?=some (-1)) →
  (∀ j (hj:j<a.length),i≤j→(pairW w ps)[j]?=some (-1)∨∃ l,∃ (hl:l<b.length),k≤l∧(pairW w ps)[j]?=some (l:Int)∧a[j]=b[l]) ∧
  (∀ j1 j2 (l1 l2:Nat),i≤j1→j1<j2→(pairW w ps)[j1]?=some (l1:Int)→(pairW w ps)[j2]?=some (l2:Int)→l1<l2):=by
 induction h with
 | last i k h1 h2 =>
  intro ps x e w hw hn
  have:ps=[]:=snoc_one e
  subst this
  refine ⟨fun j hj hij=>.inl (hn j hij hj),fun j1 j2 l1 l2 hi hlt e1 e2=>?_⟩
  have hj2:j1<a.length:=by
   have:=(List.getElem?_eq_some_iff.1 e1).1
   rw[pairW_len,hw] at this
   exact this
  have:=hn j1 hi hj2
  rw[show pairW w []=w from rfl,this] at e1
  simp at e1
 | @pair i k x y ps' hx hy h1 h2 h3 h4 ih =>
  intro ps z e w hw hn
  cases ps with
  | nil =>
   have h5:ps'=[]:=snoc_nil e
   subst h5
   cases h4
  | cons q ps =>
   simp only[List.cons_append,List.cons.injEq] at e
   obtain ⟨e1,e2⟩:=e
   subst e1
   have hps:=pairs_lt h4 ps z e2
   obtain ⟨i1,i2⟩:=ih ps z e2 (w.set x (y:Int)) (by simp[hw]) (fun j hj hja=>by rw[List.getElem?_set_ne (by omega)];exact hn j (by omega) hja)
   have hat:(pairW (w.set x (y:Int)) ps)[x]?=some (y:Int):=by
    rw[pairW_get ps _ x fun p hp=>by have:=hps p hp;omega]
    rw[List.getElem?_set_self (by rw[hw];exact hx)]
   have hbefore:∀ j,i≤j→j<x→(pairW (w.set x (y:Int)) ps)[j]?=some (-1):=fun j hj hjx=>by
    rw[pairW_get ps _ j fun p hp=>by have:=hps p hp;omega]
    rw[List.getElem?_set_ne (by omega)]
    exact hn j hj (by omega)
   show (∀ j (hj:j<a.length),i≤j→(pairW (w.set x (y:Int)) ps)[j]?=some (-1)∨∃ l,∃ (hl:l<b.length),k≤l∧(pairW (w.set x (y:Int)) ps)[j]?=some (l:Int)∧a[j]=b[l])∧_
   refine ⟨fun j hj hij=>?_,fun j1 j2 l1 l2 hi hlt e1 e2=>?_⟩
   ·
    rcases Nat.lt_trichotomy j x with h | h | h
    ·
     exact .inl (hbefore j hij h)
    ·
     subst h
     exact .inr ⟨y,hy,h2,hat,h3⟩
    ·
     rcases i1 j hj (by omega) with h5 | ⟨l,hl,h5,h6,h7⟩
     ·
      exact .inl h5
     ·
      exact .inr ⟨l,hl,by omega,h6,h7⟩
   ·
    rw[show pairW w ((x,y)::ps)=pairW (w.set x (y:Int)) ps from rfl] at e1 e2
    rcases Nat.lt_trichotomy j1 x with h | h | h
    ·
     rw[hbefore j1 hi h] at e1
     simp at e1
    ·
     subst h
     rw[hat] at e1
     have hl1:(y:Int)=(l1:Int):=by simpa using e1
     have hj2:j2<a.length:=by
      have:=(List.getElem?_eq_some_iff.1 e2).1
      rw[pairW_len] at this
      simpa[hw] using this
     rcases i1 j2 hj2 (by omega) with h5 | ⟨l,hl,h5,h6,h7⟩
     ·
      rw[h5] at e2
      simp at e2
     ·
      rw[h6] at e2
      have:(l:Int)=(l2:Int):=by simpa using e2
      omega
    ·
     exact i2 j1 j2 l1 l2 (by omega) hlt e1 e2
theorem best17n {a b:List S} (ha:a.length<1000000) (hb:b.length<1000000) (hl:2000000≤lim) {t:List (Option (List Int))} (ht:Filled a b t (fun _ _=>True)) {n:Nat} (hn:a.length+b.length+2<n):∀ (m i k fuel:Nat) (ms:List GMatch),a.length-i=m→i≤a.length→k≤b.length→m<fuel→ms.length+m≤1000000 →
  ∃ ps:List (Nat×Nat),Pairs a b i k (ps++[(a.length,b.length)])∧ps.length≤m∧ps.length=common (a.drop i) (b.drop k)∧f_lcs_Best_L17 n a b t fuel ms (i:Int) (k:Int)=some (ms++ps.map asMatch,0):=by
 intro m
 induction m using Nat.strongRecOn with
 | ind m ih =>
  intro i k fuel ms hm hi hk hf hms
  obtain ⟨fuel,rfl⟩:∃ k,fuel=k+1:=⟨fuel-1,by omega⟩
  obtain ⟨row,r1,r2⟩:=ht.at hi hk
  rw[f_lcs_Best_L17.eq_2]
  rw[need_ok (by rw[ht.1];omega),bsome,ixO_nat r1,bsome,ix_get r2,bsome]
  by_cases hc:0<common (a.drop i) (b.drop k)
  ·
   obtain ⟨x,y,g1,g2,g3,g4⟩:=next_law ha hb ht hn hi hk hc
   have hx:=g3.hx
   have hy:=g3.hy
   rw[if_pos (by simp;omega),g4,bsome,need_ok (by omega),bsome,rng_succ (by omega),bsome,rng_succ (by omega),bsome]
   obtain ⟨ps,p1,p2,p4,p3⟩:=ih (a.length-(x+1)) (by omega) (x+1) (y+1) fuel (ms++[(⟨(x:Int),(y:Int)⟩:GMatch)]) rfl (by omega) (by omega) (by omega) (by simp;omega)
   refine ⟨(x,y)::ps,.pair hx hy g1 g2 g3.eq p1,by simp;omega,by have:=g3.rest;simp only[List.length_cons];omega,?_⟩
   refine Eq.trans p3 ?_
   simp[asMatch]
  ·
   rw[if_neg (by simp;omega)]
   exact ⟨[],.last i k hi hk,by simp,by simp;omega,by simp⟩
theorem best_lawn {a b:List S} (ha:a.length<1000000) (hb:b.length<1000000) (hl:2000000≤lim) {n:Nat} (hn:a.length+b.length+2<n) (hck:f_lcs_check n a b=some 0) :
  ∃ ps:List (Nat×Nat),Pairs a b 0 0 (ps++[(a.length,b.length)])∧ps.length≤a.length∧ps.length=common a b∧f_lcs_Best n a b=some (ps.map asMatch,0):=by
 obtain ⟨t,h1,h2⟩:=table_law ha hb (by omega) n hn
 obtain ⟨ps,p1,p2,p4,p3⟩:=best17n ha hb hl h1 hn a.length 0 0 n [] rfl (by omega) (by omega) (by omega) (by simp;omega)
 refine ⟨ps,p1,p2,by simpa using p4,?_⟩
 unfold f_lcs_Best
 rw[hck,bsome,if_neg (by simp),h2,bsome]
 simpa using p3
theorem pairs_count {a b:List S} {i k:Nat} {qs:List (Nat×Nat)} (h:Pairs a b i k qs):∀ ps x,qs=ps++[x]→ps.length≤a.length-i∧ps.length≤b.length-k:=by
 induction h with
 | last i k h1 h2 =>
  intro ps x e
  have:ps=[]:=snoc_one e
  subst this
  simp
 | @pair i k x y ps' hx hy h1 h2 h3 h4 ih =>
  intro ps z e
  cases ps with
  | nil=>simp
  | cons q ps =>
   simp only[List.cons_append,List.cons.injEq] at e
   have:=ih ps z e.2
   simp only[List.length_cons]
   omega
theorem pairs_full {a:List S} {i k:Nat} {qs:List (Nat×Nat)} (h:Pairs a a i k qs):∀ ps x,qs=ps++[x]→i=k→ps.length=a.length-i→∀ w:List Int,w.length=a.length→∀ j,i≤j→j<a.length→(pairW w ps)[j]?=some (j:Int):=by
 induction h with
 | last i k h1 h2 =>
  intro ps x e hik hl w hw j hj hja
  have:ps=[]:=snoc_one e
  subst this
  simp at hl
  omega
 | @pair i k x y ps' hx hy h1 h2 h3 h4 ih =>
  intro ps z e hik hl w hw j hj hja
  cases ps with
  | nil =>
   have h5:ps'=[]:=snoc_nil e
   subst h5
   cases h4
  | cons q ps =>
   simp only[List.cons_append,List.cons.injEq] at e
   obtain ⟨e1,e2⟩:=e
   subst e1
   have hps:=pairs_lt h4 ps z e2
   have hc1:ps.length≤a.length-(x+1)∧ps.length≤a.length-(y+1):=pairs_count h4 ps z e2
   simp only[List.length_cons] at hl
   have hxi:x=i:=by omega
   have hyk:y=k:=by omega
   subst hxi;subst hyk
   rcases Nat.lt_or_eq_of_le hj with hlt | heq
   ·
    exact ih ps z e2 (by omega) (by omega) (w.set x (y:Int)) (by simp[hw]) j (by omega) hja
   ·
    subst heq
    show (pairW (w.set x (y:Int)) ps)[x]?=_
    rw[pairW_get ps _ x fun p hp=>by have:=hps p hp;omega]
    rw[List.getElem?_set_self (by rw[hw];exact hx),hik]
theorem merge_pairs_law {n:Nat} {a b:List S} (ha:a.length<100000) (hb:b.length<100000) (hl:2000000≤lim) (hn:a.length+b.length+2<n) (hck:f_lcs_check n a b=some 0) :
  ∃ w,With a b w∧(a=b→∀ i,i<a.length→w[i]?=some (i:Int))∧f_merge_pairs n a b=some (w,0):=by
 obtain ⟨ps,p1,p2,p4,p3⟩:=best_lawn (by omega) (by omega) hl hn hck
 have hlt:=pairs_lt p1 ps _ rfl
 have hw0:(List.replicate a.length (-1:Int)).length=a.length:=by simp
 obtain ⟨w1,w2⟩:=pairs_with p1 ps _ rfl (List.replicate a.length (-1)) hw0 (fun j _ hj=>by rw[List.getElem?_replicate,if_pos hj])
 refine ⟨pairW (List.replicate a.length (-1)) ps,⟨by rw[pairW_len,hw0],fun i h=>?_,fun i j k l hij e1 e2=>w2 i j k l (Nat.zero_le _) hij e1 e2⟩,fun hab i hi=>?_,?_⟩
 ·
  rcases w1 i h (Nat.zero_le _) with h5 | ⟨l,hl,_,h6,h7⟩
  ·
   exact .inl h5
  ·
   exact .inr ⟨l,hl,h6,h7⟩
 ·
  subst hab
  exact pairs_full p1 ps _ rfl rfl (by rw[p4,common_self];simp) _ hw0 i (Nat.zero_le _) hi
 ·
  unfold f_merge_pairs
  rw[p3,bsome,if_neg (by simp)]
  have hr:repI ([-1]:List Int) (a.length:Int)=some (List.replicate a.length (-1)):=by
   unfold repI
   rw[if_pos ⟨rfl,by omega,by omega⟩]
   simp
  rw[hr,bsome]
  exact pairs_L16 (a:=a) (b:=b) ps [] _ n (by simp) (fun p hp=>by rw[hw0];exact (hlt p hp).2.2.1) (by omega) (by simp;omega)
end Go.Zv.G
namespace Go.Zv.G
open Go Go.Zv Go.Proofs
set_option maxRecDepth 100000
attribute [local simp high] bsome
structure Pc where
 b:List S
 o:List S
 t:List S
def kindN (b o t:List S):Int:=if o=t then (if b=t then 1 else 4) else if b=t then 2 else if b=o then 3 else 5
def asPiece (p:Pc):GPiece:=⟨kindN p.b p.o p.t,p.b,p.o,p.t⟩
theorem kind_law {n:Nat} {b o t:List S} (hb:b.length<1000) (ho:o.length<1000) (hn:1000<n):f__siding_merge_three_kind n b o t=some (kindN b o t):=by
 unfold f__siding_merge_three_kind
 rw[f_slices_Equal_string_eq (by omega) (by omega),bsome,f_slices_Equal_string_eq (by omega) (by omega),bsome,f_slices_Equal_string_eq (by omega) (by omega),bsome]
 unfold kindN
 by_cases h1:o=t
 ·
  subst h1
  by_cases h2:b=o <;> simp[h2]
 ·
  by_cases h2:b=t
  ·
   subst h2
   have h3:¬b=o:=fun e=>h1 e.symm
   simp[h1,h3]
  ·
   by_cases h3:b=o <;> simp[h1,h2,h3]
theorem piece_law {n:Nat} {b o t:List S} (hb:b.length<1000) (ho:o.length<1000) (ht:t.length<1000) (hn:1000<n) (hl:2000000≤lim):f__siding_merge_three_piece n b o t=some (kindN b o t,b,o,t):=by
 unfold f__siding_merge_three_piece
 rw[kind_law hb ho hn,bsome,lmt_ok (by omega),bsome,lmt_ok (by omega),bsome,lmt_ok (by omega),bsome]
abbrev Tri:=Nat×Nat×Nat
def seg (l:List S) (i j:Nat):List S:=(l.take j).drop i
theorem seg_len {l:List S} {i j:Nat} (h:j≤l.length):(seg l i j).length=j-i:=by simp[seg];omega
def cutP (B O T:List S) (a t:Tri):List Pc:=if t=a then [] else [⟨seg B a.1 t.1,seg O a.2.1 t.2.1,seg T a.2.2 t.2.2⟩]
def At (f:Nat→Int) (a:Tri):Prop:=f 0=(a.1:Int)∧f 1=(a.2.1:Int)∧f 2=(a.2.2:Int)
theorem at_upd (i k l:Nat):At (updA (updA (updA zeroA 0 (i:Int)) 1 (k:Int)) 2 (l:Int)) (i,k,l):=⟨rfl,rfl,rfl⟩
theorem eqA3 (f g:Nat→Int):eqA 3 f g=(f 0==g 0&&(f 1==g 1&&f 2==g 2)):=by
 show (([0,1,2]:List Nat).all fun i=>f i==g i)=_
 simp[List.all]
theorem cut_law {n:Nat} {B O T:List S} {acc:List GPiece} {to at':Nat→Int} {a t:Tri} (ha:At at' a) (ht:At to t) (h1:a.1≤t.1) (h2:a.2.1≤t.2.1) (h3:a.2.2≤t.2.2) (l1:t.1≤B.length) (l2:t.2.1≤O.length) (l3:t.2.2≤T.length)
  (hB:B.length<1000) (hO:O.length<1000) (hT:T.length<1000) (hn:1000<n) (hl:2000000≤lim) (hacc:acc.length<1000000):f_merge_Merge_1 n to at' acc B O T=some (to,acc++(cutP B O T a t).map asPiece,B,O,T):=by
 obtain ⟨a1,a2,a3⟩:=a
 obtain ⟨t1,t2,t3⟩:=t
 obtain ⟨e1,e2,e3⟩:=ha
 obtain ⟨d1,d2,d3⟩:=ht
 simp only at e1 e2 e3 d1 d2 d3 h1 h2 h3 l1 l2 l3
 unfold f_merge_Merge_1
 have hq:eqA 3 to at'=decide ((t1,t2,t3)=(a1,a2,a3)):=by
  rw[eqA3,e1,e2,e3,d1,d2,d3,Bool.eq_iff_iff]
  simp
  omega
 rw[hq]
 by_cases h:(t1,t2,t3)=(a1,a2,a3)
 ·
  rw[if_neg (by simp[h])]
  simp[cutP,h]
 ·
  rw[if_pos (by simp[h]),e1,e2,e3,d1,d2,d3,cutI_nat h1 l1,bsome,cutI_nat h2 l2,bsome,cutI_nat h3 l3,bsome]
  have g1:((B.take t1).drop a1).length<1000:=by simp;omega
  have g2:((O.take t2).drop a2).length<1000:=by simp;omega
  have g3:((T.take t3).drop a3).length<1000:=by simp;omega
  rw[piece_law g1 g2 g3 hn hl,bsome,need_ok (by omega),bsome]
  simp[cutP,h,asPiece,seg]
theorem inner_law {n:Nat} {w x:List Int} {ew ex:Int} {B O T:List S} (wlen:w.length=B.length) (xlen:x.length=B.length) (hB:B.length<1000) {i k l:Nat} (hw:w[i]?=some (k:Int)) (hx:x[i]?=some (l:Int)) (hk:k<1000) (hl:l<1000) {to:Nat→Int} {acc:List GPiece}
  (rec:List S→List S→List S→List GPiece→(Nat→Int)→Int→Option (List GPiece×Int)):∀ (d m fuel:Nat),B.length-(i+m)=d→i+m≤B.length→d<fuel →
  ∃ m',m≤m'∧i+m'≤B.length∧(∀ j,m≤j→j<m'→w[i+j]?=some ((k+j:Nat):Int)∧x[i+j]?=some ((l+j:Nat):Int))∧¬(i+m'<B.length∧w[i+m']?=some ((k+m':Nat):Int)∧x[i+m']?=some ((l+m':Nat):Int)) ∧
   f_merge_Merge_L94 n (w,ew) (x,ex) (i:Int) (to,acc,B,O,T) rec fuel (m:Int)=(f_merge_Merge_1 n (updA (updA (updA zeroA 0 ((i+m':Nat):Int)) 1 ((k+m':Nat):Int)) 2 ((l+m':Nat):Int)) to acc B O T).bind fun r=>rec r.2.2.1 r.2.2.2.1 r.2.2.2.2 r.2.1 r.1 ((i+m':Nat):Int):=by
 intro d
 induction d with
 | zero =>
  intro m fuel hd hm hf
  obtain ⟨fuel,rfl⟩:∃ k,fuel=k+1:=⟨fuel-1,by omega⟩
  refine ⟨m,Nat.le_refl _,hm,fun j h1 h2=>by omega,fun h=>by omega,?_⟩
  have e1:(i:Int)+(m:Int)=((i+m:Nat):Int):=by omega
  have e2:(k:Int)+(m:Int)=((k+m:Nat):Int):=by omega
  have e3:(l:Int)+(m:Int)=((l+m:Nat):Int):=by omega
  rw[f_merge_Merge_L94.eq_2,e1,rng_nat (by omega),bsome]
  simp only
  rw[if_neg (by simp;omega),bsome,ix_get hw,bsome,e2,rng_nat (by omega),bsome,ix_get hx,bsome,e3,rng_nat (by omega),bsome]
  refine congrArg _ (funext fun r=>?_)
  rw[rng_ok (by omega) (by omega),bsome,rng_ok (by omega) (by omega),bsome,rng_ok (by omega) (by omega),bsome]
  rw[show (i:Int)+((m:Int)-1)+1=((i+m:Nat):Int) by omega]
 | succ d ih =>
  intro m fuel hd hm hf
  obtain ⟨fuel,rfl⟩:∃ k,fuel=k+1:=⟨fuel-1,by omega⟩
  have e1:(i:Int)+(m:Int)=((i+m:Nat):Int):=by omega
  have e2:(k:Int)+(m:Int)=((k+m:Nat):Int):=by omega
  have e3:(l:Int)+(m:Int)=((l+m:Nat):Int):=by omega
  have hwi:i+m<w.length:=by omega
  have hxi:i+m<x.length:=by omega
  have hgw:w[i+m]?=some w[i+m]:=List.getElem?_eq_getElem hwi
  have hgx:x[i+m]?=some x[i+m]:=List.getElem?_eq_getElem hxi
  have stop:∀ r:(Nat→Int)×List GPiece×List S×List S×List S,((rng ((m:Int)-1)).bind fun i132=>(rng ((i:Int)+i132)).bind fun i134=>(rng (i134+1)).bind fun i136=>rec r.2.2.1 r.2.2.2.1 r.2.2.2.2 r.2.1 r.1 i136)=rec r.2.2.1 r.2.2.2.1 r.2.2.2.2 r.2.1 r.1 ((i+m:Nat):Int):=by
   intro r
   rw[rng_ok (by omega) (by omega),bsome,rng_ok (by omega) (by omega),bsome,rng_ok (by omega) (by omega),bsome]
   rw[show (i:Int)+((m:Int)-1)+1=((i+m:Nat):Int) by omega]
  by_cases hgo:w[i+m]=((k+m:Nat):Int)∧x[i+m]=((l+m:Nat):Int)
  ·
   obtain ⟨m',g1,g2,g3,g4,g5⟩:=ih (m+1) fuel (by omega) (by omega) (by omega)
   refine ⟨m',by omega,g2,fun j h1 h2=>?_,g4,?_⟩
   ·
    rcases Nat.lt_or_eq_of_le h1 with h | h
    ·
     exact g3 j h h2
    ·
     subst h
     rw[hgw,hgx,hgo.1,hgo.2]
     exact ⟨rfl,rfl⟩
   ·
    rw[f_merge_Merge_L94.eq_2,e1,rng_nat (by omega),bsome]
    simp only
    rw[if_pos (by simp;omega),bsome,ix_nat hwi,bsome,ix_get hw,bsome,e2,rng_nat (by omega),bsome,if_pos (by rw[hgo.1];simp),bsome,ix_nat hxi,bsome,ix_get hx,bsome,e3,rng_nat (by omega),bsome,if_pos (by rw[hgo.2];simp),rng_succ (by omega),bsome]
    exact g5
  ·
   refine ⟨m,Nat.le_refl _,hm,fun j h1 h2=>by omega,fun h=>hgo ?_,?_⟩
   ·
    rw[hgw,hgx] at h
    exact ⟨Option.some.inj h.2.1,Option.some.inj h.2.2⟩
   ·
    rw[f_merge_Merge_L94.eq_2,e1,rng_nat (by omega),bsome]
    simp only
    rw[if_pos (by simp;omega),bsome,ix_nat hwi,bsome,ix_get hw,bsome,e2,rng_nat (by omega),bsome]
    by_cases h1:w[i+m]=((k+m:Nat):Int)
    ·
     have h2:¬x[i+m]=((l+m:Nat):Int):=fun h=>hgo ⟨h1,h⟩
     rw[if_pos (by rw[h1];simp),bsome,ix_nat hxi,bsome,ix_get hx,bsome,e3,rng_nat (by omega),bsome,if_neg (by simpa using h2),bsome,bsome,bsome]
     exact congrArg _ (funext stop)
    ·
     rw[if_neg (by simpa using h1),bsome,bsome,ix_get hx,bsome,e3,rng_nat (by omega),bsome]
     exact congrArg _ (funext stop)
inductive Cuts (B O T:List S) (w x:List Int):Nat→Tri→List Pc→Prop
 | done {i:Nat} {a:Tri}:B.length≤i→a.1≤B.length→a.2.1≤O.length→a.2.2≤T.length→Cuts B O T w x i a (cutP B O T a (B.length,O.length,T.length))
 | skip {i:Nat} {a:Tri} {ps:List Pc}:i<B.length→(w[i]?=some (-1)∨x[i]?=some (-1))→Cuts B O T w x (i+1) a ps→Cuts B O T w x i a ps
 | run {i:Nat} {a:Tri} {k l m:Nat} {ps:List Pc}:i<B.length→w[i]?=some (k:Int)→x[i]?=some (l:Int)→a.1≤i→a.2.1≤k→a.2.2≤l→1≤m→i+m≤B.length→k+m≤O.length→l+m≤T.length →
   (∀ j,j<m→w[i+j]?=some ((k+j:Nat):Int)∧x[i+j]?=some ((l+j:Nat):Int))→¬(i+m<B.length∧w[i+m]?=some ((k+m:Nat):Int)∧x[i+m]?=some ((l+m:Nat):Int)) →
   Cuts B O T w x (i+m) (i+m,k+m,l+m) ps→Cuts B O T w x i a (cutP B O T a (i,k,l)++(cutP B O T (i,k,l) (i+m,k+m,l+m)++ps))
theorem cutP_len (B O T:List S) (a t:Tri):(cutP B O T a t).length≤1:=by unfold cutP;split <;> simp
theorem merge59 {n:Nat} {w x:List Int} {ew ex:Int} {B O T:List S} (hw:With B O w) (hx:With B T x) (hB:B.length<1000) (hO:O.length<1000) (hT:T.length<1000) (hn:1000<n) (hl:2000000≤lim):∀ (d i fuel:Nat) (a:Tri) (at':Nat→Int) (acc:List GPiece),B.length-i=d→i≤B.length→a.1≤i→a.2.1≤O.length→a.2.2≤T.length →
  (∀ j (k:Nat),i≤j→w[j]?=some (k:Int)→a.2.1≤k)→(∀ j (k:Nat),i≤j→x[j]?=some (k:Int)→a.2.2≤k)→At at' a→d<fuel→acc.length+2*d<100000 →
  ∃ ps,Cuts B O T w x i a ps∧ps.length≤2*d+1∧f_merge_Merge_L59 n (w,ew) (x,ex) fuel B O T acc at' (i:Int)=some (acc++ps.map asPiece,0):=by
 intro d
 induction d using Nat.strongRecOn with
 | ind d ih =>
  intro i fuel a at' acc hd hi ha1 ha2 ha3 iw ix' hat hf hacc
  obtain ⟨fuel,rfl⟩:∃ k,fuel=k+1:=⟨fuel-1,by omega⟩
  by_cases hlt:i<B.length
  ·
   have wget:∀ (v:Int),w[i]?=some v→ix w (i:Int)=some v:=fun v h=>ix_get h
   have skip:(w[i]?=some (-1)∨x[i]?=some (-1))→f_merge_Merge_L59 n (w,ew) (x,ex) (fuel+1) B O T acc at' (i:Int)=f_merge_Merge_L59 n (w,ew) (x,ex) fuel B O T acc at' ((i+1:Nat):Int)→∃ ps,Cuts B O T w x i a ps∧ps.length≤2*d+1∧f_merge_Merge_L59 n (w,ew) (x,ex) (fuel+1) B O T acc at' (i:Int)=some (acc++ps.map asPiece,0):=by
    intro hor he
    obtain ⟨ps,g1,g2,g3⟩:=ih (B.length-(i+1)) (by omega) (i+1) fuel a at' acc rfl (by omega) (by omega) ha2 ha3 (fun j k h=>iw j k (by omega)) (fun j k h=>ix' j k (by omega)) hat (by omega) (by omega)
    exact ⟨ps,.skip hlt hor g1,by omega,by rw[he];exact g3⟩
   rcases hw.val i hlt with h1 | ⟨k,hk,h1,_⟩
   ·
    refine skip (.inl h1) ?_
    rw[f_merge_Merge_L59.eq_2,if_pos (by simpa using hlt),wget _ h1,bsome,if_pos (by simp),rng_succ (by omega),bsome]
   ·
    rcases hx.val i hlt with h2 | ⟨l,hl',h2,_⟩
    ·
     refine skip (.inr h2) ?_
     rw[f_merge_Merge_L59.eq_2,if_pos (by simpa using hlt),wget _ h1,bsome,if_neg (by simp),ix_get h2,bsome,if_pos (by simp),rng_succ (by omega),bsome]
    ·
     have hka:=iw i k (Nat.le_refl _) h1
     have hla:=ix' i l (Nat.le_refl _) h2
     have c1:=cut_law (n:=n) (acc:=acc) (B:=B) (O:=O) (T:=T) hat (at_upd i k l) ha1 hka hla (by simp only;omega) (by simp only;omega) (by simp only;omega) hB hO hT hn hl (by omega)
     obtain ⟨m,g1,g2,g3,g4,g5⟩:=inner_law (n:=n) (ew:=ew) (ex:=ex) (O:=O) (T:=T) hw.len hx.len hB h1 h2 (by omega) (by omega) (to:=updA (updA (updA zeroA 0 (i:Int)) 1 (k:Int)) 2 (l:Int)) (acc:=acc++(cutP B O T a (i,k,l)).map asPiece) (fun a185 a186 a187 a188 a189 a190=>f_merge_Merge_L59 n (w,ew) (x,ex) fuel a185 a186 a187 a188 a189 a190) (B.length-(i+1)) 1 fuel rfl (by omega) (by omega)
     have hrun:∀ j,j<m→w[i+j]?=some ((k+j:Nat):Int)∧x[i+j]?=some ((l+j:Nat):Int):=by
      intro j hj
      rcases Nat.eq_zero_or_pos j with h | h
      ·
       subst h;exact ⟨h1,h2⟩
      ·
       exact g3 j h hj
     have hlast:=hrun (m-1) (by omega)
     have hkm:k+m≤O.length:=by
      rcases hw.val (i+(m-1)) (by omega) with h | ⟨k',hk',h,_⟩
      ·
       rw[hlast.1] at h;simp at h;omega
      ·
       rw[hlast.1] at h
       have:((k+(m-1):Nat):Int)=(k':Int):=Option.some.inj h
       omega
     have hlm:l+m≤T.length:=by
      rcases hx.val (i+(m-1)) (by omega) with h | ⟨k',hk',h,_⟩
      ·
       rw[hlast.2] at h;simp at h;omega
      ·
       rw[hlast.2] at h
       have:((l+(m-1):Nat):Int)=(k':Int):=Option.some.inj h
       omega
     have cl1:=cutP_len B O T a (i,k,l)
     have cl2:=cutP_len B O T (i,k,l) (i+m,k+m,l+m)
     have c2:=cut_law (n:=n) (acc:=acc++(cutP B O T a (i,k,l)).map asPiece) (B:=B) (O:=O) (T:=T) (at_upd i k l) (at_upd (i+m) (k+m) (l+m)) (by simp only;omega) (by simp only;omega) (by simp only;omega) g2 hkm hlm hB hO hT hn hl (by simp;omega)
     obtain ⟨ps,p1,p2,p3⟩:=ih (B.length-(i+m)) (by omega) (i+m) fuel (i+m,k+m,l+m) _ (acc++(cutP B O T a (i,k,l)).map asPiece++(cutP B O T (i,k,l) (i+m,k+m,l+m)).map asPiece) rfl g2 (Nat.le_refl _) hkm hlm
      (fun j k' h h'=>by have:=hw.mono (i+(m-1)) j (k+(m-1)) k' (by omega) hlast.1 h';simp only;omega) (fun j k' h h'=>by have:=hx.mono (i+(m-1)) j (l+(m-1)) k' (by omega) hlast.2 h';simp only;omega) (at_upd (i+m) (k+m) (l+m)) (by omega) (by simp;omega)
     refine ⟨_,.run hlt h1 h2 ha1 hka hla g1 g2 hkm hlm hrun g4 p1,by simp;omega,?_⟩
     rw[f_merge_Merge_L59.eq_2,if_pos (by simpa using hlt),wget _ h1,bsome,if_neg (by simp),ix_get h2,bsome,if_neg (by simp),c1,bsome]
     refine Eq.trans g5 ?_
     rw[c2,bsome]
     refine Eq.trans p3 ?_
     simp
  ·
   have hie:i=B.length:=by omega
   have c1:=cut_law (n:=n) (acc:=acc) (B:=B) (O:=O) (T:=T) hat (at_upd B.length O.length T.length) (by simp only;omega) ha2 ha3 (Nat.le_refl _) (Nat.le_refl _) (Nat.le_refl _) hB hO hT hn hl (by omega)
   refine ⟨_,.done (by omega) (by omega) ha2 ha3,by have:=cutP_len B O T a (B.length,O.length,T.length);omega,?_⟩
   rw[f_merge_Merge_L59.eq_2,if_neg (by simpa using hlt),c1,bsome]
end Go.Zv.G
namespace Go.Zv.G
open Go Go.Zv Go.Proofs
set_option maxRecDepth 100000
attribute [local simp high] bsome
section
variable {B O T:List S} {w x:List Int}
structure PcOK (B O T:List S) (p:Pc):Prop where
 some:0<p.b.length+p.o.length+p.t.length
 bm:∀ s∈p.b,s∈B
 om:∀ s∈p.o,s∈O
 tm:∀ s∈p.t,s∈T
 bl:p.b.length≤B.length
 ol:p.o.length≤O.length
 tl:p.t.length≤T.length
theorem seg_mem {l:List S} {i j:Nat} {s:S} (h:s∈seg l i j):s∈l:=List.mem_of_mem_take (List.mem_of_mem_drop h)
theorem seg_le (l:List S) (i j:Nat):(seg l i j).length≤l.length:=by simp[seg];omega
theorem cutP_ok {a t:Tri} (h1:a.1≤t.1) (h2:a.2.1≤t.2.1) (h3:a.2.2≤t.2.2) (l1:t.1≤B.length) (l2:t.2.1≤O.length) (l3:t.2.2≤T.length):∀ p∈cutP B O T a t,PcOK B O T p:=by
 intro p hp
 unfold cutP at hp
 split at hp
 ·
  cases hp
 ·
  rename_i hne
  rw[List.mem_singleton] at hp
  subst hp
  refine ⟨?_,fun s=>seg_mem,fun s=>seg_mem,fun s=>seg_mem,seg_le _ _ _,seg_le _ _ _,seg_le _ _ _⟩
  show 0<(seg B a.1 t.1).length+(seg O a.2.1 t.2.1).length+(seg T a.2.2 t.2.2).length
  rw[seg_len l1,seg_len l2,seg_len l3]
  rcases Nat.lt_or_ge a.1 t.1 with h | h
  ·
   omega
  ·
   rcases Nat.lt_or_ge a.2.1 t.2.1 with h' | h'
   ·
    omega
   ·
    rcases Nat.lt_or_ge a.2.2 t.2.2 with h'' | h''
    ·
     omega
    ·
     exfalso
     apply hne
     obtain ⟨a1,a2,a3⟩:=a
     obtain ⟨t1,t2,t3⟩:=t
     simp only at *
     simp only[Prod.mk.injEq]
     omega
theorem cuts_ok {i:Nat} {a:Tri} {ps:List Pc} (h:Cuts B O T w x i a ps):∀ p∈ps,PcOK B O T p:=by
 induction h with
 | done h1 h2 h3 h4=>exact cutP_ok h2 h3 h4 (Nat.le_refl _) (Nat.le_refl _) (Nat.le_refl _)
 | skip h1 h2 h3 ih=>exact ih
 | @run i a k l m ps h1 h2 h3 h4 h5 h6 h7 h8 h9 h10 h11 h12 h13 ih =>
  intro p hp
  simp only[List.mem_append] at hp
  rcases hp with hp | hp | hp
  ·
   exact cutP_ok h4 h5 h6 (by simp only;omega) (by simp only;omega) (by simp only;omega) p hp
  ·
   exact cutP_ok (by simp only;omega) (by simp only;omega) (by simp only;omega) h8 h9 h10 p hp
  ·
   exact ih p hp
end
def pickP (p:Pc):List S:=if kindN p.b p.o p.t=3 then p.t else p.o
def resP (ps:List Pc):List S:=ps.flatMap pickP
def clashP (p:Pc):Bool:=kindN p.b p.o p.t==5
end Go.Zv.G
namespace Go.Zv.G
open Go Go.Zv Go.Proofs
set_option maxRecDepth 100000
attribute [local simp high] bsome
theorem f_merge_plain_1_eq {n:Nat} (s:S):f_merge_plain_1 n s=some (badLn s):=by
 have hodd:=f_lines_odd_1_eq (n:=n) s
 unfold f_lines_odd_1 at hodd
 unfold f_merge_plain_1 badLn
 by_cases h:2000<s.length
 ·
  rw[if_pos (by simp;omega)];simp[h]
 ·
  rw[if_neg (by simp;omega),hodd];simp[h]
theorem mplainL5_eq (n:Nat) (l:List S) (hl:l.length<1000000):∀ (m i:Nat),i≤l.length→l.length<m+i→∃ r:Int,f_slices_IndexFunc_string_by_merge_plain_1_L5 n l m (i:Int)=some r∧decide (r≥0)=(l.drop i).any badLn:=by
 intro m
 induction m with
 | zero=>intro i h1 h2;omega
 | succ m ih =>
  intro i h1 h2
  rw[f_slices_IndexFunc_string_by_merge_plain_1_L5.eq_2]
  by_cases hi:i<l.length
  ·
   rw[if_pos (by simpa using hi),ix_nat hi,bsome,f_merge_plain_1_eq,bsome,List.drop_eq_getElem_cons hi,List.any_cons]
   cases e:badLn l[i] with
   | true=>exact ⟨i,by simp,by simp⟩
   | false =>
    obtain ⟨r,h3,h4⟩:=ih (i+1) (by omega) (by omega)
    refine ⟨r,?_,by simpa using h4⟩
    rw[if_neg (by simp),rng_succ (by omega),bsome]
    exact h3
  ·
   rw[if_neg (by simpa using hi)]
   have:i=l.length:=by omega
   subst this
   exact ⟨-1,rfl,by simp⟩
theorem f_merge_plain_ok {n:Nat} {l:List S} (hl:l.length≤60) (hn:l.length<n) (h:∀ s∈l,badLn s=false):f_merge_plain n l=some true:=by
 unfold f_merge_plain f_slices_ContainsFunc_string_by_merge_plain_1 f_slices_IndexFunc_string_by_merge_plain_1
 obtain ⟨r,h3,h4⟩:=mplainL5_eq n l (by omega) n 0 (by omega) (by omega)
 rw[show ((0:Nat):Int)=0 from rfl] at h3
 have h5:l.any badLn=false:=by rw[List.any_eq_false];intro s hs;simp[h s hs]
 rw[if_pos (by simp;omega),h3,bsome,bsome,h4,List.drop_zero,h5]
 rfl
structure PcGood (p:Pc):Prop where
 some:0<p.b.length+p.o.length+p.t.length
 bl:p.b.length≤60
 ol:p.o.length≤60
 tl:p.t.length≤60
 bg:∀ s∈p.b,badLn s=false
 og:∀ s∈p.o,badLn s=false
 tg:∀ s∈p.t,badLn s=false
theorem mcheck_L8 {n:Nat} (hn:1000<n) {ps:List Pc} (hp:∀ p∈ps,PcGood p) (hl:ps.length<1000):∀ (m k fuel:Nat),ps.length-k=m→k≤ps.length→m<fuel→f_merge_Check_L8 n (ps.map asPiece) fuel (k:Int)=some 0:=by
 intro m
 induction m with
 | zero =>
  intro k fuel hm hk hf
  obtain ⟨fuel,rfl⟩:∃ k,fuel=k+1:=⟨fuel-1,by omega⟩
  rw[f_merge_Check_L8.eq_2,if_neg (by simp;omega)]
 | succ m ih =>
  intro k fuel hm hk hf
  obtain ⟨fuel,rfl⟩:∃ k,fuel=k+1:=⟨fuel-1,by omega⟩
  have hkl:k<ps.length:=by omega
  have hg:=hp ps[k] (List.getElem_mem hkl)
  have hbl:=hg.bl
  have hol:=hg.ol
  have htl:=hg.tl
  have hsm:=hg.some
  have hkl':k<(ps.map asPiece).length:=by simpa using hkl
  have he:(ps.map asPiece)[k]=asPiece ps[k]:=by simp
  rw[f_merge_Check_L8.eq_2,if_pos (by simp;omega),ix_nat hkl',bsome,he]
  simp only[asPiece]
  rw[f_merge_plain_ok hg.bl (by omega) hg.bg,bsome,if_neg (by simp),f_merge_plain_ok hg.ol (by omega) hg.og,bsome,if_neg (by simp),f_merge_plain_ok hg.tl (by omega) hg.tg,bsome,if_neg (by simp),
   kind_law (by omega) (by omega) hn,bsome,if_neg (by simp),rng_ok (by omega) (by omega),bsome,rng_ok (by omega) (by omega),bsome,if_neg (by simp;omega),rng_succ (by omega),bsome]
  exact ih (k+1) fuel (by omega) (by omega) (by omega)
theorem f_merge_Check_ok {n:Nat} (hn:1000<n) {ps:List Pc} (hp:∀ p∈ps,PcGood p) (hl:ps.length≤130):f_merge_Check n (ps.map asPiece)=some 0:=by
 unfold f_merge_Check
 rw[if_neg (by simp;omega)]
 exact mcheck_L8 hn hp (by omega) ps.length 0 n rfl (Nat.zero_le _) (by omega)
theorem clashes_L13 {ps:List Pc} (hl:ps.length<1000):∀ (m k fuel c:Nat),ps.length-k=m→k≤ps.length→m<fuel→c+m<100000→∃ c':Nat,f_merge_Clashes_L13 (ps.map asPiece) fuel (c:Int) (k:Int)=some ((c':Int),0)∧(0<c'↔0<c∨(ps.drop k).any clashP=true):=by
 intro m
 induction m with
 | zero =>
  intro k fuel c hm hk hf hc
  obtain ⟨fuel,rfl⟩:∃ k,fuel=k+1:=⟨fuel-1,by omega⟩
  refine ⟨c,?_,?_⟩
  ·
   rw[f_merge_Clashes_L13.eq_2,if_neg (by simp;omega)]
  ·
   rw[List.drop_of_length_le (by omega)];simp
 | succ m ih =>
  intro k fuel c hm hk hf hc
  obtain ⟨fuel,rfl⟩:∃ k,fuel=k+1:=⟨fuel-1,by omega⟩
  have hkl:k<ps.length:=by omega
  have hkl':k<(ps.map asPiece).length:=by simpa using hkl
  have he:(ps.map asPiece)[k]=asPiece ps[k]:=by simp
  rw[f_merge_Clashes_L13.eq_2,if_pos (by simp;omega),ix_nat hkl',bsome,he]
  rw[List.drop_eq_getElem_cons hkl,List.any_cons]
  by_cases h5:kindN ps[k].b ps[k].o ps[k].t=5
  ·
   obtain ⟨c',g1,g2⟩:=ih (k+1) fuel (c+1) (by omega) (by omega) (by omega) (by omega)
   refine ⟨c',?_,?_⟩
   ·
    rw[if_pos (show ((asPiece ps[k]).kind_==5)=true from by simpa[asPiece] using h5),rng_succ (by omega),bsome,rng_succ (by omega),bsome]
    exact g1
   ·
    rw[g2]
    simp[clashP,h5]
  ·
   obtain ⟨c',g1,g2⟩:=ih (k+1) fuel c (by omega) (by omega) (by omega) (by omega)
   refine ⟨c',?_,?_⟩
   ·
    rw[if_neg (show ¬((asPiece ps[k]).kind_==5)=true from by simpa[asPiece] using h5),rng_succ (by omega),bsome]
    exact g1
   ·
    rw[g2]
    have:clashP ps[k]=false:=by simpa[clashP] using h5
    simp[this]
theorem f_merge_Clashes_ok {n:Nat} (hn:1000<n) {ps:List Pc} (hp:∀ p∈ps,PcGood p) (hl:ps.length≤130):∃ c:Nat,f_merge_Clashes n (ps.map asPiece)=some ((c:Int),0)∧(0<c↔ps.any clashP=true):=by
 obtain ⟨c,h1,h2⟩:=clashes_L13 (ps:=ps) (by omega) ps.length 0 n 0 rfl (Nat.zero_le _) (by omega) (by omega)
 refine ⟨c,?_,by simpa using h2⟩
 unfold f_merge_Clashes
 rw[f_merge_Check_ok hn hp hl,bsome,if_neg (by simp)]
 exact h1
theorem joinS_len:∀ (l:List S) (c:UInt8),(joinL l [c]).length≤sizeL l+l.length
 | [],c=>by simp[joinL]
 | [x],c=>by simp[joinL,sizeL]
 | x::y::rest,c=>by
  have:=joinS_len (y::rest) c
  simp only[joinL,List.length_append,List.length_cons,List.length_nil,sizeL,List.map_cons,List.sum_cons] at *
  omega
theorem f_lines_Join_eq {n:Nat} {l:List S} (hz:sizeL l<1000000000) (hb:l.length<1000000) (hn:l.length<n) (hl:2000000≤lim):f_lines_Join n l=some (if linE l=0 then (joinL l [10],0) else ([],linE l)):=by
 unfold f_lines_Join
 rw[f_lines_check_eq hz hn hb,bsome]
 by_cases h:linE l=0
 ·
  have hb1:l.length≤60∧sizeL l+l.length≤2001:=by
   unfold linE at h
   split at h
   ·
    cases h
   ·
    split at h
    ·
     cases h
    ·
     omega
  have hj:=joinS_len l 10
  rw[if_neg (by simp[h]),joinI_ok (by omega) (by omega),bsome,if_pos h]
 ·
  rw[if_pos (by simpa using h),if_neg h]
theorem result_L16 {n:Nat} {ps:List Pc} (hl:ps.length<1000) (hp:∀ p∈ps,PcGood p) (hlim:2000000≤lim):∀ (m k fuel:Nat) (out:List S),ps.length-k=m→k≤ps.length→m<fuel→out.length+60*m<1000000 →
  f_merge_Result_L16 n (ps.map asPiece) fuel out (k:Int)=(f_lines_Join n (out++resP (ps.drop k))).bind fun r38=>if (r38.2 != 0)=true then some (([]:List S),r38.2) else some (out++resP (ps.drop k),0):=by
 intro m
 induction m with
 | zero =>
  intro k fuel out hm hk hf ho
  obtain ⟨fuel,rfl⟩:∃ k,fuel=k+1:=⟨fuel-1,by omega⟩
  rw[f_merge_Result_L16.eq_2,if_neg (by simp;omega),List.drop_of_length_le (by omega)]
  simp[resP]
 | succ m ih =>
  intro k fuel out hm hk hf ho
  obtain ⟨fuel,rfl⟩:∃ k,fuel=k+1:=⟨fuel-1,by omega⟩
  have hkl:k<ps.length:=by omega
  have hg:=hp ps[k] (List.getElem_mem hkl)
  have hol:=hg.ol
  have htl:=hg.tl
  have hkl':k<(ps.map asPiece).length:=by simpa using hkl
  have he:(ps.map asPiece)[k]=asPiece ps[k]:=by simp
  have hd:resP (ps.drop k)=pickP ps[k]++resP (ps.drop (k+1)):=by
   unfold resP;rw[List.drop_eq_getElem_cons hkl,List.flatMap_cons]
  rw[f_merge_Result_L16.eq_2,if_pos (by simp;omega),ix_nat hkl',bsome,he]
  by_cases h3:kindN ps[k].b ps[k].o ps[k].t=3
  ·
   rw[if_pos (show ((asPiece ps[k]).kind_==3)=true from by simpa[asPiece] using h3),need_ok (show out.length+(asPiece ps[k]).theirs_.length≤lim from (show out.length+(ps[k].t).length≤lim by omega)),bsome,rng_succ (by omega),bsome]
   refine Eq.trans (ih (k+1) fuel (out++ps[k].t) (by omega) (by omega) (by omega) (by rw[List.length_append];omega)) ?_
   rw[hd]
   have:pickP ps[k]=ps[k].t:=by unfold pickP;rw[if_pos h3]
   rw[this,List.append_assoc]
  ·
   rw[if_neg (show ¬((asPiece ps[k]).kind_==3)=true from by simpa[asPiece] using h3),need_ok (show out.length+(asPiece ps[k]).ours_.length≤lim from (show out.length+(ps[k].o).length≤lim by omega)),bsome,rng_succ (by omega),bsome]
   refine Eq.trans (ih (k+1) fuel (out++ps[k].o) (by omega) (by omega) (by omega) (by rw[List.length_append];omega)) ?_
   rw[hd]
   have:pickP ps[k]=ps[k].o:=by unfold pickP;rw[if_neg h3]
   rw[this,List.append_assoc]
def resE (ps:List Pc):List S×Int:=if ps.any clashP=true then ([],26) else if linE (resP ps)=0 then (resP ps,0) else ([],linE (resP ps))
theorem f_merge_Result_ok {n:Nat} (hn:50000<n) {ps:List Pc} (hp:∀ p∈ps,PcGood p) (hl:ps.length≤130) (hz:sizeL (resP ps)<1000000000) (hzl:(resP ps).length<8000) (hlim:2000000≤lim):f_merge_Result n (ps.map asPiece)=some (resE ps):=by
 obtain ⟨c,h1,h2⟩:=f_merge_Clashes_ok (n:=n) (by omega) hp hl
 unfold f_merge_Result resE
 rw[h1,bsome,if_neg (by simp)]
 by_cases hc:ps.any clashP=true
 ·
  have:=h2.2 hc
  rw[if_pos (by simp;omega),if_pos hc]
 ·
  have h0:¬0<c:=fun h=>hc (h2.1 h)
  have hr:=result_L16 (n:=n) (by omega) hp hlim ps.length 0 n [] rfl (Nat.zero_le _) (by omega) (by simp;omega)
  rw[show ((0:Nat):Int)=0 from rfl] at hr
  rw[if_neg (by simp;omega),if_neg hc,hr]
  simp only[List.nil_append,List.drop_zero]
  rw[f_lines_Join_eq hz (by omega) (by omega) hlim]
  by_cases h:linE (resP ps)=0
  ·
   simp[h]
  ·
   simp[h]
theorem linE_cases (l:List S):linE l=0∨linE l=4∨linE l=8:=by
 unfold linE
 split
 ·
  simp
 ·
  split
  ·
   simp
  ·
   split
   ·
    simp
   ·
    split <;> simp
theorem resE_cases (ps:List Pc):((resE ps).2=0∧linE (resE ps).1=0)∨((resE ps).2=26∧(resE ps).1=[])∨((resE ps).2=4∧(resE ps).1=[])∨((resE ps).2=8∧(resE ps).1=[]):=by
 unfold resE
 by_cases h:ps.any clashP=true
 ·
  rw[if_pos h];simp
 ·
  rw[if_neg h]
  by_cases h0:linE (resP ps)=0
  ·
   rw[if_pos h0];exact .inl ⟨rfl,h0⟩
  ·
   rw[if_neg h0]
   rcases linE_cases (resP ps) with h1 | h1 | h1
   ·
    exact absurd h1 h0
   ·
    exact .inr (.inr (.inl ⟨h1,rfl⟩))
   ·
    exact .inr (.inr (.inr ⟨h1,rfl⟩))
theorem sizeL_flat:∀ (ps:List Pc) (M:Nat),(∀ p∈ps,sizeL (pickP p)≤M)→sizeL (resP ps)≤M*ps.length
 | [],M,_=>by simp[resP,sizeL]
 | p::ps,M,h=>by
  have ih:=sizeL_flat ps M fun q hq=>h q (by simp[hq])
  have h1:=h p (by simp)
  have:sizeL (resP (p::ps))=sizeL (pickP p)+sizeL (resP ps):=by simp[resP,sizeL]
  rw[this,List.length_cons,Nat.mul_succ]
  omega
theorem len_flat:∀ (ps:List Pc) (M:Nat),(∀ p∈ps,(pickP p).length≤M)→(resP ps).length≤M*ps.length
 | [],M,_=>by simp[resP]
 | p::ps,M,h=>by
  have ih:=len_flat ps M fun q hq=>h q (by simp[hq])
  have h1:=h p (by simp)
  have:(resP (p::ps)).length=(pickP p).length+(resP ps).length:=by simp[resP]
  rw[this,List.length_cons,Nat.mul_succ]
  omega
theorem sizeL_le {l:List S} {M:Nat}:(∀ s∈l,s.length≤M)→sizeL l≤M*l.length:=by
 induction l with
 | nil=>intro _;simp[sizeL]
 | cons s l ih =>
  intro h
  have h1:=h s (by simp)
  have h2:=ih fun t ht=>h t (by simp[ht])
  have:sizeL (s::l)=s.length+sizeL l:=by simp[sizeL]
  rw[this,List.length_cons,Nat.mul_succ]
  omega
def mres (n:Nat) (x y z:S):List S×Int:=match f_merge_Merge n (splitC 10 x) (splitC 10 y) (splitC 10 z) with
 | some r=>(match f_merge_Result n r.1 with
  | some q=>q
  | none=>([],0))
 | none=>([],0)
theorem merge_law {n:Nat} (hn:50000<n) {x y z:S} (hx:txtE x=0) (hy:txtE y=0) (hz:txtE z=0) :
  ∃ (ps:List Pc) (w v:List Int),Cuts (splitC 10 x) (splitC 10 y) (splitC 10 z) w v 0 (0,0,0) ps∧With (splitC 10 x) (splitC 10 y) w∧With (splitC 10 x) (splitC 10 z) v ∧
   f_merge_pairs n (splitC 10 x) (splitC 10 y)=some (w,0)∧f_merge_pairs n (splitC 10 x) (splitC 10 z)=some (v,0)∧(x=y→∀ i,i<(splitC 10 x).length→w[i]?=some (i:Int))∧(x=z→∀ i,i<(splitC 10 x).length→v[i]?=some (i:Int)) ∧
   f_merge_Merge n (splitC 10 x) (splitC 10 y) (splitC 10 z)=some (ps.map asPiece,0)∧f_merge_Result n (ps.map asPiece)=some (resE ps):=by
 have hlim:2000000≤lim:=by decide
 obtain ⟨lx1,lx2⟩:=lines_of_txt hx
 obtain ⟨ly1,ly2⟩:=lines_of_txt hy
 obtain ⟨lz1,lz2⟩:=lines_of_txt hz
 obtain ⟨w,w1,w2,w3⟩:=merge_pairs_law (n:=n) (a:=splitC 10 x) (b:=splitC 10 y) (by omega) (by omega) hlim (by omega) (lcs_check_split hx hy (by omega) hlim)
 obtain ⟨v,v1,v2,v3⟩:=merge_pairs_law (n:=n) (a:=splitC 10 x) (b:=splitC 10 z) (by omega) (by omega) hlim (by omega) (lcs_check_split hx hz (by omega) hlim)
 obtain ⟨ps,p1,p2,p3⟩:=merge59 (n:=n) (ew:=0) (ex:=0) w1 v1 (by omega) (by omega) (by omega) (by omega) hlim (splitC 10 x).length 0 n (0,0,0) zeroA [] (by omega) (Nat.zero_le _) (Nat.zero_le _) (Nat.zero_le _) (Nat.zero_le _) (fun _ _ _ _=>Nat.zero_le _) (fun _ _ _ _=>Nat.zero_le _) ⟨rfl,rfl,rfl⟩ (by omega) (by simp;omega)
 have hok:=cuts_ok p1
 have hgood:∀ p∈ps,PcGood p:=fun p hp=>by
  have h:=hok p hp
  exact ⟨h.some,by have:=h.bl;omega,by have:=h.ol;omega,by have:=h.tl;omega,fun s hs=>split_good hx (h.bm s hs),fun s hs=>split_good hy (h.om s hs),fun s hs=>split_good hz (h.tm s hs)⟩
 have hpick:∀ p∈ps,(pickP p).length≤60∧∀ s∈pickP p,s.length≤2000:=fun p hp=>by
  have h:=hgood p hp
  have hb:∀ s:S,badLn s=false→s.length≤2000:=fun s hs=>by
   unfold badLn at hs
   simp only[Bool.or_eq_false_iff,decide_eq_false_iff_not] at hs
   omega
  unfold pickP
  split
  ·
   exact ⟨h.tl,fun s hs=>hb s (h.tg s hs)⟩
  ·
   exact ⟨h.ol,fun s hs=>hb s (h.og s hs)⟩
 have hlen:ps.length≤121:=by omega
 have hz1:=sizeL_flat ps (2000*60) fun p hp=>by
  obtain ⟨g1,g2⟩:=hpick p hp
  have:=sizeL_le g2
  have:2000*(pickP p).length≤2000*60:=Nat.mul_le_mul_left _ g1
  omega
 have hz2:=len_flat ps 60 fun p hp=>(hpick p hp).1
 have hr:=f_merge_Result_ok hn hgood (by omega) (by omega) (by omega) hlim
 refine ⟨ps,w,v,p1,w1,v1,w3,v3,fun e i hi=>w2 (by rw[e]) i hi,fun e i hi=>v2 (by rw[e]) i hi,?_,hr⟩
 unfold f_merge_Merge
 rw[need_ok (by omega),bsome,f_lines_Join_split hx (by omega) hlim,bsome,if_neg (by simp),f_lines_Join_split hy (by omega) hlim,bsome,if_neg (by simp),f_lines_Join_split hz (by omega) hlim,bsome,if_neg (by simp),w3,bsome,v3,bsome]
 simpa using p3
theorem mres_eq {n:Nat} (hn:50000<n) {x y z:S} (hx:txtE x=0) (hy:txtE y=0) (hz:txtE z=0):∃ ps:List GPiece,f_merge_Merge n (splitC 10 x) (splitC 10 y) (splitC 10 z)=some (ps,0)∧f_merge_Result n ps=some (mres n x y z):=by
 obtain ⟨ps,w,v,_,_,_,_,_,_,_,h1,h2⟩:=merge_law hn hx hy hz
 refine ⟨_,h1,?_⟩
 unfold mres
 rw[h1]
 simp only
 rw[h2]
theorem mres_of {n:Nat} {x y z:S} {ps:List Pc} (h1:f_merge_Merge n (splitC 10 x) (splitC 10 y) (splitC 10 z)=some (ps.map asPiece,0)) (h2:f_merge_Result n (ps.map asPiece)=some (resE ps)):mres n x y z=resE ps:=by
 unfold mres
 rw[h1]
 simp only
 rw[h2]
theorem mres_cases {n:Nat} (hn:50000<n) {x y z:S} (hx:txtE x=0) (hy:txtE y=0) (hz:txtE z=0):((mres n x y z).2=0∧linE (mres n x y z).1=0)∨((mres n x y z).2=26∧(mres n x y z).1=[])∨((mres n x y z).2=4∧(mres n x y z).1=[])∨((mres n x y z).2=8∧(mres n x y z).1=[]):=by
 obtain ⟨ps,w,v,_,_,_,_,_,_,_,h1,h2⟩:=merge_law hn hx hy hz
 rw[mres_of h1 h2]
 exact resE_cases ps
end Go.Zv.G
namespace Go.Zv.G
open Go Go.Zv Go.Proofs
set_option maxRecDepth 100000
attribute [local simp high] bsome
theorem split_join:∀ l:List S,l≠[]→l.any oddLn=false→splitC 10 (joinL l [10])=l
 | [],h,_=>absurd rfl h
 | [x],_,h=>by
  have hx:(10:UInt8) ∉ x:=by simpa[oddLn] using h
  simp only[joinL]
  exact splitC_none 10 x hx
 | x::y::rest,_,h=>by
  simp only[List.any_cons,Bool.or_eq_false_iff] at h
  have hx:(10:UInt8) ∉ x:=by simpa[oddLn] using h.1
  have ih:=split_join (y::rest) (by simp) (by simp only[List.any_cons,Bool.or_eq_false_iff];exact h.2)
  simp only[joinL]
  show splitC 10 (x++10::joinL (y::rest) [10])=_
  rw[splitC_mid 10 x _ hx,ih]
theorem lines_split {l:List S} (h:linE l=0):splitC 10 (joinL l [10])=l:=by
 unfold linE at h
 split at h
 ·
  cases h
 ·
  split at h
  ·
   cases h
  ·
   split at h
   ·
    cases h
   ·
    rename_i h0
    split at h
    ·
     cases h
    ·
     rename_i h1
     exact split_join l (fun e=>h0 (by rw[e];rfl)) (by simpa using h1)
theorem txt_join {l:List S} (h:linE l=0):txtE (joinL l [10])=0:=by
 rw[←linE_split,lines_split h];exact h
def lk (t:List GFile) (p:S):Option S:=(t.find? fun x=>x.path_==p).map GFile.text_
def encO (o:Option S):Bool×S:=match o with
 | some s=>(true,s)
 | none=>(false,[])
theorem has_law {n:Nat} {t:List GFile} {p:S} (ht:t.length<1000000) (hn:t.length<n):f_sidingref21_Has n t p=some ((encO (lk t p)).2,(encO (lk t p)).1):=by
 rw[f_sidingref21_Has_eq t p ht hn]
 unfold lk
 cases t.find? fun x=>x.path_==p <;> rfl
theorem encO_inj {a b:Option S}:(((encO a).1==(encO b).1)&&((encO a).2==(encO b).2))=decide (a=b):=by
 cases a <;> cases b <;> simp[encO]
 rw[Bool.eq_iff_iff,beq_iff_eq,decide_eq_true_eq]
theorem idx_L5 {n:Nat} {t:List GFile} {p:S} (ht:t.length<1000000):∀ (m i:Nat),i≤t.length→t.length<m+i→(∃ k,∃ hk:k<t.length,f_slices_IndexFunc_File_by_treemerge_of_1_L5 n t p m (i:Int)=some (k:Int)∧(t.drop i).find? (fun x=>x.path_==p)=some t[k])∨(f_slices_IndexFunc_File_by_treemerge_of_1_L5 n t p m (i:Int)=some (-1)∧(t.drop i).find? (fun x=>x.path_==p)=none):=by
 intro m
 induction m with
 | zero=>intro i h1 h2;omega
 | succ m ih =>
  intro i h1 h2
  rw[f_slices_IndexFunc_File_by_treemerge_of_1_L5.eq_2]
  by_cases hi:i<t.length
  ·
   rw[if_pos (by simpa using hi),ix_nat hi,bsome,List.drop_eq_getElem_cons hi,List.find?_cons]
   unfold f_treemerge_of_1
   rw[bsome]
   cases e:t[i].path_==p with
   | true =>
    refine .inl ⟨i,hi,?_,rfl⟩
    rw[if_pos rfl]
   | false =>
    rw[if_neg (by simp),rng_succ (by omega),bsome]
    exact ih (i+1) (by omega) (by omega)
  ·
   rw[if_neg (by simpa using hi)]
   refine .inr ⟨rfl,?_⟩
   rw[List.drop_of_length_le (by omega)];rfl
theorem of_law {n:Nat} {t:List GFile} {p:S} (ht:t.length<1000000) (hn:t.length<n):f_treemerge_of n t p=some (encO (lk t p)):=by
 unfold f_treemerge_of f_slices_IndexFunc_File_by_treemerge_of_1 lk
 rcases idx_L5 (n:=n) (p:=p) ht n 0 (Nat.zero_le _) (by omega) with ⟨k,hk,h1,h2⟩ | ⟨h1,h2⟩
 ·
  rw[show ((0:Nat):Int)=0 from rfl] at h1
  rw[List.drop_zero] at h2
  rw[h1,bsome,if_neg (by simp),ix_nat hk,bsome,h2]
  rfl
 ·
  rw[show ((0:Nat):Int)=0 from rfl] at h1
  rw[List.drop_zero] at h2
  rw[h1,bsome,if_pos (by simp),h2]
  rfl
theorem bytesEq_law {n:Nat} (s t:S):f_bytes_Equal n s t=some (s==t):=rfl
theorem same_law {n:Nat} (a b:Option S):f__siding_treemerge_file_same n (encO a).1 (encO a).2 (encO b).1 (encO b).2=some (decide (a=b)):=by
 unfold f__siding_treemerge_file_same
 rw[←encO_inj]
 cases e:(encO a).1==(encO b).1 with
 | true=>rw[if_pos rfl,bytesEq_law,bsome];simp
 | false=>rw[if_neg (by simp)];simp
theorem mem_insS {x y:S}:∀ {l:List S},y∈insS x l↔y=x∨y∈l
 | []=>by simp[insS]
 | z::l=>by
  unfold insS
  split
  ·
   rw[List.mem_cons,mem_insS,List.mem_cons]
   constructor
   ·
    rintro (h | h | h)
    ·
     exact .inr (.inl h)
    ·
     exact .inl h
    ·
     exact .inr (.inr h)
   ·
    rintro (h | h | h)
    ·
     exact .inr (.inl h)
    ·
     exact .inl h
    ·
     exact .inr (.inr h)
  ·
   simp
theorem mem_isortS {y:S}:∀ {l:List S},y∈isortS l↔y∈l
 | []=>by simp[isortS]
 | x::l=>by rw[isortS,mem_insS,mem_isortS,List.mem_cons]
theorem insS_len (x:S):∀ l:List S,(insS x l).length=l.length+1
 | []=>rfl
 | y::l=>by
  unfold insS
  split
  ·
   rw[List.length_cons,insS_len x l,List.length_cons]
  ·
   rfl
theorem isortS_len:∀ l:List S,(isortS l).length=l.length
 | []=>rfl
 | x::l=>by rw[isortS,insS_len,isortS_len l];rfl
theorem insS_sorted {x:S}:∀ {l:List S},l.Pairwise (fun a b=>¬b<a)→(insS x l).Pairwise (fun a b=>¬b<a)
 | [],_=>by simp[insS]
 | y::l,h=>by
  obtain ⟨h1,h2⟩:=List.pairwise_cons.1 h
  unfold insS
  rw[less_eq]
  by_cases hy:y<x
  ·
   rw[if_pos (by simpa using hy)]
   refine List.pairwise_cons.2 ⟨fun b hb=>?_,insS_sorted h2⟩
   rcases mem_insS.1 hb with rfl | hb
   ·
    exact fun h=>s_irrefl _ (s_trans h hy)
   ·
    exact h1 b hb
  ·
   rw[if_neg (by simpa using hy)]
   refine List.pairwise_cons.2 ⟨fun b hb=>?_,h⟩
   rcases List.mem_cons.1 hb with rfl | hb
   ·
    exact hy
   ·
    intro hbx
    rcases s_tri x y with h3 | h3 | h3
    ·
     exact h1 b hb (s_trans hbx h3)
    ·
     rw[h3] at hbx;exact h1 b hb hbx
    ·
     exact hy h3
theorem isortS_sorted:∀ l:List S,(isortS l).Pairwise (fun a b=>¬b<a)
 | []=>by simp[isortS]
 | x::l=>by rw[isortS];exact insS_sorted (isortS_sorted l)
theorem uniqGo_law:∀ {l:List S} {p:S},(p::l).Pairwise (fun a b=>¬b<a)→(p::uniqGo p l).Pairwise (fun a b=>a<b)∧∀ y,y∈p::uniqGo p l↔y∈p::l
 | [],p,h=>by simp[uniqGo]
 | x::l,p,h=>by
  obtain ⟨h1,h2⟩:=List.pairwise_cons.1 h
  unfold uniqGo
  by_cases hx:x=p
  ·
   subst hx
   rw[if_pos rfl]
   have ih:=uniqGo_law h2
   refine ⟨ih.1,fun y=>?_⟩
   rw[ih.2 y,List.mem_cons,List.mem_cons,List.mem_cons]
   constructor
   ·
    intro h;exact .inr h
   ·
    rintro (h | h)
    ·
     exact .inl h
    ·
     exact h
  ·
   rw[if_neg hx]
   have ih:=uniqGo_law h2
   have hpx:p<x:=by
    rcases s_tri p x with h3 | h3 | h3
    ·
     exact h3
    ·
     exact absurd h3.symm hx
    ·
     exact absurd h3 (h1 x (by simp))
   refine ⟨List.pairwise_cons.2 ⟨fun b hb=>?_,ih.1⟩,fun y=>?_⟩
   ·
    rcases List.mem_cons.1 hb with rfl | hb
    ·
     exact hpx
    ·
     exact s_trans hpx ((List.pairwise_cons.1 ih.1).1 b hb)
   ·
    rw[List.mem_cons,ih.2 y,List.mem_cons (a:=y) (b:=p)]
theorem uniqS_law {l:List S} (h:l.Pairwise (fun a b=>¬b<a)):(uniqS l).Pairwise (fun a b=>a<b)∧∀ y,y∈uniqS l↔y∈l:=by
 cases l with
 | nil=>simp[uniqS]
 | cons x l=>exact uniqGo_law h
theorem uniqGo_len:∀ (l:List S) (p:S),(uniqGo p l).length≤l.length
 | [],p=>by simp[uniqGo]
 | x::l,p=>by
  unfold uniqGo
  split
  ·
   have:=uniqGo_len l x;simp;omega
  ·
   have:=uniqGo_len l x;simp;omega
theorem uniqS_le (l:List S):(uniqS l).length≤l.length:=by
 cases l with
 | nil=>simp[uniqS]
 | cons x l=>have:=uniqGo_len l x;simp[uniqS];omega
def pathsOf (a b c:List GFile):List S:=uniqS (isortS ((a++b++c).map GFile.path_))
theorem pathsOf_sorted (a b c:List GFile):(pathsOf a b c).Pairwise (fun a b=>a<b):=(uniqS_law (isortS_sorted _)).1
theorem mem_pathsOf {a b c:List GFile} {p:S}:p∈pathsOf a b c↔(∃ x∈a,x.path_=p)∨(∃ x∈b,x.path_=p)∨∃ x∈c,x.path_=p:=by
 unfold pathsOf
 rw[(uniqS_law (isortS_sorted _)).2,mem_isortS,List.mem_map]
 simp only[List.mem_append]
 constructor
 ·
  rintro ⟨x,(h | h) | h,rfl⟩
  ·
   exact .inl ⟨x,h,rfl⟩
  ·
   exact .inr (.inl ⟨x,h,rfl⟩)
  ·
   exact .inr (.inr ⟨x,h,rfl⟩)
 ·
  rintro (⟨x,h,rfl⟩ | ⟨x,h,rfl⟩ | ⟨x,h,rfl⟩)
  ·
   exact ⟨x,.inl (.inl h),rfl⟩
  ·
   exact ⟨x,.inl (.inr h),rfl⟩
  ·
   exact ⟨x,.inr h,rfl⟩
theorem pathsOf_len (a b c:List GFile):(pathsOf a b c).length≤a.length+b.length+c.length:=by
 unfold pathsOf
 have h1:=uniqS_le (isortS ((a++b++c).map GFile.path_))
 rw[isortS_len] at h1
 simpa[Nat.add_assoc] using h1
theorem concat_L32 {l:List (List GFile)} (hl:l.length<1000) (hx:∀ x∈l,x.length<1000) (hlim:2000000≤lim):∀ (m k fuel:Nat) (acc:List GFile),l.length-k=m→k≤l.length→m<fuel→acc.length+1000*m<1500000→f_slices_Concat_File_L32 l fuel acc (k:Int)=some (acc++(l.drop k).flatten):=by
 intro m
 induction m with
 | zero =>
  intro k fuel acc hm hk hf ha
  obtain ⟨fuel,rfl⟩:∃ k,fuel=k+1:=⟨fuel-1,by omega⟩
  rw[f_slices_Concat_File_L32.eq_2,if_neg (by simp;omega),List.drop_of_length_le (by omega)]
  simp
 | succ m ih =>
  intro k fuel acc hm hk hf ha
  obtain ⟨fuel,rfl⟩:∃ k,fuel=k+1:=⟨fuel-1,by omega⟩
  have hkl:k<l.length:=by omega
  have h1:=hx l[k] (List.getElem_mem hkl)
  rw[f_slices_Concat_File_L32.eq_2,if_pos (by simp;omega),ix_nat hkl,bsome,need_ok (by omega),bsome,rng_succ (by omega),bsome,List.drop_eq_getElem_cons hkl,List.flatten_cons]
  refine Eq.trans (ih (k+1) fuel (acc++l[k]) (by omega) (by omega) (by omega) (by rw[List.length_append];omega)) ?_
  rw[List.append_assoc]
theorem concat_L6 {n:Nat} {l:List (List GFile)} (hl:l.length<1000) (hn:1000<n) (hx:∀ x∈l,x.length<1000) (hlim:2000000≤lim):∀ (m k fuel z:Nat),l.length-k=m→k≤l.length→m<fuel→z+1000*m<1500000→f_slices_Concat_File_L6 n l fuel (z:Int) (k:Int)=some l.flatten:=by
 intro m
 induction m with
 | zero =>
  intro k fuel z hm hk hf ha
  obtain ⟨fuel,rfl⟩:∃ k,fuel=k+1:=⟨fuel-1,by omega⟩
  have hg:growG ([]:List GFile) (z:Int)=some []:=by
   unfold growG
   rw[if_pos ⟨rfl,by omega,by omega⟩]
  have h:=concat_L32 hl hx hlim l.length 0 n [] rfl (Nat.zero_le _) (by omega) (by simp;omega)
  rw[show ((0:Nat):Int)=0 from rfl] at h
  rw[f_slices_Concat_File_L6.eq_2,if_neg (by simp;omega),hg,bsome,h]
  simp
 | succ m ih =>
  intro k fuel z hm hk hf ha
  obtain ⟨fuel,rfl⟩:∃ k,fuel=k+1:=⟨fuel-1,by omega⟩
  have hkl:k<l.length:=by omega
  have h1:=hx l[k] (List.getElem_mem hkl)
  have e1:(z:Int)+(l[k].length:Int)=((z+l[k].length:Nat):Int):=by omega
  rw[f_slices_Concat_File_L6.eq_2,if_pos (by simp;omega),ix_nat hkl,bsome,e1,rng_nat (by omega),bsome,if_neg (by simp;omega),rng_succ (by omega),bsome]
  exact ih (k+1) fuel _ (by omega) (by omega) (by omega) (by omega)
theorem paths_L9 {l:List GFile} (hl:l.length<100000) (hlim:2000000≤lim):∀ (m k fuel:Nat) (acc:List S),l.length-k=m→k≤l.length→m<fuel→acc.length+m<1000000→f_treemerge_paths_L9 l fuel acc (k:Int)=some (uniqS (isortS (acc++(l.drop k).map GFile.path_))):=by
 intro m
 induction m with
 | zero =>
  intro k fuel acc hm hk hf ha
  obtain ⟨fuel,rfl⟩:∃ k,fuel=k+1:=⟨fuel-1,by omega⟩
  have h1:sortSI acc=some (isortS acc):=by unfold sortSI;rw[if_pos (by omega)]
  have h2:uniqSI (isortS acc)=some (uniqS (isortS acc)):=by unfold uniqSI;rw[if_pos (by rw[isortS_len];omega)]
  rw[f_treemerge_paths_L9.eq_2,if_neg (by simp;omega),h1,bsome,h2,bsome,List.drop_of_length_le (by omega)]
  simp
 | succ m ih =>
  intro k fuel acc hm hk hf ha
  obtain ⟨fuel,rfl⟩:∃ k,fuel=k+1:=⟨fuel-1,by omega⟩
  have hkl:k<l.length:=by omega
  rw[f_treemerge_paths_L9.eq_2,if_pos (by simp;omega),ix_nat hkl,bsome,need_ok (by omega),bsome,rng_succ (by omega),bsome,List.drop_eq_getElem_cons hkl,List.map_cons]
  refine Eq.trans (ih (k+1) fuel (acc++[l[k].path_]) (by omega) (by omega) (by omega) (by simp;omega)) ?_
  simp
theorem paths_law {n:Nat} {a b c:List GFile} (hn:2000<n) (ha:a.length<100) (hb:b.length<100) (hc:c.length<100):f_treemerge_paths n a b c=some (pathsOf a b c):=by
 have hlim:2000000≤lim:=by decide
 have h:=concat_L6 (n:=n) (l:=[a,b,c]) (by simp) (by omega) (by intro x hx;simp at hx;rcases hx with rfl | rfl | rfl <;> omega) hlim 3 0 n 0 rfl (by simp) (by omega) (by omega)
 have h9:=paths_L9 (l:=[a,b,c].flatten) (by simp;omega) hlim ([a,b,c].flatten).length 0 n [] rfl (Nat.zero_le _) (by simp;omega) (by simp;omega)
 rw[show ((0:Nat):Int)=0 from rfl] at h h9
 unfold f_treemerge_paths f_slices_Concat_File
 rw[h,bsome,h9]
 unfold pathsOf
 simp
end Go.Zv.G
namespace Go.Zv.G
open Go Go.Zv Go.Proofs
set_option maxRecDepth 100000
attribute [local simp high] bsome
def mrgF (n:Nat) (b o t:Option S):Option S×Int×Int:=match b,o,t with
 | none,_,_=>(o,2,0)
 | some _,none,_=>(o,3,0)
 | some _,some _,none=>(o,3,0)
 | some x,some y,some z=>if (mres n x y z).2=26 then (some y,1,0) else if (mres n x y z).2=0 then (some (joinL (mres n x y z).1 [10]),0,0) else (none,0,(mres n x y z).2)
def decF (n:Nat) (b o t:Option S):Option S×Int×Int:=if o=t then (o,0,0) else if o=b then (t,0,0) else if t=b then (o,0,0) else mrgF n b o t
def putO (p:S) (out:List GFile) (f:Option S):List GFile:=match f with
 | some s=>out++[⟨p,s⟩]
 | none=>out
def putL (p:S) (l:List GTrouble) (k:Int):List GTrouble:=if k=0 then l else l++[⟨p,k⟩]
def mgo (n:Nat) (B O T:S→Option S):List S→List GFile→List GTrouble→List GFile×List GTrouble×Int
 | [],out,l=>if 12<out.length then ([],[],4) else (out,l,0)
 | p::ps,out,l=>if (decF n (B p) (O p) (T p)).2.2=0 then mgo n B O T ps (putO p out (decF n (B p) (O p) (T p)).1) (putL p l (decF n (B p) (O p) (T p)).2.1) else ([],[],(decF n (B p) (O p) (T p)).2.2)
def TxtO (o:Option S):Prop:=∀ s,o=some s→txtE s=0
theorem merged_law {n:Nat} (hn:50000<n) {b o t:Option S} (hb:TxtO b) (ho:TxtO o) (ht:TxtO t) :
  f_treemerge_merged n (encO b).1 (encO b).2 (encO o).1 (encO o).2 (encO t).1 (encO t).2=some ((encO (mrgF n b o t).1).1,(encO (mrgF n b o t).1).2,(mrgF n b o t).2.1,(mrgF n b o t).2.2)∧TxtO (mrgF n b o t).1:=by
 have hlim:2000000≤lim:=by decide
 unfold f_treemerge_merged
 cases b with
 | none =>
  refine ⟨?_,ho⟩
  rw[if_pos (by rfl)];rfl
 | some x =>
  rw[if_neg (by simp[encO])]
  cases o with
  | none =>
   refine ⟨?_,ho⟩
   rw[if_pos (by rfl)];rfl
  | some y =>
   rw[if_neg (by simp[encO])]
   cases t with
   | none =>
    refine ⟨?_,ho⟩
    rw[if_pos (by rfl)];rfl
   | some z =>
    have hx:=hb x rfl
    have hy:=ho y rfl
    have hz:=ht z rfl
    obtain ⟨ps,h1,h2⟩:=mres_eq hn hx hy hz
    have hc:=mres_cases hn hx hy hz
    rw[if_neg (by simp[encO]),need_ok (by omega),bsome]
    simp only[encO]
    rw[f_lines_Split_eq hx (by omega),bsome,f_lines_Split_eq hy (by omega),bsome,f_lines_Split_eq hz (by omega),bsome,h1,bsome,h2,bsome]
    unfold mrgF
    simp only
    by_cases h26:(mres n x y z).2=26
    ·
     rw[if_pos (by simpa using h26),if_pos h26]
     exact ⟨rfl,ho⟩
    ·
     rw[if_neg (by simpa using h26),if_neg h26]
     by_cases h0:(mres n x y z).2=0
     ·
      have hl:linE (mres n x y z).1=0:=by
       rcases hc with ⟨_,h⟩ | ⟨h,_⟩ | ⟨h,_⟩ | ⟨h,_⟩
       ·
        exact h
       ·
        rw[h] at h0;cases h0
       ·
        rw[h] at h0;cases h0
       ·
        rw[h] at h0;cases h0
      have hb2:(mres n x y z).1.length≤60∧sizeL (mres n x y z).1+(mres n x y z).1.length≤2001:=by
       unfold linE at hl
       split at hl
       ·
        cases hl
       ·
        split at hl
        ·
         cases hl
        ·
         omega
      rw[if_neg (by simp[h0]),if_pos h0,f_lines_Join_eq (by omega) (by omega) (by omega) hlim,if_pos hl,bsome]
      refine ⟨rfl,fun s hs=>?_⟩
      have:joinL (mres n x y z).1 [10]=s:=Option.some.inj hs
      rw[←this]
      exact txt_join hl
     ·
      rw[if_pos (by simpa using h0),if_neg h0]
      exact ⟨rfl,fun s hs=>by cases hs⟩
theorem decF_txt {n:Nat} (hn:50000<n) {b o t:Option S} (hb:TxtO b) (ho:TxtO o) (ht:TxtO t):TxtO (decF n b o t).1:=by
 unfold decF
 split
 ·
  exact ho
 ·
  split
  ·
   exact ht
  ·
   split
   ·
    exact ho
   ·
    exact (merged_law hn hb ho ht).2
theorem j45 {out:List GFile} {i:Nat} {x:S} {rec:List GFile→List GTrouble→Int→Option (List GFile×List GTrouble×Int)} {l:List GTrouble} {f:Option S} (hf:TxtO f) (hi:i<100000) (ho:out.length<100000):f_treemerge_Merge_b_J45 out (i:Int) x rec l (encO f).1 (encO f).2=rec (putO x out f) l ((i+1:Nat):Int):=by
 have hlim:2000000≤lim:=by decide
 unfold f_treemerge_Merge_b_J45 putO
 cases f with
 | none =>
  rw[if_neg (by simp[encO]),rng_succ (by omega),bsome]
 | some s =>
  rw[if_pos (by rfl)]
  simp only[encO]
  rw[lmt_ok (txt_le (hf s rfl)),bsome,need_ok (by omega),bsome,rng_succ (by omega),bsome]
theorem putO_len (p:S) (out:List GFile) (f:Option S):(putO p out f).length≤out.length+1:=by
 unfold putO
 cases f <;> simp
theorem merge_L17 {n:Nat} (hn:50000<n) {a b c:List GFile} (ha:a.length<1000) (hb:b.length<1000) (hc:c.length<1000) (ta:∀ p,TxtO (lk a p)) (tb:∀ p,TxtO (lk b p)) (tc:∀ p,TxtO (lk c p)) {ps:List S} (hps:ps.length<1000) :
  ∀ (m k fuel:Nat) (out:List GFile) (l:List GTrouble),ps.length-k=m→k≤ps.length→m<fuel→out.length+m<5000→l.length+m<5000→f_treemerge_Merge_b_L17 n a b c ps fuel out l (k:Int)=some (mgo n (lk a) (lk b) (lk c) (ps.drop k) out l):=by
 intro m
 induction m with
 | zero =>
  intro k fuel out l hm hk hf ho hl
  obtain ⟨fuel,rfl⟩:∃ k,fuel=k+1:=⟨fuel-1,by omega⟩
  rw[f_treemerge_Merge_b_L17.eq_2,if_neg (by simp;omega),List.drop_of_length_le (by omega)]
  unfold mgo
  by_cases h:12<out.length
  ·
   rw[if_pos (by simp;omega),if_pos h]
  ·
   rw[if_neg (by simp;omega),if_neg h]
 | succ m ih =>
  intro k fuel out l hm hk hf ho hl
  have hlim:2000000≤lim:=by decide
  obtain ⟨fuel,rfl⟩:∃ k,fuel=k+1:=⟨fuel-1,by omega⟩
  have hkl:k<ps.length:=by omega
  have go:∀ (f:Option S) (l':List GTrouble),TxtO f→l'.length≤l.length+1→f_treemerge_Merge_b_J45 out (k:Int) ps[k] (fun a100 a101 a102=>f_treemerge_Merge_b_L17 n a b c ps fuel a100 a101 a102) l' (encO f).1 (encO f).2=some (mgo n (lk a) (lk b) (lk c) (ps.drop (k+1)) (putO ps[k] out f) l'):=by
   intro f l' hf' hl'
   have:=putO_len ps[k] out f
   rw[j45 hf' (by omega) (by omega)]
   exact ih (k+1) fuel _ _ (by omega) (by omega) (by omega) (by omega) (by omega)
  have mg:=merged_law hn (ta ps[k]) (tb ps[k]) (tc ps[k])
  have j42:∀ f:Option S,TxtO f→f=(if ¬lk b ps[k]=lk c ps[k]∧lk b ps[k]=lk a ps[k] then lk c ps[k] else lk b ps[k])→f_treemerge_Merge_b_J42 n out l (k:Int) ps[k] (encO (lk a ps[k])) (encO (lk b ps[k])) (encO (lk c ps[k])) (fun a100 a101 a102=>f_treemerge_Merge_b_L17 n a b c ps fuel a100 a101 a102) (encO f).1 (encO f).2=some (mgo n (lk a) (lk b) (lk c) (ps[k]::ps.drop (k+1)) out l):=by
   intro f hf' he
   unfold f_treemerge_Merge_b_J42 mgo decF
   rw[same_law,bsome]
   by_cases h1:lk b ps[k]=lk c ps[k]
   ·
    rw[if_neg (by simp[h1]),if_pos h1]
    simp only
    rw[if_pos trivial]
    have:f=lk b ps[k]:=by rw[he,if_neg (by simp[h1])]
    rw[this]
    refine Eq.trans (go _ l (tb _) (by omega)) ?_
    simp[putL]
   ·
    rw[if_pos (by simp[h1]),same_law,bsome,if_neg h1]
    by_cases h2:lk b ps[k]=lk a ps[k]
    ·
     rw[if_neg (by simp[h2]),if_pos h2]
     simp only
     rw[if_pos trivial]
     have:f=lk c ps[k]:=by rw[he,if_pos ⟨h1,h2⟩]
     rw[this]
     refine Eq.trans (go _ l (tc _) (by omega)) ?_
     simp[putL]
    ·
     have hfb:f=lk b ps[k]:=by rw[he,if_neg (by simp[h2])]
     rw[if_pos (by simp[h2]),same_law,bsome,if_neg h2]
     by_cases h3:lk c ps[k]=lk a ps[k]
     ·
      rw[if_neg (by simp[h3]),if_pos h3]
      simp only
      rw[if_pos trivial,hfb]
      refine Eq.trans (go _ l (tb _) (by omega)) ?_
      simp[putL]
     ·
      rw[if_pos (by simp[h3]),mg.1,bsome,if_neg h3]
      simp only
      by_cases h0:(mrgF n (lk a ps[k]) (lk b ps[k]) (lk c ps[k])).2.2=0
      ·
       rw[if_neg (by simp[h0]),if_pos h0]
       by_cases hk0:(mrgF n (lk a ps[k]) (lk b ps[k]) (lk c ps[k])).2.1=0
       ·
        rw[if_neg (by simp[hk0])]
        refine Eq.trans (go _ l mg.2 (by omega)) ?_
        simp[putL,hk0]
       ·
        rw[if_pos (by simpa using hk0),need_ok (by omega),bsome]
        refine Eq.trans (go _ _ mg.2 (by simp)) ?_
        simp[putL,hk0]
      ·
       rw[if_pos (by simpa using h0),if_neg h0]
  rw[f_treemerge_Merge_b_L17.eq_2,if_pos (by simp;omega),ix_nat hkl,bsome,of_law (by omega) (by omega),bsome,of_law (by omega) (by omega),bsome,of_law (by omega) (by omega),bsome,same_law,bsome,List.drop_eq_getElem_cons hkl]
  by_cases h1:lk b ps[k]=lk c ps[k]
  ·
   rw[if_neg (by simp[h1])]
   exact j42 _ (tb _) (by rw[if_neg (by simp[h1])])
  ·
   rw[if_pos (by simp[h1]),same_law,bsome]
   by_cases h2:lk b ps[k]=lk a ps[k]
   ·
    rw[if_pos (by simp[h2])]
    exact j42 _ (tc _) (by rw[if_pos ⟨h1,h2⟩])
   ·
    rw[if_neg (by simp[h2])]
    exact j42 _ (tb _) (by rw[if_neg (by simp[h2])])
theorem lk_txt {t:List GFile} (hg:Good t) (p:S):TxtO (lk t p):=by
 intro s hs
 unfold lk at hs
 obtain ⟨x,h1,h2⟩:=Option.map_eq_some_iff.1 hs
 rw[←h2]
 exact hg.text x (List.mem_of_find?_eq_some h1)
theorem check_law {n:Nat} (hn:50000<n) {a b c:List GFile} (ha:Good a) (hb:Good b) (hc:Good c):f_treemerge_check n a b c=some 0:=by
 unfold f_treemerge_check
 rw[need_ok (by omega),bsome,f_tree_Check_eq (by omega),bsome,good_iff.2 ha,if_neg (by simp),f_tree_Check_eq (by omega),bsome,good_iff.2 hb,if_neg (by simp),f_tree_Check_eq (by omega),bsome,good_iff.2 hc,if_neg (by simp)]
theorem treemerge_law {n:Nat} (hn:50000<n) {a b c:List GFile} (ha:Good a) (hb:Good b) (hc:Good c):f_treemerge_Merge_b n a b c=some (mgo n (lk a) (lk b) (lk c) (pathsOf a b c) [] []):=by
 have h1:=ha.le
 have h2:=hb.le
 have h3:=hc.le
 have hl:=pathsOf_len a b c
 unfold f_treemerge_Merge_b
 rw[check_law hn ha hb hc,bsome,if_neg (by simp),paths_law (by omega) (by omega) (by omega) (by omega),bsome]
 have:=merge_L17 hn (a:=a) (b:=b) (c:=c) (by omega) (by omega) (by omega) (lk_txt ha) (lk_txt hb) (lk_txt hc) (ps:=pathsOf a b c) (by omega) (pathsOf a b c).length 0 n [] [] rfl (Nat.zero_le _) (by omega) (by simp;omega) (by simp;omega)
 simpa using this
theorem treemerge_paths_law {n:Nat} (hn:50000<n) {a b c:List GFile} (ha:Good a) (hb:Good b) (hc:Good c):f_treemerge_Paths n a b c=some (pathsOf a b c,0):=by
 have h1:=ha.le
 have h2:=hb.le
 have h3:=hc.le
 unfold f_treemerge_Paths
 rw[check_law hn ha hb hc,bsome,if_neg (by simp),paths_law (by omega) (by omega) (by omega) (by omega),bsome]
end Go.Zv.G
