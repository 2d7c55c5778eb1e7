/- Plain laws: what the plain functions say. No condition. -/
import Derived.Test.YtedbfdlgiilapaaGreatDoorLawT2
set_option linter.unusedSimpArgs false
set_option linter.unusedVariables false
namespace Go.Zv.G
open Go Go.Zv Go.Proofs
set_option maxRecDepth 100000
attribute [local simp high] bsome
def mo (f:S→Option S×Int×Int) (ps:List S):List GFile:=ps.filterMap fun p=>(f p).1.map fun s=>⟨p,s⟩
def ml (f:S→Option S×Int×Int) (ps:List S):List GTrouble:=ps.filterMap fun p=>if (f p).2.1=0 then none else some ⟨p,(f p).2.1⟩
def me (f:S→Option S×Int×Int):List S→Int
 | []=>0
 | p::ps=>if (f p).2.2=0 then me f ps else (f p).2.2
theorem mgo_eq {n:Nat} {B O T:S→Option S}:∀ (ps:List S) (out:List GFile) (l:List GTrouble),mgo n B O T ps out l=if me (fun p=>decF n (B p) (O p) (T p)) ps=0 then (if 12<(out++mo (fun p=>decF n (B p) (O p) (T p)) ps).length then ([],[],4) else (out++mo (fun p=>decF n (B p) (O p) (T p)) ps,l++ml (fun p=>decF n (B p) (O p) (T p)) ps,0)) else ([],[],me (fun p=>decF n (B p) (O p) (T p)) ps)
 | [],out,l=>by simp[mgo,me,mo,ml]
 | p::ps,out,l=>by
  unfold mgo me
  by_cases h:(decF n (B p) (O p) (T p)).2.2=0
  ·
   rw[if_pos h,if_pos h,mgo_eq ps]
   have e1:putO p out (decF n (B p) (O p) (T p)).1++mo (fun p=>decF n (B p) (O p) (T p)) ps=out++mo (fun p=>decF n (B p) (O p) (T p)) (p::ps):=by
    unfold mo putO
    rw[List.filterMap_cons]
    cases (decF n (B p) (O p) (T p)).1 <;> simp
   have e2:putL p l (decF n (B p) (O p) (T p)).2.1++ml (fun p=>decF n (B p) (O p) (T p)) ps=l++ml (fun p=>decF n (B p) (O p) (T p)) (p::ps):=by
    unfold ml putL
    rw[List.filterMap_cons]
    by_cases hk:(decF n (B p) (O p) (T p)).2.1=0 <;> simp[hk]
   rw[e1,e2]
  ·
   rw[if_neg h,if_neg h,if_neg h]
theorem lk_cons (x:GFile) (t:List GFile) (p:S):lk (x::t) p=if x.path_=p then some x.text_ else lk t p:=by
 unfold lk
 rw[List.find?_cons]
 by_cases h:x.path_=p
 ·
  rw[if_pos h];simp[h]
 ·
  rw[if_neg h]
  have:(x.path_==p)=false:=by simpa using h
  rw[this]
theorem lk_mo {f:S→Option S×Int×Int}:∀ {ps:List S},ps.Pairwise (fun a b=>a<b)→∀ p,lk (mo f ps) p=if p∈ps then (f p).1 else none
 | [],_,p=>by simp[mo,lk]
 | q::ps,h,p=>by
  obtain ⟨h1,h2⟩:=List.pairwise_cons.1 h
  have ih:=lk_mo (f:=f) h2 p
  unfold mo at ih ⊢
  rw[List.filterMap_cons]
  by_cases hqp:q=p
  ·
   subst hqp
   have hn:q ∉ ps:=fun hm=>s_irrefl _ (h1 q hm)
   rw[if_neg hn] at ih
   rw[if_pos (by simp)]
   cases e:(f q).1 with
   | none=>simpa[e] using ih
   | some s =>
    simp only[Option.map_some]
    rw[lk_cons,if_pos rfl]
  ·
   have hm:p∈q::ps↔p∈ps:=by
    rw[List.mem_cons]
    exact ⟨fun h=>h.resolve_left fun e=>hqp e.symm,.inr⟩
   have he:(if p∈q::ps then (f p).1 else none)=if p∈ps then (f p).1 else none:=by
    by_cases hp:p∈ps
    ·
     rw[if_pos hp,if_pos (hm.2 hp)]
    ·
     rw[if_neg hp,if_neg (fun h=>hp (hm.1 h))]
   rw[he]
   cases e:(f q).1 with
   | none=>simpa[e] using ih
   | some s =>
    simp only[Option.map_some]
    rw[lk_cons,if_neg hqp]
    exact ih
theorem me_congr {f g:S→Option S×Int×Int}:∀ {ps:List S},(∀ p∈ps,(f p).2=(g p).2)→me f ps=me g ps
 | [],_=>rfl
 | p::ps,h=>by
  unfold me
  rw[h p (by simp),me_congr fun q hq=>h q (by simp[hq])]
theorem ml_congr {f g:S→Option S×Int×Int}:∀ {ps:List S},(∀ p∈ps,(f p).2=(g p).2)→ml f ps=ml g ps
 | [],_=>rfl
 | p::ps,h=>by
  have ih:=ml_congr (f:=f) (g:=g) (ps:=ps) fun q hq=>h q (by simp[hq])
  unfold ml at ih ⊢
  rw[List.filterMap_cons,List.filterMap_cons,h p (by simp),ih]
theorem ml_mem {f:S→Option S×Int×Int} {ps:List S} {p:S}:(ml f ps).any (fun x=>x.path_==p)=true↔p∈ps∧(f p).2.1≠0:=by
 rw[List.any_eq_true]
 unfold ml
 constructor
 ·
  rintro ⟨x,hx,he⟩
  obtain ⟨q,hq,h1⟩:=List.mem_filterMap.1 hx
  by_cases h0:(f q).2.1=0
  ·
   rw[if_pos h0] at h1;cases h1
  ·
   rw[if_neg h0] at h1
   have:=Option.some.inj h1
   subst this
   have:q=p:=by simpa using he
   subst this
   exact ⟨hq,h0⟩
 ·
  rintro ⟨h1,h2⟩
  exact ⟨⟨p,(f p).2.1⟩,List.mem_filterMap.2 ⟨p,h1,by rw[if_neg h2]⟩,by simp⟩
theorem decF_swap {n:Nat} (hn:50000<n) {b o t:Option S} (hb:TxtO b) (ho:TxtO o) (ht:TxtO t):(decF n b t o).2=(decF n b o t).2∧((decF n b o t).2.1=0→(decF n b t o).1=(decF n b o t).1):=by
 unfold decF
 by_cases h1:o=t
 ·
  subst h1;simp
 ·
  have h1':¬t=o:=fun e=>h1 e.symm
  rw[if_neg h1,if_neg h1']
  by_cases h2:o=b
  ·
   subst h2
   rw[if_pos rfl,if_neg h1',if_pos rfl]
   exact ⟨rfl,fun _=>rfl⟩
  ·
   rw[if_neg h2,if_neg h2]
   by_cases h3:t=b
   ·
    rw[if_pos h3,if_pos h3]
    exact ⟨rfl,fun _=>rfl⟩
   ·
    rw[if_neg h3,if_neg h3]
    unfold mrgF
    cases b with
    | none=>exact ⟨rfl,fun h=>by cases h⟩
    | some x =>
     cases o with
     | none =>
      cases t with
      | none=>exact absurd rfl h1
      | some z=>exact ⟨rfl,fun h=>by cases h⟩
     | some y =>
      cases t with
      | none=>exact ⟨rfl,fun h=>by cases h⟩
      | some z =>
       have hs:=mres_swap hn (hb x rfl) (ho y rfl) (ht z rfl)
       simp only
       rw[hs]
       by_cases h26:(mres n x y z).2=26
       ·
        rw[if_pos h26,if_pos h26]
        exact ⟨rfl,fun h=>by cases h⟩
       ·
        rw[if_neg h26,if_neg h26]
        exact ⟨rfl,fun _=>rfl⟩
theorem in_law {n:Nat} {l:List GTrouble} {p:S} (hl:l.length<1000000) (hn:l.length<n):f_sidingref22_In n l p=some (l.any fun x=>x.path_==p):=by
 have key:∀ (m i:Nat),l.length<m+i→i≤l.length→f_sidingref22_In_L5 l p m (i:Int)=some ((l.drop i).any fun x=>x.path_==p):=by
  intro m
  induction m with
  | zero=>intro i h1 h2;omega
  | succ m ih =>
   intro i h1 h2
   rw[f_sidingref22_In_L5.eq_2]
   by_cases hi:i<l.length
   ·
    rw[if_pos (by simpa using hi),ix_nat hi,bsome,List.drop_eq_getElem_cons hi,List.any_cons]
    cases e:l[i].path_==p with
    | true=>rw[if_pos rfl];simp
    | false =>
     rw[if_neg (by simp),rng_succ (by omega),bsome]
     simpa using ih (i+1) (by omega) (by omega)
   ·
    rw[if_neg (by simpa using hi),List.drop_of_length_le (by omega)]
    rfl
 have:=key n 0 (by omega) (Nat.zero_le _)
 rw[show ((0:Nat):Int)=0 from rfl,List.drop_zero] at this
 exact this
theorem equal_law {n:Nat} {a b:List GFile} {p:S} (ha:a.length<1000000) (hb:b.length<1000000) (hna:a.length<n) (hnb:b.length<n):f_sidingref22_Equal n a b p=some (decide (lk a p=lk b p)):=by
 unfold f_sidingref22_Equal
 rw[has_law ha hna,bsome,has_law hb hnb,bsome,←encO_inj]
theorem tsame_law {n:Nat} {a b:List GTrouble} (ha:a.length<1000000) (hn:a.length<n):∃ r,f_sidingref22_Same n a b=some r∧(a=b→r=true):=by
 unfold f_sidingref22_Same
 by_cases hl:a.length=b.length
 ·
  rw[if_neg (by simp;omega)]
  have key:∀ (m i:Nat),a.length<m+i→i≤a.length→∃ r,f_sidingref22_Same_L8 a b m (i:Int)=some r∧(a=b→r=true):=by
   intro m
   induction m with
   | zero=>intro i h1 h2;omega
   | succ m ih =>
    intro i h1 h2
    rw[f_sidingref22_Same_L8.eq_2]
    by_cases hi:i<a.length
    ·
     rw[if_pos (by simpa using hi),ix_nat hi,bsome,ix_nat (by omega:i<b.length),bsome]
     by_cases hc:(!(a[i].path_==(b[i]'(by omega)).path_)||!(a[i].kind_==(b[i]'(by omega)).kind_))=true
     ·
      rw[if_pos hc]
      refine ⟨false,rfl,fun e=>?_⟩
      subst e
      simp at hc
     ·
      rw[if_neg hc,rng_succ (by omega),bsome]
      exact ih (i+1) (by omega) (by omega)
    ·
     rw[if_neg (by simpa using hi)]
     exact ⟨true,rfl,fun _=>rfl⟩
  have:=key n 0 (by omega) (Nat.zero_le _)
  rw[show ((0:Nat):Int)=0 from rfl] at this
  exact this
 ·
  rw[if_pos (by simp;omega)]
  exact ⟨false,rfl,fun e=>absurd (by rw[e]) hl⟩
theorem fit_law {n:Nat} (hn:50000<n) (a b c:List GFile):∃ r,f_sidinglaw22_fit n a b c=some r∧(r=true→Good a∧Good b∧Good c):=by
 unfold f_sidinglaw22_fit f_sidinglaw22_long f_sidingref22_Three
 obtain ⟨u,hu,_⟩:=f_sidingref21_Long_eq (n:=n) (by omega) a
 obtain ⟨v,hv,_⟩:=f_sidingref21_Long_eq (n:=n) (by omega) b
 obtain ⟨w,hw,_⟩:=f_sidingref21_Long_eq (n:=n) (by omega) c
 rw[hu,bsome]
 cases u with
 | true=>exact ⟨false,by simp,by simp⟩
 | false =>
  rw[if_neg (by simp),hv,bsome]
  cases v with
  | true=>exact ⟨false,by simp,by simp⟩
  | false =>
   rw[if_neg (by simp),hw,bsome,bsome]
   cases w with
   | true=>exact ⟨false,by simp,by simp⟩
   | false =>
    rw[if_pos (by simp),f_sidingref21_Check_eq (by omega),bsome]
    by_cases h1:chk a=0
    ·
     rw[if_neg (by simp[h1]),f_sidingref21_Check_eq (by omega),bsome]
     by_cases h2:chk b=0
     ·
      rw[if_neg (by simp[h2]),f_sidingref21_Check_eq (by omega),bsome,bsome]
      exact ⟨_,rfl,fun h=>⟨good_iff.1 h1,good_iff.1 h2,good_iff.1 (by simpa using h)⟩⟩
     ·
      rw[if_pos (by simpa using h2),bsome,bsome]
      exact ⟨_,rfl,fun h=>absurd (by simpa using h) h2⟩
    ·
     rw[if_pos (by simpa using h1),bsome,bsome]
     exact ⟨_,rfl,fun h=>absurd (by simpa using h) h1⟩
end Go.Zv.G
namespace Go.Zv.G
open Go Go.Zv Go.Proofs
set_option maxRecDepth 100000
attribute [local simp high] bsome
theorem mo_len (f:S→Option S×Int×Int) (ps:List S):(mo f ps).length≤ps.length:=List.length_filterMap_le _ _
theorem ml_len (f:S→Option S×Int×Int) (ps:List S):(ml f ps).length≤ps.length:=List.length_filterMap_le _ _
theorem merge_cases {n:Nat} (hn:50000<n) {a b c:List GFile} (ha:Good a) (hb:Good b) (hc:Good c) :
  let f:=fun p=>decF n (lk a p) (lk b p) (lk c p)
  let ps:=pathsOf a b c
  f_treemerge_Merge_b n a b c=some (if me f ps=0 then (if 12<(mo f ps).length then ([],[],4) else (mo f ps,ml f ps,0)) else ([],[],me f ps)):=by
 intro f ps
 rw[treemerge_law hn ha hb hc,mgo_eq]
 simp only[List.nil_append]
 rfl
theorem turns_L33 {n:Nat} (hn:50000<n) {t u:List GFile} {l m:List GTrouble} {e1 e2 e3:Int} {ps:List S} (hps:ps.length<1000) (ht:t.length<1000) (hu:u.length<1000) (hl:l.length<1000) (hlm:l=m) (hp:∀ p∈ps,(l.any fun x=>x.path_==p)=false→lk t p=lk u p):∀ (k i fuel:Nat),ps.length-i=k→i≤ps.length→k<fuel →
  f_sidinglaw22_TreemergeTurns_L33 n true (t,l,e1) (u,m,e2) (ps,e3) fuel (i:Int)=some true:=by
 intro k
 induction k with
 | zero =>
  intro i fuel hk hi hf
  obtain ⟨fuel,rfl⟩:∃ k,fuel=k+1:=⟨fuel-1,by omega⟩
  obtain ⟨r,h1,h2⟩:=tsame_law (n:=n) (a:=l) (b:=m) (by omega) (by omega)
  rw[f_sidinglaw22_TreemergeTurns_L33.eq_2,if_neg (by simp;omega),if_pos rfl]
  simp only
  rw[h1,bsome,h2 hlm]
 | succ k ih =>
  intro i fuel hk hi hf
  obtain ⟨fuel,rfl⟩:∃ k,fuel=k+1:=⟨fuel-1,by omega⟩
  have hil:i<ps.length:=by omega
  rw[f_sidinglaw22_TreemergeTurns_L33.eq_2,if_pos (by simp;omega)]
  simp only
  rw[ix_nat hil,bsome,in_law (by omega) (by omega),bsome]
  cases e:(l.any fun x=>x.path_==ps[i]) with
  | true =>
   rw[if_neg (by simp),rng_succ (by omega),bsome]
   exact ih (i+1) fuel (by omega) (by omega) (by omega)
  | false =>
   rw[if_pos (by simp),equal_law (by omega) (by omega) (by omega) (by omega),bsome,if_neg (by simpa using hp _ (List.getElem_mem hil) e),rng_succ (by omega),bsome]
   exact ih (i+1) fuel (by omega) (by omega) (by omega)
theorem law_TreemergeTurns {n:Nat} (hn:50000<n) (hal:f_sidinglaw22_alive n=some true) (a b c:List GFile):f_sidinglaw22_TreemergeTurns n a b c=some true:=by
 unfold f_sidinglaw22_TreemergeTurns
 obtain ⟨r,hr,hg⟩:=fit_law hn a b c
 rw[hal,bsome,hr,bsome]
 cases r with
 | false=>rw[if_pos (by simp)]
 | true =>
  obtain ⟨ha,hb,hc⟩:=hg rfl
  have la:=ha.le
  have lb:=hb.le
  have lc:=hc.le
  have hpl:=pathsOf_len a b c
  rw[if_neg (by simp),merge_cases hn ha hb hc,bsome,merge_cases hn ha hc hb,bsome,treemerge_paths_law hn ha hb hc,bsome,if_neg (by simp)]
  have hsw:∀ p,(decF n (lk a p) (lk c p) (lk b p)).2=(decF n (lk a p) (lk b p) (lk c p)).2∧_:=fun p=>decF_swap hn (lk_txt ha p) (lk_txt hb p) (lk_txt hc p)
  have hpe:pathsOf a c b=pathsOf a b c:=pathsOf_swap a b c
  have hme:me (fun p=>decF n (lk a p) (lk c p) (lk b p)) (pathsOf a c b)=me (fun p=>decF n (lk a p) (lk b p) (lk c p)) (pathsOf a b c):=by
   rw[hpe];exact me_congr fun p _=>(hsw p).1
  have hml:ml (fun p=>decF n (lk a p) (lk c p) (lk b p)) (pathsOf a c b)=ml (fun p=>decF n (lk a p) (lk b p) (lk c p)) (pathsOf a b c):=by
   rw[hpe];exact ml_congr fun p _=>(hsw p).1
  rw[hme,hml]
  have hm1:=mo_len (fun p=>decF n (lk a p) (lk b p) (lk c p)) (pathsOf a b c)
  have hm2:=mo_len (fun p=>decF n (lk a p) (lk c p) (lk b p)) (pathsOf a c b)
  have hm3:=ml_len (fun p=>decF n (lk a p) (lk b p) (lk c p)) (pathsOf a b c)
  rw[hpe] at hm2
  have hlk1:∀ p∈pathsOf a b c,lk (mo (fun p=>decF n (lk a p) (lk b p) (lk c p)) (pathsOf a b c)) p=(decF n (lk a p) (lk b p) (lk c p)).1:=fun p hp=>by
   rw[lk_mo (pathsOf_sorted a b c),if_pos hp]
  have hlk2:∀ p∈pathsOf a b c,lk (mo (fun p=>decF n (lk a p) (lk c p) (lk b p)) (pathsOf a c b)) p=(decF n (lk a p) (lk c p) (lk b p)).1:=fun p hp=>by
   rw[hpe,lk_mo (pathsOf_sorted a b c),if_pos hp]
  generalize hM:me (fun p=>decF n (lk a p) (lk b p) (lk c p)) (pathsOf a b c)=M
  generalize hT:mo (fun p=>decF n (lk a p) (lk b p) (lk c p)) (pathsOf a b c)=T at hm1 hlk1
  generalize hU:mo (fun p=>decF n (lk a p) (lk c p) (lk b p)) (pathsOf a c b)=U at hm2 hlk2
  by_cases h0:M=0
  ·
   rw[if_pos h0,if_pos h0]
   by_cases h1:12<T.length
   ·
    rw[if_pos h1]
    by_cases h2:12<U.length
    ·
     rw[if_pos h2];simp
    ·
     rw[if_neg h2];simp
   ·
    rw[if_neg h1]
    by_cases h2:12<U.length
    ·
     rw[if_pos h2];simp
    ·
     rw[if_neg h2,if_neg (by simp)]
     have:=turns_L33 hn (t:=T) (u:=U) (l:=ml (fun p=>decF n (lk a p) (lk b p) (lk c p)) (pathsOf a b c)) (m:=ml (fun p=>decF n (lk a p) (lk b p) (lk c p)) (pathsOf a b c)) (e1:=0) (e2:=0) (e3:=0) (ps:=pathsOf a b c) (by omega) (by omega) (by omega) (by omega) rfl
      (fun p hp hin=>by
       rw[hlk1 p hp,hlk2 p hp]
       refine ((hsw p).2 ?_).symm
       by_cases hk:(decF n (lk a p) (lk b p) (lk c p)).2.1=0
       ·
        exact hk
       ·
        have:=(ml_mem (f:=fun p=>decF n (lk a p) (lk b p) (lk c p)) (ps:=pathsOf a b c) (p:=p)).2 ⟨hp,hk⟩
        rw[hin] at this
        cases this)
      (pathsOf a b c).length 0 n rfl (Nat.zero_le _) (by omega)
     exact this
  ·
   rw[if_neg h0,if_neg h0,if_pos (by simp[h0])]
   simp
end Go.Zv.G
