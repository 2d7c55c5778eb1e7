/- Plain laws: what the plain functions say. No condition. -/
import Derived.Test.YtedbfdlgiilapaaGreatDoorLawL2
set_option linter.unusedSimpArgs false
set_option linter.unusedVariables false
namespace Go.Zv.G
open Go Go.Zv Go.Proofs
set_option maxRecDepth 100000
attribute [local simp high] bsome
def mo (f:S→Option S×Int×Int) (ps:List S):List GFile:=ps.filterMap fun p=>(f p).1.map fun s=>⟨p,s⟩
def ml (f:S→Option S×Int×Int) (ps:List S):List GTrouble:=ps.filterMap fun p=>if (f p).2.1=0 then none else some ⟨p,(f p).2.1⟩
def me (f:S→Option S×Int×Int):List S→Int
 | []=>0
 | p::ps=>if (f p).2.2=0 then me f ps else (f p).2.2
theorem mgo_eq {n:Nat} {B O T:S→Option S}:∀ (ps:List S) (out:List GFile) (l:List GTrouble),mgo n B O T ps out l=if me (fun p=>decF n (B p) (O p) (T p)) ps=0 then (if 12<(out++mo (fun p=>decF n (B p) (O p) (T p)) ps).length then ([],[],4) else (out++mo (fun p=>decF n (B p) (O p) (T p)) ps,l++ml (fun p=>decF n (B p) (O p) (T p)) ps,0)) else ([],[],me (fun p=>decF n (B p) (O p) (T p)) ps)
 | [],out,l=>by simp[mgo,me,mo,ml]
 | p::ps,out,l=>by
  unfold mgo me
  by_cases h:(decF n (B p) (O p) (T p)).2.2=0
  ·
   rw[if_pos h,if_pos h,mgo_eq ps]
   have e1:putO p out (decF n (B p) (O p) (T p)).1++mo (fun p=>decF n (B p) (O p) (T p)) ps=out++mo (fun p=>decF n (B p) (O p) (T p)) (p::ps):=by
    unfold mo putO
    rw[List.filterMap_cons]
    cases (decF n (B p) (O p) (T p)).1 <;> simp
   have e2:putL p l (decF n (B p) (O p) (T p)).2.1++ml (fun p=>decF n (B p) (O p) (T p)) ps=l++ml (fun p=>decF n (B p) (O p) (T p)) (p::ps):=by
    unfold ml putL
    rw[List.filterMap_cons]
    by_cases hk:(decF n (B p) (O p) (T p)).2.1=0 <;> simp[hk]
   rw[e1,e2]
  ·
   rw[if_neg h,if_neg h,if_neg h]
theorem lk_cons (x:GFile) (t:List GFile) (p:S):lk (x::t) p=if x.path_=p then some x.text_ else lk t p:=by
 unfold lk
 rw[List.find?_cons]
 by_cases h:x.path_=p
 ·
  rw[if_pos h];simp[h]
 ·
  rw[if_neg h]
  have:(x.path_==p)=false:=by simpa using h
  rw[this]
theorem lk_none {t:List GFile} {p:S} (h:∀ x∈t,x.path_≠p):lk t p=none:=by
 unfold lk
 rw[find_none h];rfl
theorem mo_mem {f:S→Option S×Int×Int} {ps:List S} {x:GFile}:x∈mo f ps↔x.path_∈ps∧(f x.path_).1=some x.text_:=by
 unfold mo
 rw[List.mem_filterMap]
 constructor
 ·
  rintro ⟨p,hp,he⟩
  obtain ⟨s,h1,h2⟩:=Option.map_eq_some_iff.1 he
  subst h2
  exact ⟨hp,h1⟩
 ·
  rintro ⟨h1,h2⟩
  exact ⟨x.path_,h1,by rw[h2];rfl⟩
theorem lk_mo {f:S→Option S×Int×Int}:∀ {ps:List S},ps.Pairwise (fun a b=>a<b)→∀ p,lk (mo f ps) p=if p∈ps then (f p).1 else none
 | [],_,p=>by simp[mo,lk]
 | q::ps,h,p=>by
  obtain ⟨h1,h2⟩:=List.pairwise_cons.1 h
  have ih:=lk_mo (f:=f) h2 p
  unfold mo at ih ⊢
  rw[List.filterMap_cons]
  by_cases hqp:q=p
  ·
   subst hqp
   have hn:q ∉ ps:=fun hm=>s_irrefl _ (h1 q hm)
   rw[if_neg hn] at ih
   rw[if_pos (by simp)]
   cases e:(f q).1 with
   | none=>simpa[e] using ih
   | some s =>
    simp only[Option.map_some]
    rw[lk_cons,if_pos rfl]
  ·
   have hm:p∈q::ps↔p∈ps:=by
    rw[List.mem_cons]
    exact ⟨fun h=>h.resolve_left fun e=>hqp e.symm,.inr⟩
   have he:(if p∈q::ps then (f p).1 else none)=if p∈ps then (f p).1 else none:=by
    by_cases hp:p∈ps
    ·
     rw[if_pos hp,if_pos (hm.2 hp)]
    ·
     rw[if_neg hp,if_neg (fun h=>hp (hm.1 h))]
   rw[he]
   cases e:(f q).1 with
   | none=>simpa[e] using ih
   | some s =>
    simp only[Option.map_some]
    rw[lk_cons,if_neg hqp]
    exact ih
theorem mo_sorted {f:S→Option S×Int×Int}:∀ {ps:List S},ps.Pairwise (fun a b=>a<b)→Sorted (mo f ps)
 | [],_=>by simp[mo]
 | q::ps,h=>by
  obtain ⟨h1,h2⟩:=List.pairwise_cons.1 h
  have ih:=mo_sorted (f:=f) h2
  have hm:∀ x∈mo f ps,q<x.path_:=fun x hx=>h1 _ (mo_mem.1 hx).1
  unfold mo at ih hm ⊢
  rw[List.filterMap_cons]
  cases e:(f q).1 with
  | none=>simpa[e] using ih
  | some s =>
   simp only[Option.map_some]
   exact List.pairwise_cons.2 ⟨hm,ih⟩
theorem sorted_ext:∀ {s t:List GFile},Sorted s→Sorted t→(∀ p,lk s p=lk t p)→s=t
 | [],[],_,_,_=>rfl
 | [],y::t,_,_,h=>by
  have:=h y.path_
  rw[lk_cons,if_pos rfl] at this
  simp[lk] at this
 | x::s,[],_,_,h=>by
  have:=h x.path_
  rw[lk_cons,if_pos rfl] at this
  simp[lk] at this
 | x::s,y::t,hs,ht,h=>by
  obtain ⟨s1,s2⟩:=List.pairwise_cons.1 hs
  obtain ⟨t1,t2⟩:=List.pairwise_cons.1 ht
  have nx:lk s x.path_=none:=lk_none fun z hz e=>by have:=s1 z hz;rw[e] at this;exact s_irrefl _ this
  have ny:lk t y.path_=none:=lk_none fun z hz e=>by have:=t1 z hz;rw[e] at this;exact s_irrefl _ this
  have hxy:x.path_=y.path_:=by
   rcases s_tri x.path_ y.path_ with h1 | h1 | h1
   ·
    have:=h x.path_
    rw[lk_cons,if_pos rfl,lk_cons,if_neg (fun e=>by rw[e] at h1;exact s_irrefl _ h1),lk_none fun z hz e=>by have:=s_trans h1 (t1 z hz);rw[e] at this;exact s_irrefl _ this] at this
    cases this
   ·
    exact h1
   ·
    have:=h y.path_
    rw[lk_cons (x:=y),if_pos rfl,lk_cons,if_neg (fun e=>by rw[e] at h1;exact s_irrefl _ h1),lk_none fun z hz e=>by have:=s_trans h1 (s1 z hz);rw[e] at this;exact s_irrefl _ this] at this
    cases this
  have htx:x.text_=y.text_:=by
   have:=h x.path_
   rw[lk_cons,if_pos rfl,lk_cons,if_pos hxy.symm] at this
   exact Option.some.inj this
  have hxe:x=y:=by
   cases x;cases y
   simp only at hxy htx
   rw[hxy,htx]
  subst hxe
  congr 1
  refine sorted_ext s2 t2 fun p=>?_
  have:=h p
  rw[lk_cons,lk_cons] at this
  by_cases hp:x.path_=p
  ·
   subst hp;rw[nx,ny]
  ·
   rwa [if_neg hp,if_neg hp] at this
theorem lk_some {t:List GFile} {p s:S} (h:lk t p=some s):∃ x∈t,x.path_=p∧x.text_=s:=by
 unfold lk at h
 obtain ⟨x,h1,h2⟩:=Option.map_eq_some_iff.1 h
 exact ⟨x,List.mem_of_find?_eq_some h1,by simpa using List.find?_some h1,h2⟩
theorem in_paths {a b c:List GFile} {p:S} (h:lk a p≠none∨lk b p≠none∨lk c p≠none):p∈pathsOf a b c:=by
 have key:∀ {t:List GFile},lk t p≠none→∃ x∈t,x.path_=p:=by
  intro t ht
  obtain ⟨s,hs⟩:=Option.ne_none_iff_exists'.1 ht
  obtain ⟨x,hx,h1,_⟩:=lk_some hs
  exact ⟨x,hx,h1⟩
 rw[mem_pathsOf]
 rcases h with h | h | h
 ·
  exact .inl (key h)
 ·
  exact .inr (.inl (key h))
 ·
  exact .inr (.inr (key h))
theorem me_zero {f:S→Option S×Int×Int}:∀ {ps:List S},(∀ p∈ps,(f p).2.2=0)→me f ps=0
 | [],_=>rfl
 | p::ps,h=>by
  unfold me
  rw[if_pos (h p (by simp))]
  exact me_zero fun q hq=>h q (by simp[hq])
theorem me_cases {f:S→Option S×Int×Int}:∀ {ps:List S},me f ps=0∨∃ p∈ps,me f ps=(f p).2.2∧(f p).2.2≠0
 | []=>.inl rfl
 | p::ps=>by
  unfold me
  by_cases h:(f p).2.2=0
  ·
   rw[if_pos h]
   rcases me_cases (f:=f) (ps:=ps) with h1 | ⟨q,hq,h1,h2⟩
   ·
    exact .inl h1
   ·
    exact .inr ⟨q,by simp[hq],h1,h2⟩
  ·
   rw[if_neg h]
   exact .inr ⟨p,by simp,rfl,h⟩
theorem ml_nil {f:S→Option S×Int×Int}:∀ {ps:List S},(∀ p∈ps,(f p).2.1=0)→ml f ps=[]
 | [],_=>rfl
 | p::ps,h=>by
  have ih:=ml_nil (f:=f) (ps:=ps) fun q hq=>h q (by simp[hq])
  unfold ml at ih ⊢
  rw[List.filterMap_cons,if_pos (h p (by simp)),ih]
theorem ml_mem {f:S→Option S×Int×Int} {ps:List S} {p:S}:(ml f ps).any (fun x=>x.path_==p)=true↔p∈ps∧(f p).2.1≠0:=by
 rw[List.any_eq_true]
 unfold ml
 constructor
 ·
  rintro ⟨x,hx,he⟩
  obtain ⟨q,hq,h1⟩:=List.mem_filterMap.1 hx
  by_cases h0:(f q).2.1=0
  ·
   rw[if_pos h0] at h1;cases h1
  ·
   rw[if_neg h0] at h1
   have:=Option.some.inj h1
   subst this
   have:q=p:=by simpa using he
   subst this
   exact ⟨hq,h0⟩
 ·
  rintro ⟨h1,h2⟩
  exact ⟨⟨p,(f p).2.1⟩,List.mem_filterMap.2 ⟨p,h1,by rw[if_neg h2]⟩,by simp⟩
theorem decF_err {n:Nat} (hn:50000<n) {b o t:Option S} (hb:TxtO b) (ho:TxtO o) (ht:TxtO t):(decF n b o t).2.2=0∨(decF n b o t).2.2=4∨(decF n b o t).2.2=8:=by
 unfold decF
 split
 ·
  exact .inl rfl
 ·
  split
  ·
   exact .inl rfl
  ·
   split
   ·
    exact .inl rfl
   ·
    unfold mrgF
    cases b with
    | none=>exact .inl rfl
    | some x =>
     cases o with
     | none=>exact .inl rfl
     | some y =>
      cases t with
      | none=>exact .inl rfl
      | some z =>
       simp only
       rcases mres_cases hn (hb x rfl) (ho y rfl) (ht z rfl) with ⟨h,_⟩ | ⟨h,_⟩ | ⟨h,_⟩ | ⟨h,_⟩
       ·
        rw[h];simp
       ·
        rw[h];simp
       ·
        rw[h];simp
       ·
        rw[h];simp
theorem decF_in {n:Nat} {b o t:Option S} (h:(decF n b o t).2.1≠0):(decF n b o t).1=o∧o≠t∧o≠b∧t≠b:=by
 unfold decF at h ⊢
 by_cases h1:o=t
 ·
  rw[if_pos h1] at h;exact absurd rfl h
 ·
  rw[if_neg h1] at h ⊢
  by_cases h2:o=b
  ·
   rw[if_pos h2] at h;exact absurd rfl h
  ·
   rw[if_neg h2] at h ⊢
   by_cases h3:t=b
   ·
    rw[if_pos h3] at h;exact absurd rfl h
   ·
    rw[if_neg h3] at h ⊢
    refine ⟨?_,h1,h2,h3⟩
    unfold mrgF at h ⊢
    split
    ·
     rfl
    ·
     rfl
    ·
     rfl
    ·
     rename_i x y z
     simp only at h ⊢
     by_cases h26:(mres n x y z).2=26
     ·
      rw[if_pos h26]
     ·
      rw[if_neg h26] at h
      split at h
      ·
       exact absurd rfl h
      ·
       exact absurd rfl h
theorem in_law {n:Nat} {l:List GTrouble} {p:S} (hl:l.length<1000000) (hn:l.length<n):f_sidingref22_In n l p=some (l.any fun x=>x.path_==p):=by
 have key:∀ (m i:Nat),l.length<m+i→i≤l.length→f_sidingref22_In_L5 l p m (i:Int)=some ((l.drop i).any fun x=>x.path_==p):=by
  intro m
  induction m with
  | zero=>intro i h1 h2;omega
  | succ m ih =>
   intro i h1 h2
   rw[f_sidingref22_In_L5.eq_2]
   by_cases hi:i<l.length
   ·
    rw[if_pos (by simpa using hi),ix_nat hi,bsome,List.drop_eq_getElem_cons hi,List.any_cons]
    cases e:l[i].path_==p with
    | true=>rw[if_pos rfl];simp
    | false =>
     rw[if_neg (by simp),rng_succ (by omega),bsome]
     simpa using ih (i+1) (by omega) (by omega)
   ·
    rw[if_neg (by simpa using hi),List.drop_of_length_le (by omega)]
    rfl
 have:=key n 0 (by omega) (Nat.zero_le _)
 rw[show ((0:Nat):Int)=0 from rfl,List.drop_zero] at this
 exact this
theorem equal_law {n:Nat} {a b:List GFile} {p:S} (ha:a.length<1000000) (hb:b.length<1000000) (hna:a.length<n) (hnb:b.length<n):f_sidingref22_Equal n a b p=some (decide (lk a p=lk b p)):=by
 unfold f_sidingref22_Equal
 rw[has_law ha hna,bsome,has_law hb hnb,bsome,←encO_inj]
theorem fit_law {n:Nat} (hn:50000<n) (a b c:List GFile):∃ r,f_sidinglaw22_fit n a b c=some r∧(r=true→Good a∧Good b∧Good c):=by
 unfold f_sidinglaw22_fit f_sidinglaw22_long f_sidingref22_Three
 obtain ⟨u,hu,_⟩:=f_sidingref21_Long_eq (n:=n) (by omega) a
 obtain ⟨v,hv,_⟩:=f_sidingref21_Long_eq (n:=n) (by omega) b
 obtain ⟨w,hw,_⟩:=f_sidingref21_Long_eq (n:=n) (by omega) c
 rw[hu,bsome]
 cases u with
 | true=>exact ⟨false,by simp,by simp⟩
 | false =>
  rw[if_neg (by simp),hv,bsome]
  cases v with
  | true=>exact ⟨false,by simp,by simp⟩
  | false =>
   rw[if_neg (by simp),hw,bsome,bsome]
   cases w with
   | true=>exact ⟨false,by simp,by simp⟩
   | false =>
    rw[if_pos (by simp),f_sidingref21_Check_eq (by omega),bsome]
    by_cases h1:chk a=0
    ·
     rw[if_neg (by simp[h1]),f_sidingref21_Check_eq (by omega),bsome]
     by_cases h2:chk b=0
     ·
      rw[if_neg (by simp[h2]),f_sidingref21_Check_eq (by omega),bsome,bsome]
      exact ⟨_,rfl,fun h=>⟨good_iff.1 h1,good_iff.1 h2,good_iff.1 (by simpa using h)⟩⟩
     ·
      rw[if_pos (by simpa using h2),bsome,bsome]
      exact ⟨_,rfl,fun h=>absurd (by simpa using h) h2⟩
    ·
     rw[if_pos (by simpa using h1),bsome,bsome]
     exact ⟨_,rfl,fun h=>absurd (by simpa using h) h1⟩
end Go.Zv.G
namespace Go.Zv.G
open Go Go.Zv Go.Proofs
set_option maxRecDepth 100000
attribute [local simp high] bsome
theorem mo_len (f:S→Option S×Int×Int) (ps:List S):(mo f ps).length≤ps.length:=List.length_filterMap_le _ _
theorem ml_len (f:S→Option S×Int×Int) (ps:List S):(ml f ps).length≤ps.length:=List.length_filterMap_le _ _
theorem decF_same {n:Nat} {b o t:Option S}:(t=b→decF n b o t=(o,0,0))∧(o=b→decF n b o t=(t,0,0))∧(o=t→decF n b o t=(o,0,0)):=by
 unfold decF
 refine ⟨fun h=>?_,fun h=>?_,fun h=>by rw[if_pos h]⟩
 ·
  subst h
  by_cases h1:o=t
  ·
   rw[if_pos h1]
  ·
   rw[if_neg h1,if_neg h1,if_pos rfl]
 ·
  subst h
  by_cases h1:o=t
  ·
   rw[if_pos h1,h1]
  ·
   rw[if_neg h1,if_pos rfl]
theorem merge_cases {n:Nat} (hn:50000<n) {a b c:List GFile} (ha:Good a) (hb:Good b) (hc:Good c) :
  let f:=fun p=>decF n (lk a p) (lk b p) (lk c p)
  let ps:=pathsOf a b c
  f_treemerge_Merge_b n a b c=some (if me f ps=0 then (if 12<(mo f ps).length then ([],[],4) else (mo f ps,ml f ps,0)) else ([],[],me f ps)):=by
 intro f ps
 rw[treemerge_law hn ha hb hc,mgo_eq]
 simp only[List.nil_append]
 rfl
end Go.Zv.G
namespace Go.Zv.G
open Go Go.Zv Go.Proofs
set_option maxRecDepth 100000
attribute [local simp high] bsome
theorem has_true {n:Nat} {l:List S} {p:S} (hl:l.length<1000000) (hn:l.length<n) (h:p∈l):f_sidinglaw22_has n l p=some true:=by
 have key:∀ (m i:Nat),l.length<m+i→i≤l.length→f_sidinglaw22_has_L5 l p m (i:Int)=some ((l.drop i).any fun x=>x==p):=by
  intro m
  induction m with
  | zero=>intro i h1 h2;omega
  | succ m ih =>
   intro i h1 h2
   rw[f_sidinglaw22_has_L5.eq_2]
   by_cases hi:i<l.length
   ·
    rw[if_pos (by simpa using hi),ix_nat hi,bsome,List.drop_eq_getElem_cons hi,List.any_cons]
    cases e:l[i]==p with
    | true=>rw[if_pos rfl];simp
    | false =>
     rw[if_neg (by simp),rng_succ (by omega),bsome]
     simpa using ih (i+1) (by omega) (by omega)
   ·
    rw[if_neg (by simpa using hi),List.drop_of_length_le (by omega)]
    rfl
 have:=key n 0 (by omega) (Nat.zero_le _)
 rw[show ((0:Nat):Int)=0 from rfl,List.drop_zero] at this
 unfold f_sidinglaw22_has
 rw[this]
 have:(l.any fun x=>x==p)=true:=by
  rw[List.any_eq_true]
  exact ⟨p,h,by simp⟩
 rw[this]
theorem gives_law {n:Nat} (hn:50000<n) {a b c w:List GFile} (ha:Good a) (hb:Good b) (hc:Good c) (hw:Good w) (hf:∀ p,decF n (lk a p) (lk b p) (lk c p)=(lk w p,0,0)) (hin:∀ p,lk w p≠none→p∈pathsOf a b c):f_sidinglaw22_gives n a b c w=some true:=by
 have hwl:=hw.le
 have hm0:me (fun p=>decF n (lk a p) (lk b p) (lk c p)) (pathsOf a b c)=0:=me_zero fun p _=>by
  show (decF n (lk a p) (lk b p) (lk c p)).2.2=0
  rw[hf p]
 have hl0:ml (fun p=>decF n (lk a p) (lk b p) (lk c p)) (pathsOf a b c)=[]:=ml_nil fun p _=>by
  show (decF n (lk a p) (lk b p) (lk c p)).2.1=0
  rw[hf p]
 have ho:mo (fun p=>decF n (lk a p) (lk b p) (lk c p)) (pathsOf a b c)=w:=by
  refine sorted_ext (mo_sorted (pathsOf_sorted a b c)) hw.sorted fun p=>?_
  rw[lk_mo (pathsOf_sorted a b c)]
  by_cases hp:p∈pathsOf a b c
  ·
   rw[if_pos hp,hf p]
  ·
   rw[if_neg hp]
   cases e:lk w p with
   | none=>rfl
   | some s=>exact absurd (hin p (by rw[e];simp)) hp
 obtain ⟨r,h1,h2⟩:=f_sidingref21_Same_iff (n:=n) w w (by omega) (by omega)
 unfold f_sidinglaw22_gives
 rw[merge_cases hn ha hb hc,hm0,hl0,ho,if_pos rfl,if_neg (by omega),bsome,if_pos (by simp),if_pos (by simp),h1,bsome,h2.2 rfl]
theorem laws_L287 {n:Nat} (hn:50000<n) {a b c T:List GFile} {l:List GTrouble} {e1 e3:Int} {ps:List S} (hps:ps.length<1000) (hT:T.length<1000) (hin:∀ x∈T,x.path_∈ps)
  (g1:f_sidinglaw22_gives n a a c c=some true) (g2:f_sidinglaw22_gives n a b a b=some true) (g3:f_sidinglaw22_gives n a b b b=some true):∀ (k i fuel:Nat),T.length-i=k→i≤T.length→k<fuel →
  f_sidinglaw22_TreemergeLaws_L287 n a b c true (T,l,e1) (ps,e3) fuel (i:Int)=some true:=by
 intro k
 induction k with
 | zero =>
  intro i fuel hk hi hf
  obtain ⟨fuel,rfl⟩:∃ k,fuel=k+1:=⟨fuel-1,by omega⟩
  rw[f_sidinglaw22_TreemergeLaws_L287.eq_2,if_neg (by simp;omega),if_pos rfl,g1,bsome,if_pos rfl,g2,bsome,if_pos rfl,g3,bsome]
 | succ k ih =>
  intro i fuel hk hi hf
  obtain ⟨fuel,rfl⟩:∃ k,fuel=k+1:=⟨fuel-1,by omega⟩
  have hil:i<T.length:=by omega
  rw[f_sidinglaw22_TreemergeLaws_L287.eq_2,if_pos (by simp;omega)]
  simp only
  rw[ix_nat hil,bsome,has_true (by omega) (by omega) (hin _ (List.getElem_mem hil)),bsome,if_neg (by simp),rng_succ (by omega),bsome]
  exact ih (i+1) fuel (by omega) (by omega) (by omega)
structure AtP (T a b c:List GFile) (l:List GTrouble) (p:S):Prop where
 th:lk c p=lk a p→(l.any fun x=>x.path_==p)=false∧lk T p=lk b p
 we:lk b p=lk a p→(l.any fun x=>x.path_==p)=false∧lk T p=lk c p
 both:lk b p=lk c p→(l.any fun x=>x.path_==p)=false∧lk T p=lk b p
 in_:(l.any fun x=>x.path_==p)=true→lk T p=lk b p
theorem laws_L42 {n:Nat} (hn:50000<n) {a b c T:List GFile} {l:List GTrouble} {e1 e3:Int} {ps:List S} (hps:ps.length<1000) (hT:T.length<1000) (ha:a.length<1000) (hb:b.length<1000) (hc:c.length<1000) (hl:l.length<1000) (hs:ps.Pairwise fun a b=>a<b) (hp:∀ p∈ps,AtP T a b c l p):∀ (k i fuel:Nat),ps.length-i=k→i≤ps.length→k<fuel →
  f_sidinglaw22_TreemergeLaws_L42 n a b c true (T,l,e1) (ps,e3) fuel (i:Int)=f_sidinglaw22_TreemergeLaws_L287 n a b c true (T,l,e1) (ps,e3) n 0:=by
 intro k
 induction k with
 | zero =>
  intro i fuel hk hi hf
  obtain ⟨fuel,rfl⟩:∃ k,fuel=k+1:=⟨fuel-1,by omega⟩
  rw[f_sidinglaw22_TreemergeLaws_L42.eq_2,if_neg (by simp;omega)]
 | succ k ih =>
  intro i fuel hk hi hf
  obtain ⟨fuel,rfl⟩:∃ k,fuel=k+1:=⟨fuel-1,by omega⟩
  have hil:i<ps.length:=by omega
  have hat:=hp _ (List.getElem_mem hil)
  have q1:=in_law (n:=n) (l:=l) (p:=ps[i]) (by omega) (by omega)
  have q2:=equal_law (n:=n) (a:=b) (b:=a) (p:=ps[i]) (by omega) (by omega) (by omega) (by omega)
  have q3:=equal_law (n:=n) (a:=c) (b:=a) (p:=ps[i]) (by omega) (by omega) (by omega) (by omega)
  have q4:=equal_law (n:=n) (a:=T) (b:=b) (p:=ps[i]) (by omega) (by omega) (by omega) (by omega)
  have q5:=equal_law (n:=n) (a:=T) (b:=c) (p:=ps[i]) (by omega) (by omega) (by omega) (by omega)
  have q6:=equal_law (n:=n) (a:=b) (b:=c) (p:=ps[i]) (by omega) (by omega) (by omega) (by omega)
  have qn:rng ((i:Int)+1)=some ((i+1:Nat):Int):=rng_succ (by omega)
  have ih':=ih (i+1) fuel (by omega) (by omega) (by omega)
  have hx:ix ps (i:Int)=some ps[i]:=ix_nat hil
  rw[f_sidinglaw22_TreemergeLaws_L42.eq_2,if_pos (by simp;omega)]
  simp only[hx,bsome,q1,q2,q3,q4,q5,q6,qn]
  have hprev:0<i→∃ y,rng ((i:Int)-1)=some ((i-1:Nat):Int)∧ix ps ((i-1:Nat):Int)=some y∧Op.bytesLess y ps[i]=true:=by
   intro h0
   refine ⟨ps[i-1],?_,ix_nat (by omega),?_⟩
   ·
    rw[show (i:Int)-1=((i-1:Nat):Int) by omega]
    exact rng_nat (by omega)
   ·
    rw[less_eq]
    have:=List.pairwise_iff_getElem.1 hs (i-1) i (by omega) hil (by omega)
    simpa using this
  by_cases hca:lk c ps[i]=lk a ps[i]
  ·
   obtain ⟨t1,t2⟩:=hat.th hca
   by_cases hba:lk b ps[i]=lk a ps[i]
   ·
    obtain ⟨t3,t4⟩:=hat.we hba
    have hbc:lk b ps[i]=lk c ps[i]:=by rw[hba,hca]
    by_cases h0:0<i
    ·
     obtain ⟨y,y1,y2,y3⟩:=hprev h0
     simp only[y1,y2,bsome,y3]
     simpa[h0,hca,hba,t1,t2,t4] using ih'
    ·
     simpa[h0,hca,hba,t1,t2,t4] using ih'
   ·
    have hbc:¬lk b ps[i]=lk c ps[i]:=fun e=>hba (by rw[e,hca])
    by_cases h0:0<i
    ·
     obtain ⟨y,y1,y2,y3⟩:=hprev h0
     simp only[y1,y2,bsome,y3]
     simpa[h0,hca,hba,t1,t2] using ih'
    ·
     simpa[h0,hca,hba,t1,t2] using ih'
  ·
   by_cases hba:lk b ps[i]=lk a ps[i]
   ·
    obtain ⟨t3,t4⟩:=hat.we hba
    have hbc:¬lk a ps[i]=lk c ps[i]:=fun e=>hca e.symm
    by_cases h0:0<i
    ·
     obtain ⟨y,y1,y2,y3⟩:=hprev h0
     simp only[y1,y2,bsome,y3]
     simpa[h0,hca,hba,hbc,t3,t4] using ih'
    ·
     simpa[h0,hca,hba,hbc,t3,t4] using ih'
   ·
    by_cases hbc:lk b ps[i]=lk c ps[i]
    ·
     obtain ⟨t5,t6⟩:=hat.both hbc
     by_cases h0:0<i
     ·
      obtain ⟨y,y1,y2,y3⟩:=hprev h0
      simp only[y1,y2,bsome,y3]
      simpa[h0,hca,hbc,t5,t6] using ih'
     ·
      simpa[h0,hca,hbc,t5,t6] using ih'
    ·
     cases hin:(l.any fun x=>x.path_==ps[i]) with
     | true =>
      have t7:=hat.in_ hin
      by_cases h0:0<i
      ·
       obtain ⟨y,y1,y2,y3⟩:=hprev h0
       simp only[y1,y2,bsome,y3]
       simpa[h0,hca,hba,hbc,hin,t7] using ih'
      ·
       simpa[h0,hca,hba,hbc,hin,t7] using ih'
     | false =>
      by_cases h0:0<i
      ·
       obtain ⟨y,y1,y2,y3⟩:=hprev h0
       simp only[y1,y2,bsome,y3]
       simpa[h0,hca,hba,hbc,hin] using ih'
      ·
       simpa[h0,hca,hba,hbc,hin] using ih'
theorem law_TreemergeLaws {n:Nat} (hn:50000<n) (hal:f_sidinglaw22_alive n=some true) (a b c:List GFile):f_sidinglaw22_TreemergeLaws n a b c=some true:=by
 unfold f_sidinglaw22_TreemergeLaws
 obtain ⟨r,hr,hg⟩:=fit_law hn a b c
 rw[hal,bsome,hr,bsome]
 cases r with
 | false=>rw[if_pos (by simp)]
 | true =>
  obtain ⟨ha,hb,hc⟩:=hg rfl
  have la:=ha.le
  have lb:=hb.le
  have lc:=hc.le
  have hpl:=pathsOf_len a b c
  rw[if_neg (by simp),merge_cases hn ha hb hc,bsome,treemerge_paths_law hn ha hb hc,bsome,if_neg (by simp)]
  have hm1:=mo_len (fun p=>decF n (lk a p) (lk b p) (lk c p)) (pathsOf a b c)
  have hm3:=ml_len (fun p=>decF n (lk a p) (lk b p) (lk c p)) (pathsOf a b c)
  rcases me_cases (f:=fun p=>decF n (lk a p) (lk b p) (lk c p)) (ps:=pathsOf a b c) with h0 | ⟨p,hp,h1,h2⟩
  ·
   rw[if_pos h0]
   by_cases h12:12<(mo (fun p=>decF n (lk a p) (lk b p) (lk c p)) (pathsOf a b c)).length
   ·
    rw[if_pos h12];simp
   ·
    rw[if_neg h12,if_neg (by simp)]
    have hT:Good (mo (fun p=>decF n (lk a p) (lk b p) (lk c p)) (pathsOf a b c)):=by
     refine ⟨by omega,fun x hx=>?_,mo_sorted (pathsOf_sorted a b c),fun x hx=>?_⟩
     ·
      obtain ⟨hp,_⟩:=mo_mem.1 hx
      rw[mem_pathsOf] at hp
      rcases hp with ⟨y,hy,e⟩ | ⟨y,hy,e⟩ | ⟨y,hy,e⟩
      ·
       rw[←e];exact ha.path y hy
      ·
       rw[←e];exact hb.path y hy
      ·
       rw[←e];exact hc.path y hy
     ·
      obtain ⟨_,hv⟩:=mo_mem.1 hx
      exact decF_txt hn (lk_txt ha x.path_) (lk_txt hb x.path_) (lk_txt hc x.path_) _ hv
    rw[f_tree_Check_eq (by omega),bsome,good_iff.2 hT,if_neg (by simp),f_sidingref21_Check_eq (by omega),bsome,good_iff.2 hT,if_neg (by simp)]
    have hlk:∀ p∈pathsOf a b c,lk (mo (fun p=>decF n (lk a p) (lk b p) (lk c p)) (pathsOf a b c)) p=(decF n (lk a p) (lk b p) (lk c p)).1:=fun p hp=>by
     rw[lk_mo (pathsOf_sorted a b c),if_pos hp]
    have hin:∀ p,((ml (fun p=>decF n (lk a p) (lk b p) (lk c p)) (pathsOf a b c)).any fun x=>x.path_==p)=true→(decF n (lk a p) (lk b p) (lk c p)).2.1≠0:=fun p h=>(ml_mem.1 h).2
    have hno:∀ p,(decF n (lk a p) (lk b p) (lk c p)).2.1=0→((ml (fun p=>decF n (lk a p) (lk b p) (lk c p)) (pathsOf a b c)).any fun x=>x.path_==p)=false:=fun p h=>by
     cases e:((ml (fun p=>decF n (lk a p) (lk b p) (lk c p)) (pathsOf a b c)).any fun x=>x.path_==p) with
     | false=>rfl
     | true=>exact absurd h (hin p e)
    have hatp:∀ p∈pathsOf a b c,AtP (mo (fun p=>decF n (lk a p) (lk b p) (lk c p)) (pathsOf a b c)) a b c (ml (fun p=>decF n (lk a p) (lk b p) (lk c p)) (pathsOf a b c)) p:=by
     intro p hp
     refine ⟨fun h=>?_,fun h=>?_,fun h=>?_,fun h=>?_⟩
     ·
      have:=(decF_same (n:=n) (b:=lk a p) (o:=lk b p) (t:=lk c p)).1 h
      exact ⟨hno p (by rw[this]),by rw[hlk p hp,this]⟩
     ·
      have:=(decF_same (n:=n) (b:=lk a p) (o:=lk b p) (t:=lk c p)).2.1 h
      exact ⟨hno p (by rw[this]),by rw[hlk p hp,this]⟩
     ·
      have:=(decF_same (n:=n) (b:=lk a p) (o:=lk b p) (t:=lk c p)).2.2 h
      exact ⟨hno p (by rw[this]),by rw[hlk p hp,this]⟩
     ·
      rw[hlk p hp]
      exact (decF_in (hin p h)).1
    have g1:=gives_law hn ha ha hc hc (fun p=>decF_same.2.1 rfl) fun p h=>in_paths (.inr (.inr h))
    have g2:=gives_law hn ha hb ha hb (fun p=>decF_same.1 rfl) fun p h=>in_paths (.inr (.inl h))
    have g3:=gives_law hn ha hb hb hb (fun p=>decF_same.2.2 rfl) fun p h=>in_paths (.inr (.inl h))
    have e2:=laws_L287 hn (a:=a) (b:=b) (c:=c) (l:=ml (fun p=>decF n (lk a p) (lk b p) (lk c p)) (pathsOf a b c)) (e1:=0) (e3:=0) (ps:=pathsOf a b c) (by omega) (by omega) (fun x hx=>(mo_mem.1 hx).1) g1 g2 g3 (mo (fun p=>decF n (lk a p) (lk b p) (lk c p)) (pathsOf a b c)).length 0 n rfl (Nat.zero_le _) (by omega)
    have e1:=laws_L42 hn (e1:=0) (e3:=0) (by omega) (by omega) (by omega) (by omega) (by omega) (by omega) (pathsOf_sorted a b c) hatp (pathsOf a b c).length 0 n rfl (Nat.zero_le _) (by omega)
    rw[show ((0:Nat):Int)=0 from rfl] at e1 e2
    rw[e1,e2]
  ·
   have hne:me (fun p=>decF n (lk a p) (lk b p) (lk c p)) (pathsOf a b c)≠0:=by rw[h1];exact h2
   have h48:=decF_err hn (lk_txt ha p) (lk_txt hb p) (lk_txt hc p)
   change _=(decF n (lk a p) (lk b p) (lk c p)).2.2 at h1
   change (decF n (lk a p) (lk b p) (lk c p)).2.2≠0 at h2
   rw[if_neg hne]
   rcases h48 with h | h | h
   ·
    exact absurd h h2
   ·
    rw[h1,h];simp
   ·
    rw[h1,h];simp
end Go.Zv.G
