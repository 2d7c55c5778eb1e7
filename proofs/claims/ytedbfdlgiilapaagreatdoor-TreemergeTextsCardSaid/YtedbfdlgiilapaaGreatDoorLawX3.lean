/- Plain laws: what the plain functions say. No condition. -/
import Derived.Test.YtedbfdlgiilapaaGreatDoorLawX2
set_option linter.unusedSimpArgs false
set_option linter.unusedVariables false
namespace Go.Zv.G
open Go Go.Zv Go.Proofs
set_option maxRecDepth 100000
attribute [local simp high] bsome
def mo (f:S→Option S×Int×Int) (ps:List S):List GFile:=ps.filterMap fun p=>(f p).1.map fun s=>⟨p,s⟩
theorem tsame_law {n:Nat} {a b:List GTrouble} (ha:a.length<1000000) (hn:a.length<n):∃ r,f_sidingref22_Same n a b=some r∧(a=b→r=true):=by
 unfold f_sidingref22_Same
 by_cases hl:a.length=b.length
 ·
  rw[if_neg (by simp;omega)]
  have key:∀ (m i:Nat),a.length<m+i→i≤a.length→∃ r,f_sidingref22_Same_L8 a b m (i:Int)=some r∧(a=b→r=true):=by
   intro m
   induction m with
   | zero=>intro i h1 h2;omega
   | succ m ih =>
    intro i h1 h2
    rw[f_sidingref22_Same_L8.eq_2]
    by_cases hi:i<a.length
    ·
     rw[if_pos (by simpa using hi),ix_nat hi,bsome,ix_nat (by omega:i<b.length),bsome]
     by_cases hc:(!(a[i].path_==(b[i]'(by omega)).path_)||!(a[i].kind_==(b[i]'(by omega)).kind_))=true
     ·
      rw[if_pos hc]
      refine ⟨false,rfl,fun e=>?_⟩
      subst e
      simp at hc
     ·
      rw[if_neg hc,rng_succ (by omega),bsome]
      exact ih (i+1) (by omega) (by omega)
    ·
     rw[if_neg (by simpa using hi)]
     exact ⟨true,rfl,fun _=>rfl⟩
  have:=key n 0 (by omega) (Nat.zero_le _)
  rw[show ((0:Nat):Int)=0 from rfl] at this
  exact this
 ·
  rw[if_pos (by simp;omega)]
  exact ⟨false,rfl,fun e=>absurd (by rw[e]) hl⟩
theorem fit_law {n:Nat} (hn:50000<n) (a b c:List GFile):∃ r,f_sidinglaw22_fit n a b c=some r∧(r=true→Good a∧Good b∧Good c):=by
 unfold f_sidinglaw22_fit f_sidinglaw22_long f_sidingref22_Three
 obtain ⟨u,hu,_⟩:=f_sidingref21_Long_eq (n:=n) (by omega) a
 obtain ⟨v,hv,_⟩:=f_sidingref21_Long_eq (n:=n) (by omega) b
 obtain ⟨w,hw,_⟩:=f_sidingref21_Long_eq (n:=n) (by omega) c
 rw[hu,bsome]
 cases u with
 | true=>exact ⟨false,by simp,by simp⟩
 | false =>
  rw[if_neg (by simp),hv,bsome]
  cases v with
  | true=>exact ⟨false,by simp,by simp⟩
  | false =>
   rw[if_neg (by simp),hw,bsome,bsome]
   cases w with
   | true=>exact ⟨false,by simp,by simp⟩
   | false =>
    rw[if_pos (by simp),f_sidingref21_Check_eq (by omega),bsome]
    by_cases h1:chk a=0
    ·
     rw[if_neg (by simp[h1]),f_sidingref21_Check_eq (by omega),bsome]
     by_cases h2:chk b=0
     ·
      rw[if_neg (by simp[h2]),f_sidingref21_Check_eq (by omega),bsome,bsome]
      exact ⟨_,rfl,fun h=>⟨good_iff.1 h1,good_iff.1 h2,good_iff.1 (by simpa using h)⟩⟩
     ·
      rw[if_pos (by simpa using h2),bsome,bsome]
      exact ⟨_,rfl,fun h=>absurd (by simpa using h) h2⟩
    ·
     rw[if_pos (by simpa using h1),bsome,bsome]
     exact ⟨_,rfl,fun h=>absurd (by simpa using h) h1⟩
end Go.Zv.G
namespace Go.Zv.G
open Go Go.Zv Go.Proofs
set_option maxRecDepth 100000
attribute [local simp high] bsome
theorem decF_same {n:Nat} {b o t:Option S}:(t=b→decF n b o t=(o,0,0))∧(o=b→decF n b o t=(t,0,0))∧(o=t→decF n b o t=(o,0,0)):=by
 unfold decF
 refine ⟨fun h=>?_,fun h=>?_,fun h=>by rw[if_pos h]⟩
 ·
  subst h
  by_cases h1:o=t
  ·
   rw[if_pos h1]
  ·
   rw[if_neg h1,if_neg h1,if_pos rfl]
 ·
  subst h
  by_cases h1:o=t
  ·
   rw[if_pos h1,h1]
  ·
   rw[if_neg h1,if_pos rfl]
end Go.Zv.G
namespace Go.Zv.G
open Go Go.Zv Go.Proofs
set_option maxRecDepth 100000
attribute [local simp high] bsome
def with4 (b:List GFile) (r:List GFile×List GTrouble×Int):List GFile×List GTrouble×Int×List GFile:=(r.1,r.2.1,r.2.2,b)
theorem j47 {out b:List GFile} {i:Nat} {x s0:S} {b0:Bool} {rec:List GFile→List GFile→List GTrouble→Int→Option (List GFile×List GTrouble×Int×List GFile)} {l:List GTrouble} {f:Option S} (hf:TxtO f) (hi:i<100000) (ho:out.length<100000):f_treemerge_Merge_J47 out (i:Int) x (b0,s0,b) rec l (encO f).1 (encO f).2=rec b (putO x out f) l ((i+1:Nat):Int):=by
 have hlim:2000000≤lim:=by decide
 unfold f_treemerge_Merge_J47 putO
 cases f with
 | none =>
  rw[if_neg (by simp[encO]),rng_succ (by omega),bsome]
 | some s =>
  rw[if_pos (by rfl)]
  simp only[encO]
  rw[lmt_ok (txt_le (hf s rfl)),bsome,need_ok (by omega),bsome,rng_succ (by omega),bsome]
theorem mergeO_L17 {n:Nat} (hn:50000<n) {a b c:List GFile} (ha:a.length<1000) (hb:b.length<1000) (hc:c.length<1000) (ta:∀ p,TxtO (lk a p)) (tb:∀ p,TxtO (lk b p)) (tc:∀ p,TxtO (lk c p)) {ps:List S} (hps:ps.length<1000) :
  ∀ (m k fuel:Nat) (out:List GFile) (l:List GTrouble),ps.length-k=m→k≤ps.length→m<fuel→out.length+m<5000→l.length+m<5000→f_treemerge_Merge_L17 n a c ps fuel b out l (k:Int)=some (with4 b (mgo n (lk a) (lk b) (lk c) (ps.drop k) out l)):=by
 intro m
 induction m with
 | zero =>
  intro k fuel out l hm hk hf ho hl
  obtain ⟨fuel,rfl⟩:∃ k,fuel=k+1:=⟨fuel-1,by omega⟩
  rw[f_treemerge_Merge_L17.eq_2,if_neg (by simp;omega),List.drop_of_length_le (by omega)]
  unfold mgo
  by_cases h:12<out.length
  ·
   rw[if_pos (by simp;omega),if_pos h];rfl
  ·
   rw[if_neg (by simp;omega),if_neg h];rfl
 | succ m ih =>
  intro k fuel out l hm hk hf ho hl
  have hlim:2000000≤lim:=by decide
  obtain ⟨fuel,rfl⟩:∃ k,fuel=k+1:=⟨fuel-1,by omega⟩
  have hkl:k<ps.length:=by omega
  have go:∀ (f:Option S) (l':List GTrouble),TxtO f→l'.length≤l.length+1→f_treemerge_Merge_J47 out (k:Int) ps[k] ((encO (lk b ps[k])).1,(encO (lk b ps[k])).2,b) (fun a102 a103 a104 a105=>f_treemerge_Merge_L17 n a c ps fuel a102 a103 a104 a105) l' (encO f).1 (encO f).2=some (with4 b (mgo n (lk a) (lk b) (lk c) (ps.drop (k+1)) (putO ps[k] out f) l')):=by
   intro f l' hf' hl'
   have:=putO_len ps[k] out f
   rw[j47 hf' (by omega) (by omega)]
   exact ih (k+1) fuel _ _ (by omega) (by omega) (by omega) (by omega) (by omega)
  have mg:=merged_law hn (ta ps[k]) (tb ps[k]) (tc ps[k])
  have j44:∀ f:Option S,TxtO f→f=(if ¬lk b ps[k]=lk c ps[k]∧lk b ps[k]=lk a ps[k] then lk c ps[k] else lk b ps[k])→f_treemerge_Merge_J44 n out l (k:Int) ps[k] (encO (lk a ps[k])) ((encO (lk b ps[k])).1,(encO (lk b ps[k])).2,b) (encO (lk c ps[k])) (fun a102 a103 a104 a105=>f_treemerge_Merge_L17 n a c ps fuel a102 a103 a104 a105) (encO f).1 (encO f).2=some (with4 b (mgo n (lk a) (lk b) (lk c) (ps[k]::ps.drop (k+1)) out l)):=by
   intro f hf' he
   unfold f_treemerge_Merge_J44 mgo decF
   simp only
   rw[same_law,bsome]
   by_cases h1:lk b ps[k]=lk c ps[k]
   ·
    rw[if_neg (by simp[h1]),if_pos h1]
    simp only
    rw[if_pos trivial]
    have:f=lk b ps[k]:=by rw[he,if_neg (by simp[h1])]
    rw[this]
    refine Eq.trans (go _ l (tb _) (by omega)) ?_
    simp[putL]
   ·
    rw[if_pos (by simp[h1]),same_law,bsome,if_neg h1]
    by_cases h2:lk b ps[k]=lk a ps[k]
    ·
     rw[if_neg (by simp[h2]),if_pos h2]
     simp only
     rw[if_pos trivial]
     have:f=lk c ps[k]:=by rw[he,if_pos ⟨h1,h2⟩]
     rw[this]
     refine Eq.trans (go _ l (tc _) (by omega)) ?_
     simp[putL]
    ·
     have hfb:f=lk b ps[k]:=by rw[he,if_neg (by simp[h2])]
     rw[if_pos (by simp[h2]),same_law,bsome,if_neg h2]
     by_cases h3:lk c ps[k]=lk a ps[k]
     ·
      rw[if_neg (by simp[h3]),if_pos h3]
      simp only
      rw[if_pos trivial,hfb]
      refine Eq.trans (go _ l (tb _) (by omega)) ?_
      simp[putL]
     ·
      rw[if_pos (by simp[h3]),mg.1,bsome,if_neg h3]
      simp only
      by_cases h0:(mrgF n (lk a ps[k]) (lk b ps[k]) (lk c ps[k])).2.2=0
      ·
       rw[if_neg (by simp[h0]),if_pos h0]
       by_cases hk0:(mrgF n (lk a ps[k]) (lk b ps[k]) (lk c ps[k])).2.1=0
       ·
        rw[if_neg (by simp[hk0])]
        refine Eq.trans (go _ l mg.2 (by omega)) ?_
        simp[putL,hk0]
       ·
        rw[if_pos (by simpa using hk0),need_ok (by omega),bsome]
        refine Eq.trans (go _ _ mg.2 (by simp)) ?_
        simp[putL,hk0]
      ·
       rw[if_pos (by simpa using h0),if_neg h0]
       rfl
  rw[f_treemerge_Merge_L17.eq_2,if_pos (by simp;omega),ix_nat hkl,bsome,of_law (by omega) (by omega),bsome,of_b_law (by omega) (by omega),bsome,of_law (by omega) (by omega),bsome]
  simp only
  rw[same_law,bsome,List.drop_eq_getElem_cons hkl]
  by_cases h1:lk b ps[k]=lk c ps[k]
  ·
   rw[if_neg (by simp[h1])]
   exact j44 _ (tb _) (by rw[if_neg (by simp[h1])])
  ·
   rw[if_pos (by simp[h1]),same_law,bsome]
   by_cases h2:lk b ps[k]=lk a ps[k]
   ·
    rw[if_pos (by simp[h2])]
    exact j44 _ (tc _) (by rw[if_pos ⟨h1,h2⟩])
   ·
    rw[if_neg (by simp[h2])]
    exact j44 _ (tb _) (by rw[if_neg (by simp[h2])])
theorem treemergeO_law {n:Nat} (hn:50000<n) {a b c:List GFile} (ha:Good a) (hb:Good b) (hc:Good c):f_treemerge_Merge n a b c=some (with4 b (mgo n (lk a) (lk b) (lk c) (pathsOf a b c) [] [])):=by
 have h1:=ha.le
 have h2:=hb.le
 have h3:=hc.le
 have hl:=pathsOf_len a b c
 unfold f_treemerge_Merge
 rw[check_law hn ha hb hc,bsome,if_neg (by simp),paths_law (by omega) (by omega) (by omega) (by omega),bsome]
 have:=mergeO_L17 hn (a:=a) (b:=b) (c:=c) (by omega) (by omega) (by omega) (lk_txt ha) (lk_txt hb) (lk_txt hc) (ps:=pathsOf a b c) (by omega) (pathsOf a b c).length 0 n [] [] rfl (Nat.zero_le _) (by omega) (by simp;omega) (by simp;omega)
 simpa using this
def tailJ (l:List S):S:=l.flatMap fun x=>10::x
theorem sizeL_cons (x:S) (l:List S):sizeL (x::l)=x.length+sizeL l:=by simp[sizeL]
theorem tailJ_cons (x:S) (l:List S):tailJ (x::l)=10::(x++tailJ l):=by simp[tailJ]
theorem joinL_tail:∀ (l:List S) (x:S),joinL (x::l) [10]=x++tailJ l
 | [],x=>by simp[joinL,tailJ]
 | y::l,x=>by
  rw[joinL,joinL_tail l y]
  simp[tailJ]
theorem text_L6 {l:List S} (hlim:2000000≤lim) (hs:sizeL l+l.length≤3000):∀ (m k fuel:Nat) (out:S),l.length-k=m→k≤l.length→0<k→m<fuel→out.length+sizeL (l.drop k)+(l.length-k)≤4000→f_sidingref13_Text_L6 l fuel out (k:Int)=some (out++tailJ (l.drop k)):=by
 intro m
 induction m with
 | zero =>
  intro k fuel out hm hk h0 hf ho
  obtain ⟨fuel,rfl⟩:∃ k,fuel=k+1:=⟨fuel-1,by omega⟩
  rw[f_sidingref13_Text_L6.eq_2,if_neg (by simp;omega),List.drop_of_length_le (by omega)]
  simp[tailJ]
 | succ m ih =>
  intro k fuel out hm hk h0 hf ho
  obtain ⟨fuel,rfl⟩:∃ k,fuel=k+1:=⟨fuel-1,by omega⟩
  have hkl:k<l.length:=by omega
  rw[List.drop_eq_getElem_cons hkl] at ho
  rw[sizeL_cons] at ho
  rw[f_sidingref13_Text_L6.eq_2,if_pos (by simp;omega),if_pos (by simp;omega),need_ok (by omega),bsome]
  unfold f_sidingref13_Text_J15
  rw[ix_nat hkl,bsome,need_ok (by simp;omega),bsome,rng_succ (by omega),bsome,List.drop_eq_getElem_cons hkl]
  refine Eq.trans (ih (k+1) fuel (out++[10]++l[k]) (by omega) (by omega) (by omega) (by omega) (by simp;omega)) ?_
  rw[tailJ_cons]
  simp
theorem text_law {n:Nat} {l:List S} (hlim:2000000≤lim) (hs:sizeL l+l.length≤3000) (hn:l.length<n):f_sidingref13_Text n l=some (joinL l [10]):=by
 unfold f_sidingref13_Text
 cases l with
 | nil =>
  obtain ⟨n,rfl⟩:∃ k,n=k+1:=⟨n-1,by omega⟩
  rw[f_sidingref13_Text_L6.eq_2,if_neg (by simp)]
  simp[joinL]
 | cons x l =>
  obtain ⟨n,rfl⟩:∃ k,n=k+1:=⟨n-1,by omega⟩
  rw[sizeL_cons] at hs
  simp only[List.length_cons] at hs hn
  rw[f_sidingref13_Text_L6.eq_2,if_pos (by simp),if_neg (by simp)]
  unfold f_sidingref13_Text_J15
  rw[ix_zero (by simp),bsome,need_ok (show ([]:S).length+((x::l)[0]).length≤lim by simp;omega),bsome,rng_ok (by omega) (by omega),bsome,joinL_tail]
  have:=text_L6 (l:=x::l) hlim (by rw[sizeL_cons];simp;omega) l.length 1 n x (by simp) (by simp) (by omega) (by omega) (by simp;omega)
  simpa using this
theorem lk_one (p s:S):lk [⟨p,s⟩] p=some s:=by simp[lk]
theorem paths_one (p x y z:S):pathsOf [⟨p,x⟩] [⟨p,y⟩] [⟨p,z⟩]=[p]:=by
 have h:Op.bytesLess p p=false:=by rw[less_eq];simp[s_irrefl p]
 simp[pathsOf,isortS,insS,h,uniqS,uniqGo]
theorem law_TreemergeTexts {n:Nat} (hn:50000<n) (hal:f_sidinglaw22_alive n=some true) (p x y z:S):f_sidinglaw22_TreemergeTexts n p x y z=some true:=by
 have hlim:2000000≤lim:=by decide
 unfold f_sidinglaw22_TreemergeTexts
 obtain ⟨r,hr,hg⟩:=fit_law hn [⟨p,x⟩] [⟨p,y⟩] [⟨p,z⟩]
 rw[hal,bsome,hr,bsome]
 cases r with
 | false=>rw[if_pos (by simp)]
 | true =>
  obtain ⟨ha,hb,hc⟩:=hg rfl
  have hx:=ha.text ⟨p,x⟩ (by simp)
  have hy:=hb.text ⟨p,y⟩ (by simp)
  have hz:=hc.text ⟨p,z⟩ (by simp)
  simp only at hx hy hz
  obtain ⟨bx,_⟩:=split_of_txt hx
  obtain ⟨by_,_⟩:=split_of_txt hy
  obtain ⟨bz,_⟩:=split_of_txt hz
  obtain ⟨ps,h1,h2⟩:=mres_eq hn hx hy hz
  rw[if_neg (by simp),treemergeO_law hn ha hb hc,bsome,f_sidingref13_Parts_eq x (by omega) (by omega),bsome,f_sidingref13_Parts_eq y (by omega) (by omega),bsome,f_sidingref13_Parts_eq z (by omega) (by omega),bsome,h1,bsome,h2,bsome,if_neg (by simp),paths_one]
  unfold mgo
  rw[lk_one,lk_one,lk_one]
  have sameOK:∀ l:List GFile,l.length<100→f_sidingref21_Same n l l=some true:=by
   intro l hl
   obtain ⟨r,g1,g2⟩:=f_sidingref21_Same_iff (n:=n) l l (by omega) (by omega)
   rw[g1,g2.2 rfl]
  have hmr:=mres_cases hn hx hy hz
  have key:(∃ s,txtE s=0∧decF n (some x) (some y) (some z)=(some s,0,0)∧mres n x y z=(splitC 10 s,0))∨((mres n x y z).2=26∧decF n (some x) (some y) (some z)=(some y,1,0)) ∨
    ((mres n x y z).2=0∧linE (mres n x y z).1=0∧decF n (some x) (some y) (some z)=(some (joinL (mres n x y z).1 [10]),0,0))∨(((mres n x y z).2=4∨(mres n x y z).2=8)∧decF n (some x) (some y) (some z)=(none,0,(mres n x y z).2)):=by
   by_cases e1:y=z
   ·
    subst e1
    exact .inl ⟨y,hy,decF_same.2.2 rfl,mres_same hn hx hy⟩
   ·
    by_cases e2:y=x
    ·
     subst e2
     exact .inl ⟨z,hz,decF_same.2.1 rfl,mres_base hn hx hz⟩
    ·
     by_cases e3:z=x
     ·
      subst e3
      exact .inl ⟨y,hy,decF_same.1 rfl,mres_base' hn hx hy⟩
     ·
      have hd:decF n (some x) (some y) (some z)=mrgF n (some x) (some y) (some z):=by
       unfold decF
       rw[if_neg (by simpa using e1),if_neg (by simpa using e2),if_neg (by simpa using e3)]
      rw[hd]
      unfold mrgF
      simp only
      rcases hmr with ⟨g1,g2⟩ | ⟨g1,g2⟩ | ⟨g1,g2⟩ | ⟨g1,g2⟩
      ·
       exact .inr (.inr (.inl ⟨g1,g2,by rw[if_neg (by rw[g1];decide),if_pos g1]⟩))
      ·
       exact .inr (.inl ⟨g1,by rw[if_pos g1]⟩)
      ·
       exact .inr (.inr (.inr ⟨.inl g1,by rw[if_neg (by rw[g1];decide),if_neg (by rw[g1];decide)]⟩))
      ·
       exact .inr (.inr (.inr ⟨.inr g1,by rw[if_neg (by rw[g1];decide),if_neg (by rw[g1];decide)]⟩))
  generalize decF n (some x) (some y) (some z)=D at key
  generalize mres n x y z=R at key
  rcases key with ⟨s,hs,rfl,rfl⟩ | ⟨g1,rfl⟩ | ⟨g1,g2,rfl⟩ | ⟨g1,rfl⟩
  ·
   have hsl:=lines_of_txt hs
   simp only[mgo,putO,putL,with4]
   rw[text_law hlim (by omega) (by omega),bsome,join_split]
   simp[sameOK]
  ·
   obtain ⟨r,k1,k2⟩:=tsame_law (n:=n) (a:=[(⟨p,1⟩:GTrouble)]) (b:=[⟨p,1⟩]) (by simp) (by simp;omega)
   rw[k2 rfl] at k1
   rw[g1]
   simp[mgo,putO,putL,with4,sameOK,k1]
  ·
   have hb2:R.1.length≤60∧sizeL R.1+R.1.length≤2001:=by
    unfold linE at g2
    split at g2
    ·
     cases g2
    ·
     split at g2
     ·
      cases g2
     ·
      omega
   rw[g1]
   simp only[mgo,putO,putL,with4]
   rw[text_law hlim (by omega) (by omega),bsome]
   simp[sameOK]
  ·
   rcases g1 with g1 | g1
   ·
    rw[g1]
    simp[with4]
   ·
    rw[g1]
    simp[with4]
end Go.Zv.G
