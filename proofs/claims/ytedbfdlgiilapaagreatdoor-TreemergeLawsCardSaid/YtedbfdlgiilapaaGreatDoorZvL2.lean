/- Zv: a pure interpreter of the translated code over values, and that it is right. No condition. -/
import Derived.Test.YtedbfdlgiilapaaGreatDoorZvL1
import Derived.Laws.Tables
set_option linter.unusedSimpArgs false
set_option linter.unusedVariables false
namespace Go.Zv
open Go
def pathOf:V→Option (Nat×Path)
 | .ptr r p | .ref r p | .bsl r p _=>some (r,p)
 | _=>none
def isRef:V→Prop
 | .ref _ _=>True
 | _=>False
def CellKeep (w w':World) (c:Value) (X X':V):Prop :=
 (∀ j,InR X j→InR X' j)∧∀ i j b o,Base c X i b o→InR X j→isSlice (cellAt X' i j)→isSlice (cellAt X i j)∧w'.cell? ⟨b,o+j,none⟩=w.cell? ⟨b,o+j,none⟩
theorem Link1.keep {w w':World} {tm tm':Array Value} {σ σ':List V} {u:Value} {x:V} (h:Link1 w tm σ u x)
  (hc:∀ r q i j c X,pathOf x=some (r,q++[(i,j)])→Follow w (tm.getD r undef) (gt σ r) q c X→Cont X=true →
   ∃ X',Follow w' (tm'.getD r undef) (gt σ' r) q c X'∧(∀ i b o,Base c X i b o→Base c X' i b o)∧(isRef x→CellKeep w w' c X X'))
  (h0:∀ r,x=.ref r []→(isSlice (gt σ' r)→isSlice (gt σ r))∧tm'.getD r undef=tm.getD r undef):Link1 w' tm' σ' u x:=by
 cases x <;> try trivial
 case ptr r p =>
  obtain ⟨q,i,j,c,X,b,o,e,hf,hb,hu⟩:=h
  obtain ⟨X',hf',hb',_⟩:=hc r q i j c X (by simp[pathOf,e]) hf hb.cont
  exact ⟨q,i,j,c,X',b,o,e,hf',hb' _ _ _ hb,hu⟩
 case bsl r p n =>
  obtain ⟨q,i,j,c,X,b,o,m,e,hf,hb,hu⟩:=h
  obtain ⟨X',hf',hb',_⟩:=hc r q i j c X (by simp[pathOf,e]) hf hb.cont
  exact ⟨q,i,j,c,X',b,o,m,e,hf',hb' _ _ _ hb,hu⟩
 case ref r p =>
  rcases h with ⟨e,h⟩ | ⟨q,i,j,c,X,b,o,e,hf,hb,hj,hu⟩
  ·
   subst e
   obtain ⟨h1,h2⟩:=h0 r rfl
   exact .inl ⟨rfl,fun hs=>by rw[h2];exact h (h1 hs)⟩
  ·
   obtain ⟨X',hf',hb',hk⟩:=hc r q i j c X (by simp[pathOf,e]) hf hb.cont
   obtain ⟨k1,k2⟩:=hk trivial
   exact .inr ⟨q,i,j,c,X',b,o,e,hf',hb' _ _ _ hb,k1 _ hj,fun hs=>by
    obtain ⟨s1,s2⟩:=k2 i j b o hb hj hs
    rw[s2];exact hu s1⟩
def links:V→List V
 | .fn _ caps=>caps
 | x=>[x]
theorem Link.keep {w w':World} {tm tm':Array Value} {σ σ':List V} {u:Value} {x:V} (h:Link w tm σ u x)
  (hc:∀ y∈links x,∀ r q i j c X,pathOf y=some (r,q++[(i,j)])→Follow w (tm.getD r undef) (gt σ r) q c X→Cont X=true →
   ∃ X',Follow w' (tm'.getD r undef) (gt σ' r) q c X'∧(∀ i b o,Base c X i b o→Base c X' i b o)∧(isRef y→CellKeep w w' c X X'))
  (h0:∀ y∈links x,∀ r,y=.ref r []→(isSlice (gt σ' r)→isSlice (gt σ r))∧tm'.getD r undef=tm.getD r undef):Link w' tm' σ' u x:=by
 cases x
 case fn f caps =>
  obtain ⟨cs,h1,h2,h3⟩:=h
  refine ⟨cs,h1,h2,fun i=>?_⟩
  by_cases hi:i<caps.length
  ·
   have hm:caps.getD i .ud∈links (.fn f caps):=by
    rw[List.getD_eq_getElem?_getD,List.getElem?_eq_getElem hi];simp[links]
   exact (h3 i).keep (hc _ hm) (h0 _ hm)
  ·
   rw[List.getD_eq_getElem?_getD,List.getElem?_eq_none (by omega)];trivial
 all_goals (simp only[Link] at h ⊢;exact Link1.keep h (hc _ (by simp[links])) (h0 _ (by simp[links])))
theorem stale_links {r d:Nat} {x:V} (h:stale r d x=false):∀ y∈links x,stale1 r d y=false:=by
 intro y hy
 cases x
 case fn f caps =>
  simp only[stale,List.any_eq_false] at h
  exact by simpa using h y hy
 all_goals (simp only[links,List.mem_singleton] at hy;subst hy;exact h)
theorem stale1_path {r d:Nat} {y:V} {q:Path} {i j:Nat} (h:stale1 r d y=false) (hp:pathOf y=some (r,q++[(i,j)])):q.length<d:=by
 cases y <;> simp only[pathOf,reduceCtorEq,Option.some.injEq,Prod.mk.injEq] at hp
 all_goals
  obtain ⟨rfl,rfl⟩:=hp
  simp only[stale1,Nat.beq_refl,Bool.true_and,List.length_append,List.length_singleton] at h
  exact Nat.lt_of_not_le fun hc=>by
   rw[show Nat.blt d (q.length+1)=true by rw[Nat.blt_eq];omega] at h;cases h
def free:V→Prop
 | .ptr _ _ | .ref _ _ | .bsl _ _ _ | .fn _ _=>False
 | _=>True
theorem free.link {w:World} {tm:Array Value} {σ:List V} {u:Value} {x:V} (h:free x):Link w tm σ u x:=by
 cases x <;> first | trivial | exact h.elim
theorem setP_free {x X':V} {p:Path} (h:free X') (hx:p≠[]→Cont x=true):free (setP x p X'):=by
 cases p with
 | nil=>exact h
 | cons a p =>
  have:=hx (by simp)
  cases x <;> first | trivial | cases this
theorem Follow.cont {w:World} {v u:Value} {x X:V} {p:Path} (h:Follow w v x p u X) (hp:p≠[]):Cont x=true:=by
 cases h <;> first | rfl | exact absurd rfl hp
def gone (sl:Bool) (r d:Nat) (x:V):Bool:=stale r d x||(sl&&refAt r d x)
theorem gt_stored {sl:Bool} {r d i:Nat} {σ:List V}:gt (stored sl r d σ) i=cond (gone sl r d (gt σ i)) .ud (gt σ i):=by
 cases sl with
 | false =>
  show gt (drop r d σ) i=_
  rw[gt_drop];simp[gone]
 | true =>
  show gt (dropRef r d (drop r d σ)) i=_
  unfold dropRef
  rw[gt_map (by rfl),gt_drop]
  unfold gone
  cases h:stale r d (gt σ i) with
  | true=>simp[refAt,refAt1]
  | false=>simp
theorem stored_length {sl:Bool} {r d:Nat} {σ:List V}:(stored sl r d σ).length=σ.length:=by
 cases sl <;> simp[stored,dropRef,drop]
theorem gone_free {sl:Bool} {r d:Nat} {x:V} (h:gone sl r d x=true):Cont x=false∧¬isSlice x:=by
 cases x <;> simp_all [gone,stale,stale1,refAt,refAt1,Cont,isSlice]
theorem refAt_links {r d:Nat} {x:V} (h:refAt r d x=false):∀ y∈links x,refAt1 r d y=false:=by
 intro y hy
 cases x
 case fn f caps =>
  simp only[refAt,List.any_eq_false] at h
  exact by simpa using h y hy
 all_goals (simp only[links,List.mem_singleton] at hy;subst hy;exact h)
theorem gone_stale {sl:Bool} {r d:Nat} {x:V} (h:gone sl r d x=false):stale r d x=false:=by
 unfold gone at h
 cases h2:stale r d x with
 | false=>rfl
 | true=>rw[h2] at h;cases h
theorem gone_refAt {sl:Bool} {r d:Nat} {x:V} (hs:sl=true) (h:gone sl r d x=false):refAt r d x=false:=by
 unfold gone at h
 subst hs
 cases h2:refAt r d x with
 | false=>rfl
 | true=>rw[h2] at h;simp at h
theorem Rel.turn {E:Env} {S:Nat→Prop} {who:Nat→Option Nat} {w:World} {tm:Array Value} {σ:List V} (h:Rel E S who w tm σ) {r:Nat} {p:Path} {u:Value} {X:V}
  (hf:Follow w (tm.getD r undef) (gt σ r) p u X) :
  ∃ OX,Rep S w u X OX∧OX.Nodup∧(∀ b∈OX,who b=some r) ∧
   ∀ (sl:Bool) (D:Nat) (S':Nat→Prop) (w':World) (X':V) (OX':List Nat),
    (D=p.length∨D=p.length+1∧(∀ i b o,Base u X i b o→Base u X' i b o)∧(sl=false→CellKeep w w' u X X'))→(∀ b,S b→S' b)→(∀ b,S b→w'.heap[b]?=w.heap[b]?)→(∀ b,who b≠none→b ∉ OX→w'.heap[b]?=w.heap[b]?) →
    w.heap.size≤w'.heap.size→Rep S' w' u X' OX'→(OX=[]→OX'=[])→OX'.Nodup→(∀ b∈OX',b∈OX∨who b=none) →
    (∀ b,S' b→(who b=none∨b∈OX)∧b ∉ OX'∧b<w'.heap.size)→(isSlice X'→isSlice X)→free X'→r<σ.length →
    Rel E S' (fun b=>if b∈OX' then some r else if b∈OX then none else who b) w' tm ((stored sl r D σ).set r (setP (gt σ r) p X')):=by
 obtain ⟨O,hO,hn,ho⟩:=h.rep r
 obtain ⟨A,OX,B,e,hX,hput⟩:=hO.focus hf
 subst e
 have hn':=hn
 rw[List.nodup_append,List.nodup_append] at hn
 obtain ⟨⟨hnA,hnX,hAX⟩,hnB,hAXB⟩:=hn
 refine ⟨OX,hX,hnX,fun b hb=>ho b (by simp[hb]),fun sl D S' w' X' OX' hD hS hs hw hsz hX' hne hnX' hfrom hS' hsl hfree hrl=>?_⟩
 have hAB:∀ b,b∈A∨b∈B→w'.heap[b]?=w.heap[b]?:=fun b hb=>hw b (by rw[ho b (by rcases hb with h | h <;> simp[h])];simp) fun hc=>by
  rcases hb with hb | hb
  ·
   exact hAX b hb b hc rfl
  ·
   exact hAXB b (by simp[hc]) b hb rfl
 obtain ⟨hrep,hkeep⟩:=hput S' w' X' OX' hS hs hAB
 have hlen:(stored sl r D σ).length=σ.length:=stored_length
 generalize hσ':(stored sl r D σ).set r (setP (gt σ r) p X')=σ'
 have hgt:∀ i,gt σ' i=if r=i∧i<σ.length then setP (gt σ r) p X' else cond (gone sl r D (gt σ i)) .ud (gt σ i):=fun i=>by
  rw[←hσ',gt_set,hlen,gt_stored]
 have hgr:gt σ' r=setP (gt σ r) p X':=by rw[hgt,if_pos ⟨rfl,hrl⟩]
 have hroot:∀ y,stale1 r D y=false→(sl=true→refAt1 r D y=false)→∀ r0 q i j c Y,pathOf y=some (r0,q++[(i,j)])→Follow w (tm.getD r0 undef) (gt σ r0) q c Y→Cont Y=true →
   ∃ Y',Follow w' (tm.getD r0 undef) (gt σ' r0) q c Y'∧(∀ i b o,Base c Y i b o→Base c Y' i b o)∧(isRef y→CellKeep w w' c Y Y'):=by
  intro y hy hy2 r0 q i j c Y hp hfY hcY
  by_cases hr0:r0=r
  ·
   subst hr0
   have hq:=stale1_path hy hp
   obtain ⟨Y',hfY',hL | ⟨hq',hY'⟩⟩:=hkeep hsl q c Y hfY (by rcases hD with h | ⟨h,_⟩ <;> omega)
   ·
    refine ⟨Y',by rw[hgr];exact hfY',fun i b o hb=>hb.like hL.1,fun _=>⟨fun j hj=>hj.like hL.1,fun i j b o hb hj hs=>⟨?_,cell?_of_heap (hL.2 _ _ _ hb)⟩⟩⟩
    rcases hL.1 with rfl | ⟨i0,j0,d,rfl,hd⟩
    ·
     exact hs
    ·
     cases hb with
     | own hi =>
      simp only[setCellV,cellAt] at hs hd ⊢
      by_cases hi0:i0=i
      ·
       subst hi0
       simp only[List.getD_eq_getElem?_getD,List.getElem?_set_self hi,Option.getD_some] at hs
       by_cases hj0:j0=j
       ·
        subst hj0
        rename_i rows
        by_cases hj1:j0<(rows[i0]?.getD []).length
        ·
         rw[List.getElem?_set_self hj1] at hs
         simpa[List.getD_eq_getElem?_getD] using hd hs
        ·
         rw[List.getElem?_eq_none (by simpa using hj1)] at hs
         exact hs.elim
       ·
        rw[List.getElem?_set_ne hj0] at hs
        simpa[List.getD_eq_getElem?_getD] using hs
      ·
       simp only[List.getD_eq_getElem?_getD,List.getElem?_set_ne hi0] at hs
       simpa[List.getD_eq_getElem?_getD] using hs
     | lib=>exact hs
     | box =>
      simp only[setCellV,cellAt] at hs hd ⊢
      rename_i cells
      by_cases hj0:j0=j
      ·
       subst hj0
       by_cases hj1:j0<cells.length
       ·
        simp only[List.getD_eq_getElem?_getD,List.getElem?_set_self hj1] at hs
        simpa[List.getD_eq_getElem?_getD] using hd hs
       ·
        simp only[List.getD_eq_getElem?_getD] at hs
        rw[List.getElem?_eq_none (by simpa using hj1)] at hs
        exact hs.elim
      ·
       simp only[List.getD_eq_getElem?_getD,List.getElem?_set_ne hj0] at hs
       simpa[List.getD_eq_getElem?_getD] using hs
   ·
    subst hq' hY'
    obtain ⟨rfl,rfl⟩:=hfY.fun hf
    rcases hD with hD | ⟨hD,hb',hck⟩
    ·
     omega
    ·
     refine ⟨Y',by rw[hgr];exact hfY',hb',fun hry=>hck ?_⟩
     cases hsl':sl with
     | false=>rfl
     | true =>
      have:=hy2 hsl'
      cases y <;> try exact hry.elim
      simp only[pathOf,Option.some.injEq,Prod.mk.injEq] at hp
      obtain ⟨rfl,rfl⟩:=hp
      simp[refAt1,hD] at this
  ·
   obtain ⟨P,hP,_,hoP⟩:=h.rep r0
   have hall:∀ b∈P,w'.heap[b]?=w.heap[b]?:=fun b hb=>hw b (by rw[hoP b hb];simp) fun hc=>by
    have:=ho b (by simp[hc])
    rw[hoP b hb] at this
    exact hr0 (by simpa using this)
   have hg0:gt σ' r0=gt σ r0∨gt σ' r0=.ud∧Cont (gt σ r0)=false:=by
    rw[hgt,if_neg fun e=>hr0 e.1.symm]
    cases e:gone sl r D (gt σ r0) with
    | false=>exact .inl rfl
    | true=>exact .inr ⟨rfl,(gone_free e).1⟩
   have hf':=hfY.mono hP hall
   refine ⟨Y,hf'.congr (tm':=tm) ⟨rfl,hg0.imp id fun h=>⟨by rw[h.1];exact fun h=>h.elim,h.2⟩⟩ hcY,fun i b o hb=>hb,fun _=>⟨fun j hj=>hj,fun i j b o hb hj hs=>⟨hs,?_⟩⟩⟩
   obtain ⟨A',OX',B',e',hX0,_⟩:=hP.focusA hfY
   exact cell?_of_heap (hall b (by rw[e'];simp[hb.owned hX0]))
 have hroot0:∀ r0,(isSlice (gt σ' r0)→isSlice (gt σ r0)):=by
  intro r0 hs
  rw[hgt] at hs
  split at hs
  ·
   rename_i hr0
   obtain ⟨rfl,_⟩:=hr0
   by_cases hp:p=[]
   ·
    subst hp
    have:=hf.get
    simp only[getP] at this
    rw[←this]
    exact hsl hs
   ·
    exact isSlice_setP hs hp
  ·
   revert hs
   cases gone sl r D (gt σ r0) with
   | false=>exact id
   | true=>exact fun h=>h.elim
 refine ⟨by rw[←hσ'];simp[hlen,h.size],fun i=>?_,fun b hb=>?_,fun b hb=>(hS' b hb).2.2,fun b i hb=>?_,fun i=>?_,fun g cs hg=>?_⟩
 ·
  rw[hgt]
  by_cases hi:r=i∧i<σ.length
  ·
   rw[if_pos hi]
   obtain ⟨rfl,hi⟩:=hi
   refine ⟨A++OX'++B,hrep hX' hne,?_,fun b hb=>?_⟩
   ·
    have hd:∀ b,b∈A∨b∈B→b ∉ OX':=fun b hb hc=>by
     rcases hfrom b hc with h1 | h1
     ·
      rcases hb with hb | hb
      ·
       exact hAX b hb b h1 rfl
      ·
       exact hAXB b (by simp[h1]) b hb rfl
     ·
      rw[ho b (by rcases hb with h | h <;> simp[h])] at h1;cases h1
    rw[List.nodup_append,List.nodup_append]
    refine ⟨⟨hnA,hnX',fun a ha c hc e=>?_⟩,hnB,fun a ha c hc e=>?_⟩
    ·
     subst e;exact hd a (.inl ha) hc
    ·
     subst e
     rcases List.mem_append.1 ha with ha | ha
     ·
      exact hAXB a (by simp[ha]) a hc rfl
     ·
      exact hd a (.inr hc) ha
   ·
    by_cases h1:b∈OX'
    ·
     simp[h1]
    ·
     have h2:b∈A∨b∈B:=by simp only[List.mem_append] at hb;rcases hb with (h | h) | h;exact .inl h;exact absurd h h1;exact .inr h
     have h3:b ∉ OX:=fun hc=>by
      rcases h2 with h2 | h2
      ·
       exact hAX b h2 b hc rfl
      ·
       exact hAXB b (by simp[hc]) b h2 rfl
     simp only[h1,h3,if_false]
     exact ho b (by rcases h2 with h | h <;> simp[h])
  ·
   rw[if_neg hi]
   cases e:gone sl r D (gt σ i) with
   | true=>exact ⟨[],.ud _,by simp,by simp⟩
   | false =>
    obtain ⟨P,hP,hnP,hoP⟩:=h.rep i
    by_cases hri:r=i
    ·
     subst hri;exact absurd ⟨rfl,hrl⟩ hi
    ·
     have hnot:∀ b∈P,b ∉ OX:=fun b hb hc=>by
      have h1:=hoP b hb
      rw[ho b (by simp[hc])] at h1
      exact hri (by simpa using h1)
     refine ⟨P,hP.mono hS hs fun b hb=>hw b (by rw[hoP b hb];simp) (hnot b hb),hnP,fun b hb=>?_⟩
     have h1:b ∉ OX':=fun hc=>by
      rcases hfrom b hc with h1 | h1
      ·
       exact hnot b hb h1
      ·
       rw[hoP b hb] at h1;cases h1
     simp only[h1,hnot b hb,if_false]
     exact hoP b hb
 ·
  obtain ⟨h1,h2,_⟩:=hS' b hb
  simp only[h2,if_false]
  by_cases h3:b∈OX
  ·
   simp[h3]
  ·
   simp only[h3,if_false];exact h1.resolve_right h3
 ·
  change (if b∈OX' then some r else if b∈OX then none else who b)=some i at hb
  split at hb
  ·
   exact hX'.low b (by assumption)
  ·
   split at hb
   ·
    cases hb
   ·
    exact Nat.lt_of_lt_of_le (h.lowO b i hb) hsz
 ·
  rw[hgt]
  by_cases hi:r=i∧i<σ.length
  ·
   rw[if_pos hi]
   exact (setP_free hfree fun hp=>hf.cont hp).link
  ·
   rw[if_neg hi]
   cases e:gone sl r D (gt σ i) with
   | true=>exact link_undef ..
   | false=>exact (h.link i).keep (fun y hy=>hroot y (stale_links (gone_stale e) y hy) fun hsl'=>refAt_links (gone_refAt hsl' e) y hy) (fun y _ r0 _=>⟨hroot0 r0,rfl⟩)
 ·
  exact (h.glob g cs hg).mono hS hs
end Go.Zv
namespace Go.Zv
open Go
inductive ZC:Value→V→Prop
 | same (c:Value):ZC c (ofScalar c)
 | none (a:Option Addr) (k:Nat):ZC (.slice a 0 0) (.sl k false [])
def ZCs:List Value→List V→Prop
 | [],[]=>True
 | c::cs,x::xs=>ZC c x∧ZCs cs xs
 | _,_=>False
theorem ZCs.len:∀ {cs:List Value} {xs:List V},ZCs cs xs→xs.length=cs.length
 | [],[],_=>rfl
 | _::_,_::_,h=>by simp[h.2.len]
 | [],_::_,h=>by cases h
 | _::_,[],h=>by cases h
theorem ZCs.get:∀ {cs:List Value} {xs:List V},ZCs cs xs→∀ (i:Nat) (h:i<cs.length),ZC cs[i] (xs.getD i .ud)
 | [],[],_,i,h=>by simp at h
 | c::cs,x::xs,hz,0,h=>hz.1
 | c::cs,x::xs,hz,i+1,h=>by simpa using hz.2.get i (by simpa using h)
 | [],_::_,h,_,_=>by cases h
 | _::_,[],h,_,_=>by cases h
def KindOK (P:Program) (i:TI):TypeDesc→Prop
 | .int k=>i.kind=.int k
 | .bool=>i.kind=.bool
 | .string=>i.kind=.str
 | .pointer _=>i.kind=.ptr
 | .func _ _ _=>i.kind=.fn
 | .slice e=>∃ ti z,P.info? e=some ti∧ti.zero=some z∧i.kind=.slice ti.size ti.bytes∧ZCs z.cells.toList i.ez∧ti.size=z.cells.size∧0<ti.size∧∀ c∈z.cells.toList,c.oneCell'=true
 | .array n e=>i.kind=.arr n (P.cellsOf e) e∧0<P.cellsOf e∧∃ ti,P.info? e=some ti
 | .struct fs=>∃ l,i.kind=.struct l∧l=fs.toList.map (fun f=>(f.offset,f.type,P.cellsOf f.type))∧∀ f∈fs.toList,∃ ti,P.info? f.type=some ti
 | _=>i.kind=.other
structure TyOK (P:Program) (t:Nat) (i:TI):Prop where
 under:∃ d,P.underlying t=some d∧KindOK P i d
 info:∃ ti z,P.info? t=some ti∧ti.size=i.size∧ti.zero=some z∧i.zero=z.cells.toList.map ofScalar∧z.cells.size=i.size∧∀ c∈z.cells.toList,c.oneCell'=true
 one:i.kind.isAgg=false→i.size=1
section
variable {P:Program} (w:World)
theorem run_under {t:Nat} {d:TypeDesc} (h:P.underlying t=some d):(underlying t).run P w=.ok d w:=by
 simp[underlying,h]
theorem run_info {t:Nat} {ti:TypeInfo} (h:P.info? t=some ti):(typeInfo t).run P w=.ok ti w:=by
 simp[typeInfo,h]
theorem run_sizeOf {t:Nat} {ti:TypeInfo} (h:P.info? t=some ti):(sizeOf t).run P w=.ok ti.size w:=by
 simp[sizeOf,run_info w h]
theorem run_zero {t:Nat} {ti:TypeInfo} {z:Value} (h:P.info? t=some ti) (hz:ti.zero=some z):(zeroValue t).run P w=.ok z w:=by
 simp[zeroValue,run_info w h,hz]
theorem cellsOf_info {t:Nat} {ti:TypeInfo} (h:P.info? t=some ti):P.cellsOf t=ti.size:=by
 simp[Program.cellsOf,h]
end
theorem KindOK.agg {P:Program} {i:TI} {d:TypeDesc} (h:KindOK P i d):i.kind.isAgg=true↔∃ x,d=.struct x∨∃ n e,d=.array n e:=by
 cases d <;> simp only[KindOK] at h <;> first
  | (simp[h,TK.isAgg];done)
  | (obtain ⟨ti,z,h1,h2,h3,_⟩:=h;simp[h3,TK.isAgg];done)
  | (obtain ⟨h,_⟩:=h;simp[h,TK.isAgg];done)
  | (obtain ⟨l,h,_⟩:=h;simp[h,TK.isAgg];done)
theorem run_isAgg {P:Program} (w:World) {t:Nat} {i:TI} (h:TyOK P t i):(isAgg t).run P w=.ok i.kind.isAgg w:=by
 obtain ⟨d,hd,hk⟩:=h.under
 have:=hk.agg
 simp only[isAgg,Sem.run_bind,run_under w hd,Result.andThen_ok]
 cases e:i.kind.isAgg with
 | true =>
  obtain ⟨x,rfl | ⟨n,e,rfl⟩⟩:=this.1 e <;> rfl
 | false =>
  cases d <;> first
   | rfl
   | exact absurd (this.2 ⟨_,.inl rfl⟩) (by simp[e])
   | exact absurd (this.2 ⟨#[],.inr ⟨_,_,rfl⟩⟩) (by simp[e])
theorem ofScalar_rep (S:Nat→Prop) (w:World) (c:Value):Rep S w c (ofScalar c) []∧linkFree (ofScalar c)=true:=by
 cases c
 case bool b=>exact ⟨.bool _,rfl⟩
 case int k n=>exact ⟨.int _ _,rfl⟩
 case string s=>exact ⟨.str _,rfl⟩
 case slice a n c =>
  simp only[ofScalar]
  cases e:(Nat.beq n 0&&Nat.beq c 0) with
  | false=>exact ⟨.ud _,rfl⟩
  | true =>
   simp only[Bool.and_eq_true,Nat.beq_eq] at e
   obtain ⟨rfl,rfl⟩:=e
   exact ⟨.nilsl _,rfl⟩
 case pointer a =>
  cases a with
  | none=>exact ⟨.nilp,rfl⟩
  | some a=>exact ⟨.ud _,rfl⟩
 case func fn x y =>
  obtain ⟨x⟩:=x
  obtain ⟨y⟩:=y
  cases fn <;> cases x <;> cases y <;> first | exact ⟨.fn .nil,rfl⟩ | exact ⟨.ud _,rfl⟩
 all_goals exact ⟨.ud _,rfl⟩
theorem ZC.rep {S:Nat→Prop} {w:World} {c:Value} {x:V} (h:ZC c x):Rep S w c x []:=by
 cases h with
 | same=>exact (ofScalar_rep S w c).1
 | none a k=>exact .sl0 a 0 k false (by simp)
theorem ofScalars_rep (S:Nat→Prop) (w:World):∀ cs:List Value,Reps S w cs (cs.map ofScalar) []
 | []=>.nil
 | c::cs=>by simpa using Reps.cons (ofScalar_rep S w c).1 (ofScalars_rep S w cs)
theorem ofConst_rep (S:Nat→Prop) (w:World) (c:Value):Rep S w c (ofConst c) []∧linkFree (ofConst c)=true:=by
 cases c
 case agg cs =>
  simp only[ofConst]
  cases e:cs.toList.all Value.oneCell' with
  | false=>exact ⟨.ud _,rfl⟩
  | true=>exact ⟨.agg (List.all_eq_true.1 e) (ofScalars_rep S w _),rfl⟩
 case tuple cs =>
  obtain ⟨cs⟩:=cs
  cases cs with
  | nil=>exact ⟨.tup .nil,rfl⟩
  | cons=>exact ⟨.ud _,rfl⟩
 all_goals exact ofScalar_rep S w _
theorem Rep.link {S:Nat→Prop} {w:World} {u:Value} {v:V} {O:List Nat} (hr:Rep S w u v O) (hf:linkFree v=true) {tm:Array Value} {σ:List V}:Link w tm σ u v:=by
 cases v <;> first | trivial | cases hf | skip
 case fn f caps =>
  cases hr with
  | @fn _ cs _ h =>
   have hl:∀ {l:List Value} {xs:List V} {O:List Nat},Reps S w l xs O→l.length=xs.length:=by
    intro l xs O h
    induction xs generalizing l O with
    | nil=>cases h;rfl
    | cons x xs ih=>cases h with
     | cons h1 h2=>simp[ih h2]
   refine ⟨cs,rfl,by simpa using hl h,fun i=>?_⟩
   simp only[linkFree,List.all_eq_true] at hf
   by_cases hi:i<caps.length
   ·
    have hm:caps.getD i .ud∈caps:=by rw[List.getD_eq_getElem?_getD,List.getElem?_eq_getElem hi];simp
    have:=hf _ hm
    cases e:caps.getD i .ud <;> rw[e] at this <;> first | trivial | cases this
   ·
    rw[List.getD_eq_getElem?_getD,List.getElem?_eq_none (by omega)];trivial
theorem Rep.plain {S:Nat→Prop} {w:World} {u:Value} {v:V} {O:List Nat} (hr:Rep S w u v O) (h1:Cont v=false) (h2:∀ a l,v≠.tup (a::l)):O=[]:=by
 cases hr <;> first | rfl | cases h1 | skip
 case tup cs vs h =>
  cases vs with
  | nil =>
   have:∀ {l:List Value} {O:List Nat},Reps S w l [] O→O=[]:=fun h=>by cases h;rfl
   exact this h
  | cons a l=>exact absurd rfl (h2 _ _)
theorem opnd_spec {E:Env} {S:Nat→Prop} {who:Nat→Option Nat} {w:World} {a:Act} {σ:List V} (h:Rel E S who w a.tmps σ) (x:Operand) :
  Rep S w (a.eval x) (opnd E σ x) []∧Link w a.tmps σ (a.eval x) (opnd E σ x):=by
 cases x with
 | const c=>exact ⟨(ofConst_rep S w c).1,(ofConst_rep S w c).1.link (ofConst_rep S w c).2⟩
 | func f=>exact ⟨.fn .nil,⟨#[],rfl,rfl,fun i=>by simp[Link1]⟩⟩
 | global g =>
  simp only[opnd]
  cases e:E.glob g with
  | none=>exact ⟨.ud _,trivial⟩
  | some cs =>
   obtain ⟨h1,h2,_⟩:=h.glob g cs e
   exact ⟨.iptr h1 rfl h2,trivial⟩
 | tmp t =>
  obtain ⟨O,hO,_,_⟩:=h.rep t
  have hl:=h.link t
  have he:a.eval (.tmp t)=a.tmps.getD t undef:=rfl
  rw[he]
  simp only[opnd]
  cases e:gt σ t <;> rw[e] at hO hl
  case own n k rows=>exact ⟨.ref _ _ _,.inl ⟨rfl,fun _=>rfl⟩⟩
  case obox cells =>
   refine ⟨.ptr _ _ _,?_⟩
   generalize hu:a.tmps.getD t undef=u at hO
   cases hO with
   | @obox b _ O h1 h2=>exact ⟨[],0,0,_,.obox cells,b,0,rfl,by rw[e,hu];exact .nil _ _,.box,rfl⟩
  case lib kd T e' bs =>
   refine ⟨.ptr _ _ _,?_⟩
   generalize hu:a.tmps.getD t undef=u at hO
   cases hO with
   | @lib b _ _ _ _ O h1=>exact ⟨[],0,0,_,.lib kd T e' bs,b,0,rfl,by rw[e,hu];exact .nil _ _,.lib,rfl⟩
  case tup vs =>
   cases vs with
   | nil=>exact ⟨(hO.plain rfl (by simp)) ▸ hO,trivial⟩
   | cons=>exact ⟨.ud _,trivial⟩
  all_goals exact ⟨(hO.plain rfl (by simp)) ▸ hO,hl⟩
end Go.Zv
namespace Go.Zv
open Go
section
variable {R:Type} {E:Env} {r:R} {K:List V→Option R} {S S':Nat→Prop} {who who':Nat→Option Nat} {w w':World} {a:Act} {dst:Option Nat} {res:Result Next} {σ σ':List V}
theorem Follow.snoc {v c u:Value} {x X:V} {q:Path} {i j b o:Nat} (h:Follow w v x q c X) (hb:Base c X i b o) (hj:InR X j) (hc:w.cell? ⟨b,o+j,none⟩=some u) :
  Follow w v x (q++[(i,j)]) u (cellAt X i j):=by
 induction h with
 | nil =>
  cases hb with
  | own hi=>exact .own hi hj (by rw[←Nat.add_assoc];exact hc) (.nil _ _)
  | box=>exact .box hj (by simpa using hc) (.nil _ _)
  | lib=>exact hj.elim
 | own hi hj' hc' _ ih=>exact .own hi hj' hc' (ih hb hj)
 | box hj' hc' _ ih=>exact .box hj' hc' (ih hb hj)
theorem dropLast_snoc (q:Path) (x:Nat×Nat):(q++[x]).dropLast=q:=by simp
theorem getLast_snoc (q:Path) (x:Nat×Nat):(q++[x]).getLast?=some x:=by simp
theorem place_sem {k:Nat} {σ:List V} {r0:Nat} {p:Path} {K:Bool→List (List V)→Option R} {I:Bool→List (List V)→Option R} {tm:Array Value} {u:Value}
  (hl:Link w tm σ u (.ref r0 p)) (hp:place k σ r0 p K I=some r) :
  (∃ n rows X,K n rows=some r∧Follow w (tm.getD r0 undef) (gt σ r0) p u X∧(X=.own n k rows∨X=.nilsl∧n=false∧rows=[])) ∨
  (∃ f rows,I f rows=some r∧Follow w (tm.getD r0 undef) (gt σ r0) p u (.sl k f rows)):=by
 have byHead:∀ X:V,(isSlice X→Follow w (tm.getD r0 undef) (gt σ r0) p u X) →
   (match X with
    | .own n k' rows=>if k'=k then K n rows else none
    | .sl k' f rows=>if k'=k then I f rows else none
    | _=>none)=some r →
   (∃ n rows X,K n rows=some r∧Follow w (tm.getD r0 undef) (gt σ r0) p u X∧(X=.own n k rows∨X=.nilsl∧n=false∧rows=[])) ∨
   (∃ f rows,I f rows=some r∧Follow w (tm.getD r0 undef) (gt σ r0) p u (.sl k f rows)):=by
  intro X hf hm
  cases X <;> try (cases hm;done)
  case own n k' rows =>
   dsimp only at hm
   split at hm
   ·
    rename_i e;subst e;exact .inl ⟨n,rows,_,hm,hf trivial,.inl rfl⟩
   ·
    cases hm
  case sl k' f rows =>
   dsimp only at hm
   split at hm
   ·
    rename_i e;subst e;exact .inr ⟨f,rows,hm,hf trivial⟩
   ·
    cases hm
 simp only[Link,Link1] at hl
 rcases hl with ⟨rfl,hu⟩ | ⟨q,i,j,c,X,b,o,rfl,hf,hb,hj,hu⟩
 ·
  exact byHead _ (fun hs=>by rw[←hu hs];exact .nil _ _) hp
 ·
  have hX:X=getP (gt σ r0) q:=hf.get
  have hcell:∀ Y,Y=getP (gt σ r0) (q++[(i,j)])→isSlice Y→Follow w (tm.getD r0 undef) (gt σ r0) (q++[(i,j)]) u Y:=fun Y hY hs=>by
   have hg:cellAt X i j=getP (gt σ r0) (q++[(i,j)]):=by
    rw[hX]
    generalize gt σ r0=x
    clear hp hu hf hb hj hX hY hs byHead
    induction q generalizing x with
    | nil=>rfl
    | cons a q ih=>obtain ⟨a1,a2⟩:=a;simpa[getP] using ih _
   rw[hY,←hg]
   rw[hY,←hg] at hs
   exact hf.snoc hb hj (hu hs)
  unfold place at hp
  dsimp only at hp
  split at hp
  ·
   rename_i h;simp at h
  ·
   rw[dropLast_snoc,←hX] at hp
   split at hp
   ·
    exact byHead _ (hcell _ rfl) hp
   ·
    rename_i k1 rows1
    cases e:asOwn k (getP (gt σ r0) (q++[(i,j)])) with
    | none=>rw[e] at hp;cases hp
    | some rows =>
     rw[e] at hp
     simp only[Option.bind_some] at hp
     unfold asOwn at e
     split at e
     ·
      rename_i k' rows' he
      split at e
      ·
       rename_i hk;subst hk;cases e
       exact .inl ⟨false,rows,_,hp,hcell _ he.symm trivial,.inl rfl⟩
      ·
       cases e
     ·
      rename_i he
      cases e
      exact .inl ⟨false,[],_,hp,hcell _ he.symm trivial,.inr ⟨rfl,rfl,rfl⟩⟩
     ·
      cases e
   ·
    cases hp
theorem froz_mem {d:Nat} (hS:∀ b,S b→S' b) (ih:∀ {v:Value} {x:V} {O:List Nat},Rep S w v x O→(∀ b∈O,S' b)→Rep S' w v (froz d x) []) :
  ∀ {b o:Nat} {xs:List V} {O:List Nat},Mem S w b o xs O→(∀ b∈O,S' b)→Mem S' w b o (xs.map (froz d)) []
 | _,_,_,_,.nil b o,_=>.nil b o
 | _,_,_,_,.cons h1 h0 h2 h3,hO=>by
  simpa using Mem.cons h1 h0 (ih h2 fun b hb=>hO b (by simp[hb])) (froz_mem hS ih h3 fun b hb=>hO b (by simp[hb]))
theorem froz_rep (hS:∀ b,S b→S' b):∀ {d:Nat} {v:Value} {x:V} {O:List Nat},Rep S w v x O→(∀ b∈O,S' b)→Rep S' w v (froz d x) []
 | 0,v,_,_,_,_=>.ud v
 | d+1,v,x,O,h,hO=>by
  have hm:∀ {v:Value} {x:V},Rep S w v x []→Rep S' w v x []:=fun h=>h.mono hS (fun _ _=>rfl) (by simp)
  cases x
  case own n k rows =>
   cases h with
   | own0=>exact .sl0 _ _ _ _ (by simp) |> fun (h:Rep S' w _ (.sl k false []) [])=>by cases n <;> simpa[froz] using h
   | @own b o c _ _ _ O h1 h2 h3 h4 h5 h6 =>
    by_cases hr:rows=[]
    ·
     subst hr
     have:=Rep.sl0 (S:=S') (w:=w) (some ⟨b,o,none⟩) c k false (by simp)
     cases n <;> simpa[froz] using this
    ·
     cases n with
     | false =>
      have:=h5 rfl
      subst this
      exact .sl h1 hr h2 (hO b (by simp)) ⟨h4,by simp⟩ (h6.mono hS (fun _ _=>rfl) (.inr rfl) (by simp))
     | true =>
      have hf:=froz_mem hS (fun h' hO'=>froz_rep (d:=d) hS h' hO') h6 (fun b hb=>hO b (by simp[hb]))
      have e:(rows.map fun r=>r.map (froz d)).flatten=rows.flatten.map (froz d):=by
       rw[List.map_flatten]
      rw[←e] at hf
      have:=Rep.sl (S:=S') (w:=w) (c:=c) (f:=false) h1 (rows:=rows.map fun r=>r.map (froz d)) (by simpa using hr)
       (by intro r hr;obtain ⟨r',h',rfl⟩:=List.mem_map.1 hr;simpa using h2 r' h') (hO b (by simp)) ⟨by simpa using h4,by simp⟩ hf
      simpa[froz] using this
  case obox=>exact .ud v
  case lib=>exact .ud v
  case tup=>exact .ud v
  all_goals exact hm ((h.plain rfl (by simp)) ▸ h)
theorem Follow.lt {tm:Array Value} {r0:Nat} {p:Path} {u:Value} {X:V} (h:Follow w (tm.getD r0 undef) (gt σ r0) p u X) (hX:X≠.ud):r0<σ.length:=by
 rcases Nat.lt_or_ge r0 σ.length with h1 | h1
 ·
  exact h1
 ·
  rw[gt_len h1] at h
  obtain ⟨_,_,rfl⟩:=h.stop' (by rfl)
  exact absurd rfl hX
theorem take_sem {tm:Array Value} (h:Rel E S who w tm σ) {r0:Nat} {p:Path} {u:Value} {X:V} (hf:Follow w (tm.getD r0 undef) (gt σ r0) p u X) (hX:X≠.ud) :
  ∃ OX who',Rep S w u X OX∧OX.Nodup∧(∀ b∈OX,who b≠none∧who' b=none∧¬S b)∧Rel E S who' w tm (setPlace σ r0 p .ud)∧Step S who w S who' w:=by
 obtain ⟨OX,h1,h2,h3,h4⟩:=h.turn hf
 have hns:∀ b∈OX,¬S b:=fun b hb hs=>by have:=h.sep b hs;rw[h3 b hb] at this;cases this
 have:=h4 false p.length S w .ud [] (.inl rfl) (fun _ h=>h) (fun _ _=>rfl) (fun _ _ _=>rfl) (Nat.le_refl _) (.ud _) (fun _=>rfl) (by simp) (by simp)
  (fun b hb=>⟨.inl (h.sep b hb),by simp,h.low b hb⟩) (fun h=>h.elim) trivial (hf.lt hX)
 refine ⟨OX,_,h1,h2,fun b hb=>⟨by rw[h3 b hb];simp,by simp[hb],hns b hb⟩,this,⟨Nat.le_refl _,fun _ _ _=>rfl,fun _ h=>h,fun _ h=>.inl h,fun b hb=>.inl ?_,Same.refl _⟩⟩
 intro hn
 apply hb
 simp only[List.not_mem_nil,if_false]
 split
 ·
  rfl
 ·
  exact hn
theorem freeze_sem {tm:Array Value} (h:Rel E S who w tm σ) {r0:Nat} {p:Path} {u:Value} {n:Bool} {k:Nat} {rows rows':List (List V)} {X:V} (hf:Follow w (tm.getD r0 undef) (gt σ r0) p u X)
  (hX:X=.own n k rows∨X=.nilsl∧n=false∧rows=[]) {k':Nat} {f':Bool} (hz:froz 3 (.own n k rows)=.sl k' f' rows') :
  ∃ S' who',Rel E S' who' w tm (setPlace σ r0 p (.sl k false rows'))∧Rep S' w u (.sl k false rows') []∧Step S who w S' who' w:=by
 obtain ⟨OX,h1,h2,h3,h4⟩:=h.turn hf
 have hlow:∀ b∈OX,b<w.heap.size:=h1.low
 have hrep:Rep (fun b=>S b∨b∈OX) w u (.sl k false rows') []:=by
  have h1':Rep S w u (.own n k rows) OX:=by
   rcases hX with rfl | ⟨rfl,rfl,rfl⟩
   ·
    exact h1
   ·
    cases h1;exact .own0 _ _ _
  have:=froz_rep (S':=fun b=>S b∨b∈OX) (d:=3) (fun _ h=>.inl h) h1' (fun b hb=>.inr hb)
  have e:froz 3 (.own n k rows)=.sl k false rows':=by
   simp only[froz] at hz ⊢
   cases hz;rfl
  rwa [e] at this
 have:=h4 false p.length (fun b=>S b∨b∈OX) w (.sl k false rows') [] (.inl rfl) (fun _ h=>.inl h) (fun _ _=>rfl) (fun _ _ _=>rfl) (Nat.le_refl _) hrep (fun _=>rfl) (by simp) (by simp)
  (fun b hb=>⟨hb.imp (h.sep b) id,by simp,hb.elim (h.low b) (hlow b)⟩) (fun _=>by rcases hX with rfl | ⟨rfl,_⟩ <;> trivial) trivial
  (hf.lt (by rcases hX with rfl | ⟨rfl,_⟩ <;> simp))
 refine ⟨_,_,this,hrep,⟨Nat.le_refl _,fun _ _ _=>rfl,fun _ h=>.inl h,fun b hb=>hb.imp id fun hb=>.inl (by rw[h3 b hb];simp),fun b hb=>.inl ?_,Same.refl _⟩⟩
 intro hn
 apply hb
 simp only[List.not_mem_nil,if_false]
 split
 ·
  rfl
 ·
  exact hn
theorem share_sem {k:Nat} {v:V} {u:Value} {tm:Array Value} {G:Bool→List (List V)→List V→Option R} (h:Rel E S who w tm σ) (hr:Rep S w u v []) (hl:Link w tm σ u v) (hs:share k σ v G=some r) :
  ∃ f rows σ' S' who',G f rows σ'=some r∧Rel E S' who' w tm σ'∧Rep S' w u (.sl k f rows) []∧Step S who w S' who' w:=by
 unfold share at hs
 split at hs
 ·
  split at hs
  ·
   rename_i e;subst e
   exact ⟨_,_,σ,S,who,hs,h,hr,Step.refl _ _ _⟩
  ·
   cases hs
 ·
  refine ⟨_,_,σ,S,who,hs,h,?_,Step.refl _ _ _⟩
  cases hr;exact .sl0 _ _ _ _ (by simp)
 ·
  rcases place_sem hl hs with ⟨n,rows,X,hK,hf,hX⟩ | ⟨f,rows,hK,hf⟩
  ·
   split at hK
   ·
    rename_i hz
    obtain ⟨S',who',h1,h2,h3⟩:=freeze_sem h hf hX hz
    exact ⟨_,_,_,S',who',hK,h1,h2,h3⟩
   ·
    cases hK
  ·
   obtain ⟨O,hO,_,_⟩:=h.rep _
   obtain ⟨A,OX,B,e,hX,_⟩:=hO.focusA hf
   exact ⟨f,rows,σ,S,who,hK,h,(hX.plain rfl (by simp)) ▸ hX,Step.refl _ _ _⟩
 ·
  cases hs
def RowsIn (S:Nat→Prop) (w:World) (u:Value) (k:Nat) (rows:List (List V)):Prop :=
 ∃ A c,u=.slice A rows.length c∧(∀ r∈rows,r.length=k)∧(rows≠[]→0<k∧∃ b o,A=some ⟨b,o,none⟩∧Mem S w b o rows.flatten [])
theorem RowsIn.of_sl {u:Value} {k:Nat} {f:Bool} {rows:List (List V)} {O:List Nat} (h:Rep S w u (.sl k f rows) O):RowsIn S w u k rows:=by
 cases h with
 | sl0 a c k f h=>exact ⟨a,c,rfl,by simp,fun h=>absurd rfl h⟩
 | sl h1 h2 h3 h4 h5 h6=>exact ⟨_,_,rfl,h3,fun _=>⟨h1,_,_,rfl,h6⟩⟩
theorem RowsIn.of_own {u:Value} {k:Nat} {rows:List (List V)} {O:List Nat} (h:Rep S w u (.own false k rows) O):RowsIn S w u k rows:=by
 cases h with
 | own0=>exact ⟨_,0,rfl,by simp,fun h=>absurd rfl h⟩
 | own h1 h2 h3 h4 h5 h6 =>
  have:=h5 rfl
  subst this
  exact ⟨_,_,rfl,h2,fun _=>⟨h1,_,_,rfl,h6⟩⟩
theorem reads_sem {k:Nat} {v:V} {u:Value} {tm:Array Value} {G:List (List V)→Option R} (h:Rel E S who w tm σ) (hr:Rep S w u v []) (hl:Link w tm σ u v) (hs:reads k σ v G=some r) :
  ∃ rows,G rows=some r∧RowsIn S w u k rows:=by
 unfold reads at hs
 split at hs
 ·
  split at hs
  ·
   rename_i e;subst e
   exact ⟨_,hs,.of_sl hr⟩
  ·
   cases hs
 ·
  cases hr
  exact ⟨[],hs,_,0,rfl,by simp,fun h=>absurd rfl h⟩
 ·
  obtain ⟨O,hO,_,_⟩:=h.rep (by assumption)
  rcases place_sem hl hs with ⟨n,rows,X,hK,hf,hX⟩ | ⟨f,rows,hK,hf⟩
  ·
   obtain ⟨A,OX,B,e,hX',_⟩:=hO.focusA hf
   cases n with
   | true=>cases hK
   | false =>
    refine ⟨rows,hK,?_⟩
    rcases hX with rfl | ⟨rfl,_,rfl⟩
    ·
     exact .of_own hX'
    ·
     cases hX';exact ⟨_,0,rfl,by simp,fun h=>absurd rfl h⟩
  ·
   obtain ⟨A,OX,B,e,hX',_⟩:=hO.focusA hf
   exact ⟨rows,hK,.of_sl hX'⟩
 ·
  cases hs
end
end Go.Zv
namespace Go.Zv
open Go
section
variable {R:Type} {P:Program} {E:Env} {r:R} {K:List V→Option R} {S S':Nat→Prop} {who who':Nat→Option Nat} {w w':World} {a:Act} {dst:Option Nat} {res:Result Next} {σ σ':List V}
theorem coerce_sem {t:TK} {c:V} {G:V→Option R} (h:coerce t c G=some r) :
  ∃ v,G v=some r∧linkFree v=true∧∀ {S:Nat→Prop} {w:World} {u:Value},Rep S w u c []→Rep S w u v []:=by
 unfold coerce at h
 split at h
 ·
  cases e:asInt _ c with
  | none=>rw[e] at h;cases h
  | some n =>
   rw[e] at h
   unfold asInt at e
   split at e
   ·
    split at e
    ·
     rename_i hk;subst hk;cases e;exact ⟨_,h,rfl,id⟩
    ·
     cases e
   ·
    cases e
 ·
  cases e:asBool c with
  | none=>rw[e] at h;cases h
  | some n =>
   rw[e] at h
   unfold asBool at e
   split at e
   ·
    cases e;exact ⟨_,h,rfl,id⟩
   ·
    cases e
 ·
  cases e:asStr c with
  | none=>rw[e] at h;cases h
  | some n =>
   rw[e] at h
   unfold asStr at e
   split at e
   ·
    cases e;exact ⟨_,h,rfl,id⟩
   ·
    cases e
 ·
  cases e:asSl _ c with
  | none=>rw[e] at h;cases h
  | some n =>
   rw[e] at h
   unfold asSl at e
   split at e
   ·
    split at e
    ·
     rename_i hk;subst hk;cases e
     refine ⟨_,h,rfl,fun hr=>?_⟩
     cases hr with
     | sl0 a c k f h=>exact .sl0 _ _ _ _ (by simp)
     | sl h1 h2 h3 h4 h5 h6=>exact .sl h1 h2 h3 h4 ⟨h5.1,by simp⟩ h6
    ·
     cases e
   ·
    cases e;exact ⟨_,h,rfl,fun hr=>by cases hr;exact .sl0 _ _ _ _ (by simp)⟩
   ·
    cases e
 ·
  split at h
  ·
   exact ⟨_,h,rfl,id⟩
  ·
   cases h
 ·
  split at h
  ·
   rename_i f caps
   cases e:linkFree (.fn f caps) with
   | false=>rw[e] at h;cases h
   | true=>rw[e] at h;exact ⟨_,h,e,id⟩
  ·
   cases h
 ·
  cases h
theorem add_none (b o i:Nat):(⟨b,o,none⟩:Addr).add i=⟨b,o+i,none⟩:=by
 unfold Addr.add;split
 ·
  rename_i h;subst h;rfl
 ·
  rfl
theorem Reps.len:∀ {vs:List Value} {xs:List V} {O:List Nat},Reps S w vs xs O→vs.length=xs.length
 | _,_,_,.nil=>rfl
 | _,_,_,.cons _ h=>by simp[Reps.len h]
theorem run_loadCells {b:Nat}:∀ {xs:List V} {o i:Nat} {O:List Nat} {acc:Array Value},Mem S w b (o+i) xs O →
  ∃ cs:List Value,(loadCellsFrom ⟨b,o,none⟩ i xs.length acc).run P w=.ok (acc++cs.toArray) w∧Reps S w cs xs O∧∀ c∈cs,c.oneCell'=true
 | [],o,i,_,acc,.nil _ _=>⟨[],by simp[loadCellsFrom],.nil,by simp⟩
 | x::xs,o,i,_,acc,.cons (v:=v) h1 h0 h2 h3=>by
  obtain ⟨cs,hr,hm,h4⟩:=run_loadCells (o:=o) (i:=i+1) (acc:=acc.push v) (by rw[←Nat.add_assoc];exact h3)
  refine ⟨v::cs,?_,.cons h2 hm,by simpa[h0] using h4⟩
  simp only[List.length_cons,loadCellsFrom,Sem.run_bind,run_load,add_none,h1,Result.andThen_ok,hr]
  simp
theorem run_loadVar_agg {t:Nat} {i:TI} (hT:TyOK P t i) (ha:i.kind.isAgg=true) {b o:Nat} {xs:List V} {O:List Nat} (hl:xs.length=i.size) (hm:Mem S w b o xs O) :
  ∃ cs:Array Value,(loadVar t ⟨b,o,none⟩).run P w=.ok (.agg cs) w∧Reps S w cs.toList xs O∧∀ c∈cs.toList,c.oneCell'=true:=by
 obtain ⟨ti,z,hi,hs,_⟩:=hT.info
 obtain ⟨cs,hr,hm,h4⟩:=run_loadCells (P:=P) (o:=o) (i:=0) (acc:=#[]) (by simpa using hm)
 refine ⟨cs.toArray,?_,by simpa using hm,by simpa using h4⟩
 simp only[loadVar,Sem.run_bind,run_isAgg w hT,Result.andThen_ok,ha,if_true,run_sizeOf w hi,loadCells,hs,←hl,hr]
 simp
theorem run_loadVar_one {t:Nat} {i:TI} (hT:TyOK P t i) (ha:i.kind.isAgg=false) {b o:Nat} {u:Value} (hc:w.cell? ⟨b,o,none⟩=some u) :
  (loadVar t ⟨b,o,none⟩).run P w=.ok u w:=by
 simp only[loadVar,Sem.run_bind,run_isAgg w hT,Result.andThen_ok,ha]
 simp[hc]
theorem cut_eq {l:List V} {o n:Nat} (h:o+n≤l.length):cut l o n=((l.drop o).take n).map .cl:=by
 apply List.ext_getElem
 ·
  simp[cut];omega
 ·
  intro i h1 h2
  simp[cut] at h1
  simp[cut,List.getD_eq_getElem?_getD,List.getElem?_eq_getElem (show o+i<l.length by omega)]
theorem Reps.cl:∀ {vs:List Value} {xs:List V} {O:List Nat},Reps S w vs xs O→O=[]→Reps S w vs (xs.map .cl) []
 | _,_,_,.nil,_=>.nil
 | _,_,_,.cons h1 h2,h=>by
  obtain ⟨rfl,rfl⟩:=List.append_eq_nil_iff.1 h
  simpa using Reps.cons (Rep.cl h1) (Reps.cl h2 rfl)
theorem Mem.sub {b o:Nat} {xs:List V} {O:List Nat} (h:Mem S w b o xs O) (off n:Nat) (hn:off+n≤xs.length) :
  ∃ O1 O2 O3,O=O1++O2++O3∧Mem S w b o (xs.take off) O1∧Mem S w b (o+off) ((xs.drop off).take n) O2∧Mem S w b (o+off+n) (xs.drop (off+n)) O3:=by
 have e:xs=xs.take off++((xs.drop off).take n++xs.drop (off+n)):=by
  rw[←List.drop_drop,List.take_append_drop,List.take_append_drop]
 rw[e] at h
 obtain ⟨O1,P,rfl,m1,m2⟩:=h.split
 obtain ⟨O2,O3,rfl,m2,m3⟩:=m2.split
 have h1:(xs.take off).length=off:=by simp;omega
 have h2:((xs.drop off).take n).length=n:=by simp;omega
 rw[h1] at m2 m3
 rw[h2] at m3
 exact ⟨O1,O2,O3,by simp,m1,m2,m3⟩
theorem goodCell_plain {c:V} (h:goodCells [c]=true):Cont c=false∧(∀ a l,c≠.tup (a::l)):=by
 cases c <;> simp_all [goodCells,Cont]
theorem Follow.rep {tm:Array Value} {r0:Nat} {q:Path} {c:Value} {X:V} (h:Rel E S who w tm σ) (hf:Follow w (tm.getD r0 undef) (gt σ r0) q c X):∃ O,Rep S w c X O∧∀ b∈O,who b=some r0:=by
 obtain ⟨O,hO,_,ho⟩:=h.rep r0
 obtain ⟨A,OX,B,e,hX,_⟩:=hO.focusA hf
 exact ⟨OX,hX,fun b hb=>ho b (by simp[e,hb])⟩
theorem ptr_sem {tm:Array Value} {r0:Nat} {p:Path} {u:Value} (hl:Link w tm σ u (.ptr r0 p)) :
  ∃ q i j c X b o,p=q++[(i,j)]∧p.getLast?=some (i,j)∧p.dropLast=q∧getP (gt σ r0) p.dropLast=X∧Follow w (tm.getD r0 undef) (gt σ r0) q c X∧Base c X i b o∧u=.pointer (some ⟨b,o+j,none⟩):=by
 obtain ⟨q,i,j,c,X,b,o,rfl,hf,hb,hu⟩:=hl
 exact ⟨q,i,j,c,X,b,o,rfl,getLast_snoc _ _,dropLast_snoc _ _,by rw[dropLast_snoc];exact hf.get.symm,hf,hb,hu⟩
theorem Base.row {c:Value} {X:V} {i b o:Nat} {O:List Nat} (hb:Base c X i b o) (hr:Rep S w c X O) (hnl:∀ kd T e bs,X≠.lib kd T e bs) :
  (∃ n k rows,X=.own n k rows∧i<rows.length∧(∀ r∈rows,r.length=k)∧∃ O1 O2 O3,O=b::(O1++O2++O3)∧(n=false→O2=[])∧Mem S w b o (rows.getD i []) O2∧OpenRow k w b (o+k)) ∨
  (∃ cells O',X=.obox cells∧i=0∧o=0∧O=b::O'∧Mem S w b 0 cells O'∧OpenRow 1 w b cells.length):=by
 cases hb with
 | lib=>exact absurd rfl (hnl _ _ _ _)
 | @own _ _ _ _ k _ n rows hi =>
  cases hr with
  | own0=>simp at hi
  | own h1 h2 h3 h4 h5 h6 =>
   refine .inl ⟨n,k,rows,rfl,hi,h2,?_⟩
   have hlt:=flat_lt (j:=k-1) (k:=k) hi (by omega)
   obtain ⟨O1,O2,O3,e,_,m2,_⟩:=h6.sub (i*k) k (by rw[flatten_length h2];omega)
   have he:(rows.flatten.drop (i*k)).take k=rows.getD i []:=by
    apply List.ext_getElem?
    intro j
    by_cases hj:j<k
    ·
     have:=flatten_getD h2 hi hj
     simp only[List.getD_eq_getElem?_getD] at this ⊢
     rw[List.getElem?_take_of_lt hj,List.getElem?_drop]
     have l1:i*k+j<rows.flatten.length:=by rw[flatten_length h2];exact flat_lt hi hj
     have l2:j<(rows[i]?.getD []).length:=by
      have:=h2 _ (getD_mem hi)
      rw[List.getD_eq_getElem?_getD] at this;omega
     rw[List.getElem?_eq_getElem l1,List.getElem?_eq_getElem l2] at this ⊢
     simpa using this
    ·
     have:=h2 _ (getD_mem hi)
     rw[List.getElem?_eq_none (by simp;omega),List.getElem?_eq_none (by omega)]
   rw[he] at m2
   refine ⟨O1,O2,O3,by rw[e],fun hn=>by have:=h5 hn;rw[e] at this;simp at this;simp[this],m2,?_⟩
   obtain ⟨cs,e,lo,hi',g1,g2,g3⟩:=h3
   refine ⟨cs,e,lo,hi',g1,Nat.le_trans ?_ g2,g3⟩
   have:=Nat.mul_le_mul_right k h4
   omega
 | box =>
  cases hr with
  | obox h1 h2=>exact .inr ⟨_,_,rfl,rfl,rfl,rfl,h2,h1⟩
end
end Go.Zv
namespace Go.Zv
open Go
section
variable {R:Type} {P:Program} {E:Env} {r:R} {K:List V→Option R} {S S':Nat→Prop} {who who':Nat→Option Nat} {w w':World} {a:Act} {dst:Option Nat} {res:Result Next} {σ σ':List V}
theorem coerce_plain {t:TK} {c:V} {G:V→Option R} (h:coerce t c G=some r):Cont c=false∧(∀ a l,c≠.tup (a::l)):=by
 cases c <;> first
  | (refine ⟨rfl,?_⟩;simp;done)
  | (cases t <;> simp[coerce,asInt,asBool,asStr,asSl] at h)
theorem loadCell_sem {t:TK} {c:V} {r0:Nat} {p:Path} {G:V→Option R} {u:Value} {O:List Nat} {tm:Array Value} (h:loadCell t c r0 p G=some r) (hr:Rep S w u c O)
  (hl:Link w tm σ u (.ref r0 p)):∃ v,G v=some r∧Rep S w u v []∧Link w tm σ u v:=by
 have hco:∀ {t:TK} {c:V} {O:List Nat},Rep S w u c O→coerce t c G=some r→∃ v,G v=some r∧Rep S w u v []∧Link w tm σ u v:=fun hr hc=>by
  obtain ⟨p1,p2⟩:=coerce_plain hc
  obtain ⟨v,h1,h2,h3⟩:=coerce_sem hc
  have:=h3 ((hr.plain p1 p2) ▸ hr)
  exact ⟨v,h1,this,this.link h2⟩
 unfold loadCell at h
 split at h
 ·
  split at h
  ·
   split at h
   ·
    exact ⟨_,h,.ref _ _ _,hl⟩
   ·
    cases h
  ·
   split at h
   ·
    rename_i e;subst e
    exact ⟨_,h,(hr.plain rfl (by simp)) ▸ hr,trivial⟩
   ·
    cases h
  ·
   cases hr;exact ⟨_,h,.own0 _ _ _,trivial⟩
  ·
   cases hr with
   | cl hr=>exact hco hr h
  ·
   cases h
 ·
  split at h
  ·
   cases hr with
   | cl hr=>exact hco hr h
  ·
   exact hco hr h
theorem setRange_length {cells cs:List V} {o:Nat} (h:o+cs.length≤cells.length):(setRange cells o cs).length=cells.length:=by
 simp[setRange];omega
theorem setRange_getD {cells cs:List V} {o j:Nat} (h:o+cs.length≤cells.length) :
  (setRange cells o cs).getD j .ud=if o≤j∧j<o+cs.length then cs.getD (j-o) .ud else cells.getD j .ud:=by
 simp only[setRange,List.getD_eq_getElem?_getD]
 have hl:(cells.take o).length=o:=by simp;omega
 by_cases h1:j<o
 ·
  rw[List.append_assoc,List.getElem?_append_left (by omega),List.getElem?_take_of_lt h1,if_neg (by omega)]
 ·
  by_cases h2:j<o+cs.length
  ·
   rw[List.append_assoc,List.getElem?_append_right (by omega),hl,List.getElem?_append_left (by omega),if_pos (by omega)]
  ·
   rw[List.getElem?_append_right (by simp;omega),List.getElem?_drop,if_neg (by omega)]
   simp only[List.length_append,hl]
   congr 2;omega
def shareCell (c:V):V:=match c with
 | .own n k rows=>froz 3 (.own n k rows)
 | c=>c
theorem shareCells_eq:∀ cs:List V,shareCells cs=cs.map shareCell
 | []=>rfl
 | c::cs=>by
  simp only[shareCells,shareCells_eq cs,List.map_cons]
  cases c <;> rfl
theorem shareCell_slice {c:V} (h:isSlice (shareCell c)):isSlice c:=by
 cases c <;> first | exact h | trivial
theorem shareCell_rep (hS:∀ b,S b→S' b) {u:Value} {c:V} {O:List Nat} (h:Rep S w u c O) (hO:∀ b∈O,S' b) (hg:goodCells [shareCell c]=true):Rep S' w u (shareCell c) []:=by
 by_cases hc:∃ n k rows,c=.own n k rows
 ·
  obtain ⟨n,k,rows,rfl⟩:=hc
  exact froz_rep (d:=3) hS h hO
 ·
  have e:shareCell c=c:=by cases c <;> first | rfl | exact absurd ⟨_,_,_,rfl⟩ hc
  rw[e] at hg ⊢
  obtain ⟨h1,h2⟩:=goodCell_plain hg
  have:=h.plain h1 h2
  subst this
  exact h.mono hS (fun _ _=>rfl) (by simp)
theorem share_reps (hS:∀ b,S b→S' b):∀ {us:List Value} {cs:List V} {O:List Nat},Reps S w us cs O→(∀ b∈O,S' b)→goodCells (cs.map shareCell)=true→Reps S' w us (cs.map shareCell) []
 | _,_,_,.nil,_,_=>.nil
 | _,_,_,.cons h1 h2,hO,hg=>by
  simp only[List.map_cons,goodCells,List.all_cons,Bool.and_eq_true] at hg
  simpa using Reps.cons (shareCell_rep hS h1 (fun b hb=>hO b (by simp[hb])) (by simp[goodCells,hg.1])) (share_reps hS h2 (fun b hb=>hO b (by simp[hb])) (by simpa[goodCells] using hg.2))
theorem share_mem (hS:∀ b,S b→S' b):∀ {b o:Nat} {cs:List V} {O:List Nat},Mem S w b o cs O→(∀ b∈O,S' b)→goodCells (cs.map shareCell)=true→Mem S' w b o (cs.map shareCell) []
 | _,_,_,_,.nil _ _,_,_=>.nil _ _
 | _,_,_,_,.cons h0 h9 h1 h2,hO,hg=>by
  simp only[List.map_cons,goodCells,List.all_cons,Bool.and_eq_true] at hg
  simpa using Mem.cons h0 h9 (shareCell_rep hS h1 (fun b hb=>hO b (by simp[hb])) (by simp[goodCells,hg.1])) (share_mem hS h2 (fun b hb=>hO b (by simp[hb])) (by simpa[goodCells] using hg.2))
theorem noOwn_mem:∀ {b o:Nat} {cs:List V} {O:List Nat},Mem S w b o cs O→hasOwn cs=false→goodCells (cs.map shareCell)=true→O=[]∧cs.map shareCell=cs
 | _,_,_,_,.nil _ _,_,_=>⟨rfl,rfl⟩
 | _,_,c::cs,_,.cons h0 _ h1 h2,hn,hg=>by
  simp only[List.map_cons,goodCells,List.all_cons,Bool.and_eq_true] at hg
  simp only[hasOwn,List.any_cons,Bool.or_eq_false_iff] at hn
  obtain ⟨e1,e2⟩:=noOwn_mem h2 (by simpa[hasOwn] using hn.2) (by simpa[goodCells] using hg.2)
  have e:shareCell c=c:=by cases c <;> first | rfl | (simp at hn)
  have hg1:goodCells [shareCell c]=true:=by simp[goodCells,hg.1]
  rw[e] at hg1
  obtain ⟨g1,g2⟩:=goodCell_plain hg1
  have:=h1.plain g1 g2
  subst this
  exact ⟨by simp[e1],by rw[List.map_cons,e,e2]⟩
theorem load_sem {t:Nat} {ty:Option TI} {tm:Array Value} {x:V} {u:Value} {G:V→List V→Option R} (hT:∀ i,ty=some i→TyOK P t i) (h:Rel E S who w tm σ) (hr:Rep S w u x [])
  (hl:Link w tm σ u x) (hs:load ty σ x G=some r) :
  ∃ v σ' S' who' u',(Instr.loadAt t u).run P w=.ok u' w∧G v σ'=some r∧Rel E S' who' w tm σ'∧Rep S' w u' v []∧Link w tm σ' u' v∧Step S who w S' who' w:=by
 unfold load at hs
 split at hs
 ·
  cases hs
 rename_i i
 have hT:=hT i rfl
 split at hs
 ·
  -- a pointer into what is immutable
  rename_i cells off
  cases hr with
  | @iptr b o _ ad _ hSb ha hm =>
   subst ha
   cases hag:i.kind.isAgg with
   | true =>
    rw[hag] at hs
    simp only[cond_true] at hs
    split at hs
    ·
     rename_i hle
     obtain ⟨O1,O2,O3,e,_,m2,_⟩:=hm.sub off i.size hle
     have:O2=[]:=by simp at e;simp[e]
     subst this
     obtain ⟨cs,hrun,hreps,hone⟩:=run_loadVar_agg (P:=P) hT hag (xs:=(cells.drop off).take i.size) (by simp;omega) m2
     refine ⟨_,σ,S,who,.agg cs,by simpa[Instr.loadAt,Instr.sureAddr] using hrun,hs,h,?_,trivial,Step.refl _ _ _⟩
     rw[cut_eq hle]
     exact .agg hone ((hreps.cl rfl).canon _ rfl)
    ·
     cases hs
   | false =>
    rw[hag] at hs
    simp only[cond_false] at hs
    split at hs
    ·
     rename_i hlt
     obtain ⟨O1,O2,O3,v,e,hc,hrv,_,_,_⟩:=hm.at hlt
     have:O2=[]:=by simp at e;simp[e]
     subst this
     obtain ⟨v',g1,g2,g3⟩:=coerce_sem hs
     exact ⟨v',σ,S,who,v,by simpa[Instr.loadAt,Instr.sureAddr] using run_loadVar_one (P:=P) hT hag hc,g1,h,g3 hrv,(g3 hrv).link g2,Step.refl _ _ _⟩
    ·
     cases hs
 ·
  -- a pointer into a container
  rename_i r0 p
  obtain ⟨q,ii,j,c,X,b,o,hp,hlast,hdrop,hX,hf,hb,hu⟩:=ptr_sem hl
  subst hu
  obtain ⟨OX,hrX,hoX⟩:=hf.rep h
  rw[hlast,hX] at hs
  rcases hb.row hrX (fun _ _ _ _ e'=>by subst e';dsimp only at hs;cases hs) with ⟨n,k,rows,rfl,hi,hun,O1,O2,O3,eO,hO2,hm,hopen⟩ | ⟨cells,O',rfl,rfl,rfl,rfl,hm,hopen⟩
  ·
   -- a row of an owned slice
   dsimp only at hs
   have hk:(rows.getD ii []).length=k:=hun _ (getD_mem hi)
   cases hag:i.kind.isAgg with
   | true =>
    rw[hag] at hs
    cases n with
    | true=>cases hs
    | false =>
     simp only[cond_true,cond_false] at hs
     split at hs
     ·
      rename_i hle
      have hO2:=hO2 rfl
      subst hO2
      obtain ⟨P1,P2,P3,e,_,m2,_⟩:=hm.sub j i.size (by omega)
      have:P2=[]:=by simp at e;simp[e]
      subst this
      obtain ⟨cs,hrun,hreps,hone⟩:=run_loadVar_agg (P:=P) hT hag (xs:=((rows.getD ii []).drop j).take i.size) (by simp;simp at hk;omega) m2
      refine ⟨_,σ,S,who,.agg cs,by simpa[Instr.loadAt,Instr.sureAddr] using hrun,hs,h,?_,trivial,Step.refl _ _ _⟩
      rw[cut_eq (by omega)]
      exact .agg hone ((hreps.cl rfl).canon _ rfl)
     ·
      cases hs
   | false =>
    rw[hag] at hs
    simp only[cond_false] at hs
    have one:j<k→∃ O v,w.cell? ⟨b,o+j,none⟩=some v∧Rep S w v ((rows.getD ii []).getD j .ud) O∧(n=false→O=[]):=fun hlt=>by
     obtain ⟨P1,P2,P3,v,e,hc,hrv,_,_,_⟩:=hm.at (j:=j) (by omega)
     exact ⟨P2,v,hc,hrv,fun hn=>by rw[hO2 hn] at e;simp at e;simp[e]⟩
    split at hs
    ·
     split at hs
     ·
      rename_i hlt
      obtain ⟨O,v,hc,hrv,_⟩:=one hlt
      refine ⟨_,σ,S,who,v,by simpa[Instr.loadAt,Instr.sureAddr] using run_loadVar_one (P:=P) hT hag hc,hs,h,.ref _ _ _,?_,Step.refl _ _ _⟩
      exact .inr ⟨q,ii,j,c,_,b,o,hp,hf,hb,hlt,fun _=>hc⟩
     ·
      cases hs
    ·
     split at hs
     ·
      rename_i hlt
      obtain ⟨O,v,hc,hrv,hO⟩:=one hlt
      obtain ⟨p1,p2⟩:=coerce_plain hs
      obtain ⟨v',g1,g2,g3⟩:=coerce_sem hs
      have:=g3 ((hrv.plain p1 p2) ▸ hrv)
      exact ⟨v',σ,S,who,v,by simpa[Instr.loadAt,Instr.sureAddr] using run_loadVar_one (P:=P) hT hag hc,g1,h,this,this.link g2,Step.refl _ _ _⟩
     ·
      cases hs
  ·
   -- a box
   dsimp only at hs
   simp only[Nat.zero_add] at *
   cases hag:i.kind.isAgg with
   | true =>
    rw[hag] at hs
    simp only[cond_true] at hs
    split at hs
    ·
     rename_i hle
     have hlen:((cells.drop j).take i.size).length=i.size:=by simp;omega
     cases hg:goodCells (shareCells ((cells.drop j).take i.size)) with
     | false=>rw[hg] at hs;cases hs
     | true =>
      rw[hg] at hs
      simp only[cond_true] at hs
      rw[shareCells_eq] at hg hs
      obtain ⟨O1,O2,O3,e,m1,m2,m3⟩:=hm.sub j i.size hle
      simp only[Nat.zero_add] at m2 m3
      obtain ⟨cs,hrun,hreps,hone⟩:=run_loadVar_agg (P:=P) hT hag hlen m2
      cases hown:hasOwn ((cells.drop j).take i.size) with
      | false =>
       rw[hown] at hs
       obtain ⟨rfl,e2⟩:=noOwn_mem m2 hown hg
       rw[e2] at hs
       exact ⟨_,σ,S,who,.agg cs,by simpa[Instr.loadAt,Instr.sureAddr] using hrun,hs,h,.agg hone (hreps.canon _ rfl),trivial,Step.refl _ _ _⟩
      | true =>
       rw[hown] at hs
       simp only[cond_true] at hs
       obtain ⟨OY,hrY,hnY,hwY,hturn⟩:=h.turn hf
       obtain ⟨O'',eOY,hmY,hopY⟩:∃ O'',OY=b::O''∧Mem S w b 0 cells O''∧OpenRow 1 w b cells.length:=by
        rcases hb.row hrY (by simp) with ⟨n,k,rows,hx,_⟩ | ⟨cells',O'',hx,_,_,e',hm',ho'⟩
        ·
         cases hx
        ·
         cases hx;exact ⟨O'',e',hm',ho'⟩
       subst eOY
       obtain ⟨O1,O2,O3,e,m1,m2,m3⟩:=hmY.sub j i.size hle
       simp only[Nat.zero_add] at m2 m3
       subst e
       simp only[List.nodup_cons,List.nodup_append,List.mem_append,not_or] at hnY
       have hS:∀ b,S b→S b∨b∈O2:=fun _ h=>.inl h
       have hcs:=share_mem (S':=fun b=>S b∨b∈O2) hS m2 (fun b hb=>.inr hb) hg
       obtain ⟨_,_,hreps',_⟩:=run_loadVar_agg (P:=P) hT hag hlen m2
       have hlen':(((cells.drop j).take i.size).map shareCell).length=i.size:=by simpa using hlen
       have hnew:Mem (fun b=>S b∨b∈O2) w b 0 (setRange cells j (((cells.drop j).take i.size).map shareCell)) (O1++[]++O3):=by
        unfold setRange
        have hl1:(cells.take j).length=j:=by simp;omega
        refine ((m1.mono hS (fun _ _=>rfl) (.inr rfl) (fun _ _=>rfl)).append ?_).append ?_
        ·
         rw[hl1,Nat.zero_add];exact hcs
        ·
         simp only[List.length_append,hl1,hlen',Nat.zero_add]
         exact m3.mono hS (fun _ _=>rfl) (.inr rfl) (fun _ _=>rfl)
       have hsl:(setRange cells j (((cells.drop j).take i.size).map shareCell)).length=cells.length:=setRange_length (by omega)
       have hrep:Rep (fun b=>S b∨b∈O2) w c (.obox (setRange cells j (((cells.drop j).take i.size).map shareCell))) (b::(O1++[]++O3)):=by
        cases hb with
        | box=>exact .obox (by rw[hsl];exact hopY) hnew
       have hall:=hturn false (q.length+1) (fun b=>S b∨b∈O2) w _ (b::(O1++[]++O3))
        (.inr ⟨rfl,fun i' b' o' hb'=>by cases hb';exact .box,fun _=>⟨fun j' hj'=>by simp only[InR] at hj' ⊢;rw[hsl];exact hj',fun i' j' b' o' hb' hj' hsl'=>⟨?_,rfl⟩⟩⟩)
        hS (fun _ _=>rfl) (fun _ _ _=>rfl) (Nat.le_refl _) hrep (by simp) ?_ (fun b' hb'=>.inl ?_) (fun b' hb'=>⟨?_,?_,?_⟩) (fun h=>h) trivial (hf.lt (by simp))
       ·
        refine ⟨_,_,_,fun b1=>if b1∈b::(O1++[]++O3) then some r0 else if b1∈b::(O1++O2++O3) then none else who b1,.agg cs,by simpa[Instr.loadAt,Instr.sureAddr] using hrun,hs,?_,?_,trivial,⟨Nat.le_refl _,fun _ _ _=>rfl,hS,fun b' hb'=>?_,fun b' hb'=>.inl ?_,Same.refl _⟩⟩
        ·
         rw[hp]
         simp only[List.length_append,List.length_singleton,dropLast_snoc]
         exact hall
        ·
         obtain ⟨cs2,hrun2,hreps2,hone2⟩:=run_loadVar_agg (P:=P) hT hag hlen m2
         have:cs2=cs:=by
          rw[hrun] at hrun2;cases hrun2;rfl
         subst this
         exact .agg hone2 ((share_reps hS hreps2 (fun b hb=>.inr hb) hg).canon _ rfl)
        ·
         rcases hb' with h1 | h1
         ·
          exact .inl h1
         ·
          exact .inr (.inl (by rw[hwY b' (by simp[h1])];simp))
        ·
         intro hn
         apply hb'
         split
         ·
          rename_i hm'
          rw[hwY b' (by simp at hm';rcases hm' with h | h | h <;> simp[h])] at hn;cases hn
         ·
          split
          ·
           rfl
          ·
           exact hn
       ·
        simp only[cellAt] at hsl' ⊢
        rw[setRange_getD (by omega)] at hsl'
        split at hsl'
        ·
         rename_i hr'
         rw[hlen'] at hr'
         have:(((cells.drop j).take i.size).map shareCell).getD (j'-j) .ud=shareCell (cells.getD j' .ud):=by
          simp only[List.getD_eq_getElem?_getD,List.getElem?_map,List.getElem?_take_of_lt (show j'-j<i.size by omega),List.getElem?_drop]
          rw[show j+(j'-j)=j' by omega]
          rw[List.getElem?_eq_getElem (show j'<cells.length by omega)];simp
         rw[this] at hsl'
         exact shareCell_slice hsl'
        ·
         exact hsl'
       ·
        simp only[List.append_nil,List.nodup_cons,List.nodup_append,List.mem_append,not_or]
        exact ⟨⟨hnY.1.1.1,hnY.1.2⟩,hnY.2.1.1,hnY.2.2.1,fun x hx y hy=>hnY.2.2.2 x (.inl hx) y hy⟩
       ·
        simp at hb'
        rcases hb' with h | h | h <;> simp[h]
       ·
        rcases hb' with h1 | h1
        ·
         exact .inl (h.sep _ h1)
        ·
         exact .inr (by simp[h1])
       ·
        rcases hb' with h1 | h1
        ·
         intro hc
         have:=h.sep _ h1
         rw[hwY b' (by simp at hc;rcases hc with h | h | h <;> simp[h])] at this
         cases this
        ·
         simp only[List.append_nil,List.mem_cons,List.mem_append,not_or]
         exact ⟨fun e=>hnY.1.1.2 (e ▸ h1),fun hc=>hnY.2.1.2.2 _ hc _ h1 rfl,fun hc=>hnY.2.2.2 _ (.inr h1) _ hc rfl⟩
       ·
        rcases hb' with h1 | h1
        ·
         exact h.low _ h1
        ·
         exact m2.low _ h1
    ·
     cases hs
   | false =>
    rw[hag] at hs
    simp only[cond_false] at hs
    by_cases hlt:j<cells.length
    ·
     obtain ⟨P1,P2,P3,v,e,hc,hrv,_,_,_⟩:=hm.at hlt
     simp only[Nat.zero_add] at hc
     obtain ⟨v',g1,g2,g3⟩:=loadCell_sem (tm:=tm) (σ:=σ) hs hrv (.inr ⟨q,0,j,c,_,b,0,hp,hf,hb,hlt,fun _=>by simpa using hc⟩)
     exact ⟨v',σ,S,who,v,by simpa[Instr.loadAt,Instr.sureAddr] using run_loadVar_one (P:=P) hT hag hc,g1,h,g2,g3,Step.refl _ _ _⟩
    ·
     rw[List.getD_eq_getElem?_getD,List.getElem?_eq_none (by omega)] at hs
     cases hk:i.kind <;> rw[hk] at hs <;> simp[loadCell,coerce,asInt,asBool,asStr] at hs
 ·
  cases hs
end
end Go.Zv
namespace Go.Zv
open Go
section
variable {R:Type} {P:Program} {E:Env} {r:R} {K:List V→Option R} {S S':Nat→Prop} {who who':Nat→Option Nat} {w w':World} {a:Act} {dst:Option Nat} {res:Result Next} {σ σ':List V}
structure Poked (w w':World) (b o:Nat) (vs:List Value):Prop where
 size:w'.heap.size=w.heap.size
 other:∀ b',b'≠b→w'.heap[b']?=w.heap[b']?
 inside:∀ j,j<vs.length→w'.cell? ⟨b,o+j,none⟩=some (vs.getD j undef)
 beside:∀ j,(j<o∨o+vs.length≤j)→w'.cell? ⟨b,j,none⟩=w.cell? ⟨b,j,none⟩
 row:∀ k n,OpenRow k w b n→OpenRow k w' b n
 out:Same w w'
theorem poke_one {k b o:Nat} {n:Nat} {v:Value} (hop:OpenRow k w b n) (ho:o<n) (hv:v.oneCell'=true) :
  ∃ w',(Go.store ⟨b,o,none⟩ v).run P w=.ok () w'∧Poked w w' b o [v]:=by
 obtain ⟨cs,e,lo,hi,hb,hn,hz⟩:=hop
 have hc:w.cell? ⟨b,o,none⟩=some cs[o]:=by simp[World.cell?,hb,show o<cs.size by omega]
 have hf:w.frozen? ⟨b,o,none⟩=false:=by
  simp only[World.frozen?,hb]
  rcases hz with rfl | ⟨_,hz⟩
  ·
   simp only[Bool.and_eq_false_imp,decide_eq_true_eq,decide_eq_false_iff_not];omega
  ·
   simp only[Bool.and_eq_false_imp,decide_eq_true_eq,decide_eq_false_iff_not];omega
 have hb':(w.setCell ⟨b,o,none⟩ v).heap[b]?=some (.cells (cs.setIfInBounds o v) e (lo,hi)):=by
  simp[World.setCell,Array.getElem?_modify,hb]
 refine ⟨w.setCell ⟨b,o,none⟩ v,by rw[run_store P w _ _ _ hv,hc];simp[hf],by simp,fun b' hne=>?_,fun j hj=>?_,fun j hj=>?_,fun k' m hm=>?_,⟨rfl,rfl,rfl⟩⟩
 ·
  simp[World.setCell,Array.getElem?_modify,Ne.symm hne]
 ·
  have:j=0:=by simpa using hj
  subst this
  simpa using World.cell?_setCell_same w ⟨b,o,none⟩ v hc
 ·
  exact World.cell?_setCell_other w ⟨b,o,none⟩ ⟨b,j,none⟩ v (by intro e;cases e;simp only[List.length_singleton] at hj;omega)
 ·
  obtain ⟨cs2,e2,lo2,hi2,h1,h2,h3⟩:=hm
  rw[hb] at h1;cases h1
  exact ⟨_,_,lo,hi,hb',by simpa using h2,by simpa using h3⟩
theorem poke_many {k b:Nat}:∀ {vs:List Value} {w:World} {o i n:Nat},OpenRow k w b n→o+i+vs.length≤n→(∀ v∈vs,v.oneCell'=true) →
  ∃ w',(storeCells ⟨b,o,none⟩ vs i).run P w=.ok () w'∧Poked w w' b (o+i) vs
 | [],w,o,i,n,hop,_,_=>⟨w,by simp[storeCells],rfl,fun _ _=>rfl,fun j hj=>by simp at hj,fun _ _=>rfl,fun _ _ h=>h,Same.refl _⟩
 | v::vs,w,o,i,n,hop,hle,hv=>by
  simp only[List.length_cons] at hle
  obtain ⟨w1,hr1,p1⟩:=poke_one (P:=P) (o:=o+i) hop (by omega) (hv v (by simp))
  obtain ⟨w2,hr2,p2⟩:=poke_many (vs:=vs) (w:=w1) (o:=o) (i:=i+1) (p1.row _ _ hop) (by omega) (fun v' h'=>hv v' (by simp[h']))
  refine ⟨w2,?_,by rw[p2.size,p1.size],fun b' hb'=>by rw[p2.other b' hb',p1.other b' hb'],fun j hj=>?_,fun j hj=>?_,fun k' m hm=>p2.row _ _ (p1.row _ _ hm),p1.out.trans p2.out⟩
  ·
   simp only[storeCells,Sem.run_bind,add_none,hr1,Result.andThen_ok]
   exact hr2
  ·
   cases j with
   | zero =>
    rw[p2.beside _ (.inl (by omega))]
    simpa using p1.inside 0 (by simp)
   | succ j =>
    have:=p2.inside j (by simpa using hj)
    rw[show o+i+(j+1)=o+(i+1)+j by omega]
    simpa using this
  ·
   simp only[List.length_cons] at hj
   rw[p2.beside j (by omega),p1.beside j (by simp;omega)]
theorem Mem.other (hS:∀ b,S b→S' b) (hs:∀ b,S b→w'.heap[b]?=w.heap[b]?):∀ {b o:Nat} {xs:List V} {O:List Nat},Mem S w b o xs O →
  (∀ j,j<xs.length→w'.cell? ⟨b,o+j,none⟩=w.cell? ⟨b,o+j,none⟩)→(∀ b∈O,w'.heap[b]?=w.heap[b]?)→Mem S' w' b o xs O
 | _,_,_,_,.nil _ _,_,_=>.nil _ _
 | b,o,x::xs,_,.cons h1 h0 h2 h3,hc,ho =>
  .cons (by have:=hc 0 (by simp);simp only[Nat.add_zero] at this;rw[this];exact h1) h0 (h2.mono hS hs fun b hb=>ho b (by simp[hb]))
   (Mem.other hS hs h3 (fun j hj=>by have:=hc (j+1) (by simpa using hj);rw[Nat.add_assoc,Nat.add_comm 1 j];exact this) fun b hb=>ho b (by simp[hb]))
theorem Mem.fresh {b:Nat}:∀ {o:Nat} {vs:List Value} {xs:List V} {O:List Nat},Reps S w vs xs O→(∀ v∈vs,v.oneCell'=true) →
  (∀ j,j<vs.length→w.cell? ⟨b,o+j,none⟩=some (vs.getD j undef))→Mem S w b o xs O
 | _,_,_,_,.nil,_,_=>.nil _ _
 | o,v::vs,x::xs,_,.cons h1 h2,h0,hc =>
  .cons (by simpa using hc 0 (by simp)) (h0 v (by simp)) h1 (Mem.fresh h2 (fun v' h'=>h0 v' (by simp[h'])) fun j hj=>by
   have:=hc (j+1) (by simpa using hj)
   rw[Nat.add_assoc,Nat.add_comm 1 j];simpa using this)
theorem Mem.store {b o off:Nat} {xs cs:List V} {vs:List Value} {O Oc:List Nat} (hS:∀ b,S b→S' b) (h:Mem S w b o xs O) (hp:Poked w w' b (o+off) vs) (hnb:∀ b',S b'→b'≠b) (hnO:b ∉ O)
  (hle:off+vs.length≤xs.length) (hr:Reps S' w' vs cs Oc) (h0:∀ v∈vs,v.oneCell'=true) :
  ∃ O1 O2 O3,O=O1++O2++O3∧Mem S' w' b o (setRange xs off cs) (O1++Oc++O3):=by
 have hlen:vs.length=cs.length:=hr.len
 obtain ⟨O1,O2,O3,e,m1,m2,m3⟩:=h.sub off vs.length hle
 have hs:∀ b',S b'→w'.heap[b']?=w.heap[b']?:=fun b' hb'=>hp.other b' (hnb b' hb')
 have ho:∀ b'∈O,w'.heap[b']?=w.heap[b']?:=fun b' hb'=>hp.other b' fun e=>hnO (e ▸ hb')
 refine ⟨O1,O2,O3,e,?_⟩
 unfold setRange
 have hl1:(xs.take off).length=off:=by simp;omega
 refine ((m1.other hS hs (fun j hj=>hp.beside _ (.inl (by simp at hj;omega))) fun b' hb'=>ho b' (by simp[e,hb'])).append ?_).append ?_
 ·
  rw[hl1]
  exact Mem.fresh hr h0 fun j hj=>hp.inside j hj
 ·
  simp only[List.length_append,hl1]
  rw[←hlen]
  exact (by rw[←Nat.add_assoc];exact m3.other hS hs (fun j hj=>hp.beside _ (.inr (by omega))) fun b' hb'=>ho b' (by simp[e,hb']))
theorem isSliceB_iff {c:V}:isSliceB c=true↔isSlice c:=by cases c <;> simp[isSliceB,isSlice]
theorem flatten_setRange {k:Nat}:∀ {rows:List (List V)} {i j:Nat} {cs:List V},(∀ r∈rows,r.length=k)→i<rows.length→j+cs.length≤k →
  (rows.set i (setRange (rows.getD i []) j cs)).flatten=setRange rows.flatten (i*k+j) cs
 | [],i,j,cs,_,hi,_=>by simp at hi
 | r::rows,0,j,cs,h,_,hj=>by
  have hr:r.length=k:=h r (by simp)
  simp only[List.set_cons_zero,List.flatten_cons,Nat.zero_mul,Nat.zero_add,List.getD_cons_zero,setRange]
  rw[List.take_append_of_le_length (by omega),List.drop_append_of_le_length (by omega)]
  simp
 | r::rows,i+1,j,cs,h,hi,hj=>by
  have hr:r.length=k:=h r (by simp)
  have e:(i+1)*k+j=r.length+(i*k+j):=by rw[hr,Nat.add_mul];omega
  have:=flatten_setRange (rows:=rows) (i:=i) (j:=j) (cs:=cs) (fun r hr=>h r (by simp[hr])) (by simpa using hi) hj
  simp only[List.getD_cons_succ,List.set_cons_succ,List.flatten_cons]
  rw[this,e]
  simp only[setRange]
  rw[show r.length+(i*k+j)+cs.length=r.length+(i*k+j+cs.length) by omega,List.take_length_add_append,List.drop_length_add_append]
  simp
def withCells:V→Nat→Nat→List V→V
 | .own n k rows,i,j,cs=>.own n k (rows.set i (setRange (rows.getD i []) j cs))
 | .obox cells,_,j,cs=>.obox (setRange cells j cs)
 | v,_,_,_=>v
def rowLen:V→Nat
 | .own _ k _=>k
 | .obox cells=>cells.length
 | _=>0
theorem poke_sem {tm:Array Value} (h:Rel E S who w tm σ) {r0:Nat} {q:Path} {c:Value} {X:V} {i j b o:Nat} (hf:Follow w (tm.getD r0 undef) (gt σ r0) q c X) (hb:Base c X i b o)
  {vs:List Value} {cs:List V} {Oc:List Nat} (hr:Reps S w vs cs Oc) (hn:Oc.Nodup) (hO:∀ b∈Oc,who b=none∧¬S b) (h0:∀ v∈vs,v.oneCell'=true) (hj:j+cs.length≤rowLen X)
  (hnest:∀ n k rows,X=.own n k rows→n=false→Oc=[]) {sl:Bool} (hsl:sl=false→∀ y∈cs,¬isSlice y) (hnl:∀ kd T e bs,X≠.lib kd T e bs:=by intros;simp) :
  ∃ w' who',(storeCells ⟨b,o+j,none⟩ vs 0).run P w=.ok () w'∧Rel E S who' w' tm ((stored sl r0 (q.length+1) σ).set r0 (setP (gt σ r0) q (withCells X i j cs))) ∧
   (∀ b',who' b'≠none→who b'≠none∨b'∈Oc)∧w.heap.size≤w'.heap.size∧(∀ b',who b'=none→w'.heap[b']?=w.heap[b']?)∧Same w w':=by
 obtain ⟨OX,hrX,hnX,hwX,hturn⟩:=h.turn hf
 have hlen:vs.length=cs.length:=hr.len
 have hbX:b∈OX:=hb.owned hrX
 have hbS:¬S b:=fun hs=>by have:=h.sep b hs;rw[hwX b hbX] at this;cases this
 have hnb:∀ b',S b'→b'≠b:=fun b' hs e=>hbS (e ▸ hs)
 have hbOc:b ∉ Oc:=fun hc=>by have:=(hO b hc).1;rw[hwX b hbX] at this;cases this
 obtain ⟨w',OX',hrun,hp,hrep,hsub,hnd⟩:∃ w' OX',(storeCells ⟨b,o+j,none⟩ vs 0).run P w=.ok () w'∧Poked w w' b (o+j) vs∧Rep S w' c (withCells X i j cs) OX'∧(∀ b'∈OX',b'∈OX∨b'∈Oc)∧OX'.Nodup:=by
  have hreps:∀ {w':World},Poked w w' b (o+j) vs→Reps S w' vs cs Oc:=fun hp=>hr.mono (fun _ h=>h) (fun b' hs=>hp.other b' (hnb b' hs)) fun b' hb'=>hp.other b' fun e=>hbOc (e ▸ hb')
  cases hb with
  | lib=>exact absurd rfl (hnl _ _ _ _)
  | @own _ o0 _ _ k _ n rows hi =>
   cases hrX with
   | own0=>simp at hi
   | @own _ _ c0 _ _ _ O h1 h2 h3 h4 h5 h6 =>
    simp only[rowLen] at hj
    have hfl:i*k+j+cs.length≤rows.flatten.length:=by
     rw[flatten_length h2]
     have:=Nat.mul_le_mul_right k (show i+1≤rows.length by omega)
     rw[Nat.add_mul] at this;omega
    have hcap:=Nat.mul_le_mul_right k h4
    rw[flatten_length h2] at hfl
    obtain ⟨w',hrun,hp⟩:=poke_many (P:=P) (o:=o0+i*k+j) (i:=0) (vs:=vs) h3 (by omega) h0
    simp only[Nat.add_zero] at hp
    simp only[List.nodup_cons] at hnX
    obtain ⟨O1,O2,O3,e,hm⟩:=h6.store (off:=i*k+j) (fun _ h=>h) (by rw[←Nat.add_assoc];exact hp) hnb hnX.1 (by rw[flatten_length h2];omega) (hreps hp) h0
    rw[←flatten_setRange h2 hi hj] at hm
    have hl':(rows.set i (setRange (rows.getD i []) j cs)).length=rows.length:=by simp
    subst e
    refine ⟨w',b::(O1++Oc++O3),hrun,hp,?_,?_,?_⟩
    ·
     have:=Rep.own (S:=S) (n:=n) h1 (set_uniform h2 fun _=>by
       have:=h2 _ (getD_mem hi)
       rw[setRange_length (by omega)];exact this) (hp.row _ _ h3) (by rw[hl'];exact h4) (fun hn'=>by
       have:=h5 hn'
       simp only[List.append_eq_nil_iff] at this
       obtain ⟨⟨rfl,_⟩,rfl⟩:=this
       simp[hnest n k rows rfl hn']) hm
     rw[hl'] at this
     exact this
    ·
     intro b' hb'
     simp only[List.mem_cons,List.mem_append] at hb' ⊢
     rcases hb' with h | (h | h) | h
     ·
      exact .inl (.inl h)
     ·
      exact .inl (.inr (.inl (.inl h)))
     ·
      exact .inr h
     ·
      exact .inl (.inr (.inr h))
    ·
     have hdis:∀ b',b'∈O1∨b'∈O3→b' ∉ Oc:=fun b' hb' hc=>by
      have:=(hO b' hc).1
      rw[hwX b' (by rcases hb' with h | h <;> simp[h])] at this;cases this
     simp only[List.nodup_append,List.mem_append,not_or] at hnX
     simp only[List.nodup_cons,List.nodup_append,List.mem_append,not_or]
     exact ⟨⟨⟨hnX.1.1.1,hbOc⟩,hnX.1.2⟩,⟨hnX.2.1.1,hn,fun x hx y hy e=>hdis x (.inl hx) (e ▸ hy)⟩,hnX.2.2.1,fun x hx y hy e=>by
      rcases hx with hx | hx
      ·
       exact hnX.2.2.2 x (.inl hx) y hy e
      ·
       exact hdis y (.inr hy) (e ▸ hx)⟩
  | @box _ cells =>
   cases hrX with
   | @obox _ _ O h1 h2 =>
    simp only[rowLen] at hj
    obtain ⟨w',hrun,hp⟩:=poke_many (P:=P) (o:=0+j) (i:=0) (vs:=vs) h1 (by omega) h0
    simp only[Nat.add_zero] at hp
    simp only[List.nodup_cons] at hnX
    obtain ⟨O1,O2,O3,e,hm⟩:=h2.store (off:=j) (fun _ h=>h) hp hnb hnX.1 (by omega) (hreps hp) h0
    subst e
    refine ⟨w',b::(O1++Oc++O3),hrun,hp,.obox (by rw[setRange_length hj];exact hp.row _ _ h1) hm,?_,?_⟩
    ·
     intro b' hb'
     simp only[List.mem_cons,List.mem_append] at hb' ⊢
     rcases hb' with h | (h | h) | h
     ·
      exact .inl (.inl h)
     ·
      exact .inl (.inr (.inl (.inl h)))
     ·
      exact .inr h
     ·
      exact .inl (.inr (.inr h))
    ·
     have hdis:∀ b',b'∈O1∨b'∈O3→b' ∉ Oc:=fun b' hb' hc=>by
      have:=(hO b' hc).1
      rw[hwX b' (by rcases hb' with h | h <;> simp[h])] at this;cases this
     simp only[List.nodup_append,List.mem_append,not_or] at hnX
     simp only[List.nodup_cons,List.nodup_append,List.mem_append,not_or]
     exact ⟨⟨⟨hnX.1.1.1,hbOc⟩,hnX.1.2⟩,⟨hnX.2.1.1,hn,fun x hx y hy e=>hdis x (.inl hx) (e ▸ hy)⟩,hnX.2.2.1,fun x hx y hy e=>by
      rcases hx with hx | hx
      ·
       exact hnX.2.2.2 x (.inl hx) y hy e
      ·
       exact hdis y (.inr hy) (e ▸ hx)⟩
 have hcs:∀ j',j≤j'→j'<j+cs.length→(cs.getD (j'-j) .ud)∈cs:=fun j' h1 h2=>by
  rw[List.getD_eq_getElem?_getD,List.getElem?_eq_getElem (show j'-j<cs.length by omega)];simp
 have hfin:=hturn sl (q.length+1) S w' (withCells X i j cs) OX'
  (.inr ⟨rfl,fun i' b' o' hb'=>?_,fun hsl'=>⟨fun j' hj'=>?_,fun i' j' b' o' hb' hj' his=>?_⟩⟩)
  (fun _ h=>h) (fun b' hs=>hp.other b' (hnb b' hs)) (fun b' _ hb'=>hp.other b' fun e=>hb' (e ▸ hbX)) (by rw[hp.size];exact Nat.le_refl _) hrep (fun e=>by rw[e] at hbX;cases hbX) hnd
  (fun b' hb'=>(hsub b' hb').imp id fun h=>(hO b' h).1) (fun b' hs=>⟨.inl (h.sep b' hs),fun hc=>?_,by rw[hp.size];exact h.low b' hs⟩) (fun his=>?_) ?_ (hf.lt fun e=>by subst e;cases hb)
 ·
  refine ⟨w',_,hrun,hfin,fun b' hb'=>?_,by rw[hp.size];exact Nat.le_refl _,(fun b' hb'=>hp.other b' fun e=>by rw[e,hwX b hbX] at hb';cases hb'),hp.out⟩
  by_cases h1:b'∈OX'
  ·
   exact (hsub b' h1).imp (fun h=>by rw[hwX b' h];simp) id
  ·
   simp only[h1,if_false] at hb'
   split at hb'
   ·
    exact absurd rfl hb'
   ·
    exact .inl hb'
 ·
  cases hb' with
  | lib=>exact absurd rfl (hnl _ _ _ _)
  | own hi=>exact .own (by simpa using hi)
  | box=>exact .box
 ·
  cases hb with
  | lib=>exact absurd rfl (hnl _ _ _ _)
  | own hi=>exact hj'
  | box =>
   simp only[rowLen,withCells,InR] at hj hj' ⊢
   rw[setRange_length hj];exact hj'
 ·
  cases hb with
  | lib=>exact absurd rfl (hnl _ _ _ _)
  | @own _ o0 _ _ k _ n rows hi =>
   simp only[rowLen,withCells,InR] at hj hj' his ⊢
   cases hb' with
   | own hi' =>
    simp only[cellAt] at his ⊢
    by_cases hii:i=i'
    ·
     subst hii
     rw[show (rows.set i (setRange (rows.getD i []) j cs)).getD i []=setRange (rows.getD i []) j cs by
      rw[List.getD_eq_getElem?_getD,List.getElem?_set_self (by simpa using hi)];rfl] at his
     have hrl:(rows.getD i []).length=k:=by
      cases hrX with
      | own0=>simp at hi
      | own h1 h2=>exact h2 _ (getD_mem hi)
     rw[setRange_getD (by omega)] at his
     split at his
     ·
      rename_i hr'
      exact absurd his (hsl hsl' _ (hcs j' hr'.1 hr'.2))
     ·
      exact ⟨his,hp.beside _ (by omega)⟩
    ·
     rw[show (rows.set i (setRange (rows.getD i []) j cs)).getD i' []=rows.getD i' [] by
      rw[List.getD_eq_getElem?_getD,List.getElem?_set_ne hii,←List.getD_eq_getElem?_getD]] at his
     refine ⟨his,hp.beside _ ?_⟩
     rcases Nat.lt_or_gt_of_ne hii with h1 | h1
     ·
      have:=Nat.mul_le_mul_right k (show i+1≤i' by omega)
      rw[Nat.add_mul] at this;omega
     ·
      have:=Nat.mul_le_mul_right k (show i'+1≤i by omega)
      rw[Nat.add_mul] at this;omega
  | @box _ cells =>
   cases hb' with
   | box =>
    simp only[rowLen,withCells,InR,cellAt] at hj hj' his ⊢
    rw[setRange_getD hj] at his
    split at his
    ·
     rename_i hr'
     exact absurd his (hsl hsl' _ (hcs j' hr'.1 hr'.2))
    ·
     exact ⟨his,hp.beside _ (by omega)⟩
 ·
  rcases hsub b' hc with h1 | h1
  ·
   have:=h.sep b' hs;rw[hwX b' h1] at this;cases this
  ·
   exact (hO b' h1).2 hs
 ·
  cases hb <;> exact his
 ·
  cases hb <;> trivial
end
end Go.Zv
namespace Go.Zv
open Go
section
variable {R:Type} {P:Program} {E:Env} {r:R} {K:List V→Option R} {S S':Nat→Prop} {who who':Nat→Option Nat} {w w':World} {a:Act} {dst:Option Nat} {res:Result Next} {σ σ':List V}
def Loose (S:Nat→Prop) (who0 who:Nat→Option Nat) (O:List Nat):Prop:=O.Nodup∧∀ b∈O,who b=none∧¬S b∧who0 b≠none
theorem oneCell_of_rep {u:Value} {c:V} {O:List Nat} (h:Rep S w u c O) (hc:match c with | .int _ _ | .bool _ | .str _ | .sl _ _ _ | .own _ _ _ | .nilsl | .fn _ _=>True | _=>False):u.oneCell'=true:=by
 cases h <;> first | rfl | exact hc.elim
theorem cellVal_sem {deep:Bool} {t:TK} {tm:Array Value} {x:V} {u:Value} {G:V→List V→Option R} (h:Rel E S who w tm σ) (hr:Rep S w u x []) (hl:Link w tm σ u x) (hs:cellVal deep t σ x G=some r) :
  ∃ c σ' S' who' O,G c σ'=some r∧Rel E S' who' w tm σ'∧Rep S' w u c O∧Loose S' who who' O∧(deep=false→O=[])∧(O=[]∨∃ n k rows,c=.own n k rows)∧u.oneCell'=true∧t.isAgg=false∧Step S who w S' who' w:=by
 have plain:∀ c,Rep S w u c []→u.oneCell'=true→t.isAgg=false→G c σ=some r →
   ∃ c σ' S' who' O,G c σ'=some r∧Rel E S' who' w tm σ'∧Rep S' w u c O∧Loose S' who who' O∧(deep=false→O=[])∧(O=[]∨∃ n k rows,c=.own n k rows)∧u.oneCell'=true∧t.isAgg=false∧Step S who w S' who' w :=
  fun c h1 h2 h3 h4=>⟨c,σ,S,who,[],h4,h,h1,⟨by simp,by simp⟩,fun _=>rfl,.inl rfl,h2,h3,Step.refl _ _ _⟩
 unfold cellVal at hs
 split at hs
 ·
  rename_i k bb
  split at hs
  ·
   rename_i r0 p
   cases deep with
   | true =>
    simp only[cond_true] at hs
    rcases place_sem hl hs with ⟨n,rows,X,hK,hf,hX⟩ | ⟨f,rows,hK,hf⟩
    ·
     obtain ⟨OX,who',h1,h2,h3,h4,h5⟩:=take_sem h hf (by rcases hX with rfl | ⟨rfl,_⟩ <;> simp)
     have hrep:Rep S w u (.own n k rows) OX:=by
      rcases hX with rfl | ⟨rfl,rfl,rfl⟩
      ·
       exact h1
      ·
       cases h1;exact .own0 _ _ _
     exact ⟨_,_,S,who',OX,hK,h4,hrep,⟨h2,fun b hb=>⟨(h3 b hb).2.1,(h3 b hb).2.2,(h3 b hb).1⟩⟩,fun e=>(by cases e),.inr ⟨_,_,_,rfl⟩,oneCell_of_rep hrep trivial,rfl,h5⟩
    ·
     obtain ⟨O,hX,_⟩:=hf.rep h
     have:=(hX.plain rfl (by simp)) ▸ hX
     exact plain _ this (oneCell_of_rep this trivial) rfl hK
   | false =>
    simp only[cond_false] at hs
    obtain ⟨f,rows,σ',S',who',h1,h2,h3,h4⟩:=share_sem h hr hl hs
    exact ⟨_,σ',S',who',[],h1,h2,h3,⟨by simp,by simp⟩,fun _=>rfl,.inl rfl,oneCell_of_rep h3 trivial,rfl,h4⟩
  ·
   split at hs
   ·
    rename_i e;subst e;exact plain _ hr (oneCell_of_rep hr trivial) rfl hs
   ·
    cases hs
  ·
   cases deep with
   | true=>simp only[cond_true] at hs;cases hr;exact plain _ (.own0 _ _ _) rfl rfl hs
   | false=>simp only[cond_false] at hs;exact plain _ hr (oneCell_of_rep hr trivial) rfl hs
  ·
   cases hs
 ·
  split at hs
  ·
   exact plain _ hr (oneCell_of_rep hr trivial) rfl hs
  ·
   exact plain _ hr (oneCell_of_rep hr trivial) rfl hs
  ·
   exact plain _ hr (oneCell_of_rep hr trivial) rfl hs
  ·
   rename_i f caps
   cases e:caps.all isIptr with
   | false=>rw[e] at hs;cases hs
   | true=>rw[e] at hs;exact plain _ hr (oneCell_of_rep hr trivial) rfl hs
  ·
   cases hs
 ·
  split at hs
  ·
   exact plain _ hr (oneCell_of_rep hr trivial) rfl hs
  ·
   exact plain _ hr (oneCell_of_rep hr trivial) rfl hs
  ·
   exact plain _ hr (oneCell_of_rep hr trivial) rfl hs
  ·
   rename_i f caps
   cases e:caps.all isIptr with
   | false=>rw[e] at hs;cases hs
   | true=>rw[e] at hs;exact plain _ hr (oneCell_of_rep hr trivial) rfl hs
  ·
   cases hs
 ·
  split at hs
  ·
   exact plain _ hr (oneCell_of_rep hr trivial) rfl hs
  ·
   exact plain _ hr (oneCell_of_rep hr trivial) rfl hs
  ·
   exact plain _ hr (oneCell_of_rep hr trivial) rfl hs
  ·
   rename_i f caps
   cases e:caps.all isIptr with
   | false=>rw[e] at hs;cases hs
   | true=>rw[e] at hs;exact plain _ hr (oneCell_of_rep hr trivial) rfl hs
  ·
   cases hs
 ·
  split at hs
  ·
   exact plain _ hr (oneCell_of_rep hr trivial) rfl hs
  ·
   exact plain _ hr (oneCell_of_rep hr trivial) rfl hs
  ·
   exact plain _ hr (oneCell_of_rep hr trivial) rfl hs
  ·
   rename_i f caps
   cases e:caps.all isIptr with
   | false=>rw[e] at hs;cases hs
   | true=>rw[e] at hs;exact plain _ hr (oneCell_of_rep hr trivial) rfl hs
  ·
   cases hs
 ·
  cases hs
theorem boxed_reps:∀ {us:List Value} {sk:List TK} {cs:List V} {O:List Nat},Reps S w us cs O→Reps S w us (boxed sk cs) O
 | _,[],_,_,h=>by simpa[boxed] using h
 | _,_::_,_,_,.nil=>by simpa[boxed] using Reps.nil
 | _,t::ts,_,_,.cons (x:=c) h1 h2=>by
  simp only[boxed]
  refine .cons ?_ (boxed_reps h2)
  split
  ·
   cases h1;exact .own0 _ _ _
  ·
   exact h1
theorem boxed_len:∀ {sk:List TK} {cs:List V},(boxed sk cs).length=cs.length
 | [],cs=>by simp[boxed]
 | _::_,[]=>by simp[boxed]
 | t::ts,c::cs=>by simp[boxed,boxed_len]
theorem boxed_slice:∀ {sk:List TK} {cs:List V},cs.any isSliceB=false→∀ y∈boxed sk cs,¬isSlice y
 | [],cs,h,y,hy,hs=>by
  simp only[boxed] at hy
  rw[List.any_eq_false] at h
  exact h y hy (isSliceB_iff.2 hs)
 | _::_,[],_,y,hy,_=>by simp[boxed] at hy
 | t::ts,c::cs,h,y,hy,hs=>by
  simp only[List.any_cons,Bool.or_eq_false_iff] at h
  simp only[boxed,List.mem_cons] at hy
  rcases hy with rfl | hy
  ·
   have hc:¬isSlice c:=fun hc=>by rw[isSliceB_iff.2 hc] at h;cases h.1
   split at hs
   ·
    exact hc trivial
   ·
    exact hc hs
  ·
   exact boxed_slice h.2 y hy hs
theorem strip_reps:∀ {us:List Value} {cs:List V} {O:List Nat},Reps S w us cs O→O=[]→Reps S w us (stripAll cs) []
 | _,_,_,.nil,_=>.nil
 | _,_,_,.cons (x:=c) h1 h2,e=>by
  obtain ⟨rfl,rfl⟩:=List.append_eq_nil_iff.1 e
  have:∀ {v:Value},Rep S w v c []→Rep S w v c.strip []:=fun h1=>by
   exact h1.strip
  simpa[stripAll] using Reps.cons (this h1) (strip_reps h2 rfl)
theorem store_sem {t:Nat} {ty:Option TI} {addr y:Operand} {G:List V→Option R} (hT:∀ i,ty=some i→TyOK P t i) (h:Rel E S who w a.tmps σ)
  (hs:store ty σ (fun σ=>opnd E σ addr) (opnd E σ y) G=some r) :
  ∃ σ' S' who' w',(Instr.storeAt t (a.eval addr) (a.eval y)).run P w=.ok () w'∧G σ'=some r∧Rel E S' who' w' a.tmps σ'∧Step S who w S' who' w':=by
 obtain ⟨hry,hly⟩:=opnd_spec h y
 unfold store at hs
 split at hs
 ·
  cases hs
 rename_i i
 have hT:=hT i rfl
 obtain ⟨ti,z,hi,hsz,hz,_⟩:=hT.info
 cases hag:i.kind.isAgg with
 | true =>
  rw[hag] at hs
  simp only[cond_true] at hs
  obtain ⟨hra,hla⟩:=opnd_spec h addr
  split at hs
  ·
   rename_i cs r0 p hy ha
   rw[hy] at hry
   rw[ha] at hra hla
   cases hg:goodCells cs with
   | false=>rw[hg] at hs;cases hs
   | true =>
    rw[hg] at hs
    simp only[cond_true] at hs
    split at hs
    ·
     rename_i hlen
     obtain ⟨q,ii,j,c,X,b,o,hp,hlast,hdrop,hX,hf,hb,hu⟩:=ptr_sem hla
     rw[hlast,hX] at hs
     cases hv:a.eval y with
     | agg us =>
      rw[hv] at hry
      cases hry with
      | agg hone hreps =>
       have hul:us.toList.length=i.size:=by rw[hreps.len,hlen]
       have hrunS:∀ {w':World},(storeCells ⟨b,o+j,none⟩ us.toList 0).run P w=.ok () w'→(Instr.storeAt t (a.eval addr) (.agg us)).run P w=.ok () w':=fun hw=>by
        have hus:us.size=i.size:=by simpa using hul
        rw[hu]
        simp only[Instr.storeAt,Instr.sureAddr,Sem.run_bind,Sem.run_pure,Result.andThen_ok,storeVar,run_sizeOf w hi,hsz,Value.cells,hus]
        simpa using hw
       cases X <;> try (cases hs;done)
       case own n k rows =>
        dsimp only at hs
        split at hs
        ·
         rename_i hle
         obtain ⟨w',who',h1,h2,h3,h4,h5,h6⟩:=poke_sem (P:=P) h hf hb (strip_reps hreps rfl) (by simp) (by simp) hone (j:=j) (by simpa[stripAll,rowLen] using hle) (fun _ _ _ _ _=>rfl) (sl:=true) (fun e=>by cases e)
         refine ⟨_,S,who',w',hrunS h1,hs,?_,⟨h4,fun b' hb' hn=>?_,fun _ h=>h,fun _ h=>.inl h,fun b' hb'=>.inl ((h3 b' hb').resolve_right (by simp)),h6⟩⟩
         ·
          rw[hdrop,hp];simpa[withCells] using h2
         ·
          exact h5 b' hn
        ·
         cases hs
       case obox cells =>
        dsimp only at hs
        split at hs
        ·
         rename_i hle
         obtain ⟨w',who',h1,h2,h3,h4,h5,h6⟩:=poke_sem (P:=P) h hf hb (boxed_reps (sk:=i.sk) hreps) (by simp) (by simp) hone (j:=j) (by simpa[boxed_len,rowLen] using hle) (fun _ _ _ _ _=>rfl) (sl:=cs.any isSliceB) (fun e=>boxed_slice e)
         refine ⟨_,S,who',w',hrunS h1,hs,?_,⟨h4,fun b' hb' hn=>?_,fun _ h=>h,fun _ h=>.inl h,fun b' hb'=>.inl ((h3 b' hb').resolve_right (by simp)),h6⟩⟩
         ·
          rw[hdrop,hp];simpa[withCells] using h2
         ·
          exact h5 b' hn
        ·
         cases hs
     | _=>rw[hv] at hry;cases hry
    ·
     cases hs
  ·
   cases hs
 | false =>
  rw[hag] at hs
  simp only[cond_false] at hs
  obtain ⟨c0,σ1,S1,who1,O1,hK,h1,hr1,hL1,hd1,hOc,hone,_,hst1⟩:=cellVal_sem h hry hly hs
  obtain ⟨hra,hla⟩:=opnd_spec h1 addr
  unfold storeOne at hK
  split at hK
  ·
   rename_i r0 p ha
   rw[ha] at hra hla
   obtain ⟨q,ii,j,c,X,b,o,hp,hlast,hdrop,hX,hf,hb,hu⟩:=ptr_sem hla
   rw[hlast,hX] at hK
   have h1sz:i.size=1:=hT.one hag
   have hrunS:∀ {w':World},(storeCells ⟨b,o+j,none⟩ [a.eval y] 0).run P w=.ok () w'→(Instr.storeAt t (a.eval addr) (a.eval y)).run P w=.ok () w':=fun hw=>by
    have hcells:(a.eval y).cells=#[a.eval y]:=by cases hv:a.eval y <;> first | rfl | (rw[hv] at hone;cases hone)
    rw[hu]
    simp only[Instr.storeAt,Instr.sureAddr,Sem.run_bind,Sem.run_pure,Result.andThen_ok,storeVar,run_sizeOf w hi,hsz,hcells,h1sz]
    simpa using hw
   have hback:∀ b',who1 b'≠none→who b'≠none:=fun b' hb'=>by
    rcases hst1.own b' hb' with h7 | h7
    ·
     exact h7
    ·
     obtain ⟨x,e⟩:=Option.ne_none_iff_exists'.1 hb'
     have:=h1.lowO b' x e;omega
   have hfinish:∀ {w':World} {who':Nat→Option Nat},(∀ b',who' b'≠none→who1 b'≠none∨b'∈O1)→w.heap.size≤w'.heap.size→(∀ b',who1 b'=none→w'.heap[b']?=w.heap[b']?)→Same w w' →
     Step S who w S1 who' w':=fun h3 h4 h5 h6=>by
    refine ⟨h4,fun b' hb' hn=>h5 b' ?_,hst1.sub,hst1.new,fun b' hb'=>.inl ?_,h6⟩
    ·
     cases e:who1 b' with
     | none=>rfl
     | some x=>exact absurd hn (hback b' (by simp[e]))
    ·
     rcases h3 b' hb' with h7 | h7
     ·
      exact hback b' h7
     ·
      exact (hL1.2 b' h7).2.2
   cases X <;> try (cases hK;done)
   case own n k rows =>
    dsimp only at hK
    have hnest:n=false→O1=[]:=fun hn=>by
     subst hn
     rcases hOc with h2 | ⟨n2,k2,rows2,rfl⟩
     ·
      exact h2
     ·
      simp at hK
    have hK':(if j+1≤k then G ((stored (isSliceB c0) r0 p.length σ1).set r0 (setP (gt σ1 r0) p.dropLast (.own n k (rows.set ii (setRange (rows.getD ii []) j [c0]))))) else none)=some r:=by
     split at hK
     ·
      cases hK
     ·
      exact hK
    split at hK'
    ·
     rename_i hle
     obtain ⟨w',who',g1,g2,g3,g4,g5,g6⟩:=poke_sem (P:=P) h1 hf hb (vs:=[a.eval y]) (cs:=[c0]) (Oc:=O1) (by simpa using Reps.cons hr1 .nil) hL1.1 (fun b hb=>⟨(hL1.2 b hb).1,(hL1.2 b hb).2.1⟩) (by simpa using hone) (j:=j)
      (by simpa[rowLen] using hle) (fun _ _ _ e hn=>by cases e;exact hnest hn) (sl:=isSliceB c0) (fun e y hy hs=>by simp only[List.mem_singleton] at hy;subst hy;rw[isSliceB_iff.2 hs] at e;cases e)
     refine ⟨_,S1,who',w',hrunS g1,hK',?_,hfinish g3 g4 g5 g6⟩
     rw[hdrop,hp];simpa[withCells] using g2
    ·
     cases hK'
   case obox cells =>
    dsimp only at hK
    split at hK
    ·
     rename_i hle
     obtain ⟨w',who',g1,g2,g3,g4,g5,g6⟩:=poke_sem (P:=P) h1 hf hb (vs:=[a.eval y]) (cs:=[c0]) (Oc:=O1) (by simpa using Reps.cons hr1 .nil) hL1.1 (fun b hb=>⟨(hL1.2 b hb).1,(hL1.2 b hb).2.1⟩) (by simpa using hone) (j:=j)
      (by simpa[rowLen] using hle) (fun _ _ _ e _=>by cases e) (sl:=isSliceB c0) (fun e y hy hs=>by simp only[List.mem_singleton] at hy;subst hy;rw[isSliceB_iff.2 hs] at e;cases e)
     refine ⟨_,S1,who',w',hrunS g1,hK,?_,hfinish g3 g4 g5 g6⟩
     rw[hdrop,hp];simpa[withCells] using g2
    ·
     cases hK
  ·
   cases hK
end
end Go.Zv
namespace Go.Zv
open Go
section
variable {R:Type} {P:Program} {E:Env} {r:R} {K:List V→Option R} {S S':Nat→Prop} {who who':Nat→Option Nat} {w w':World} {a:Act} {dst:Option Nat} {res:Result Next} {σ σ':List V}
theorem heap_alloc (w:World) (o:Obj) {b:Nat} (h:b<w.heap.size):(w.alloc o).heap[b]?=w.heap[b]?:=by
 show (w.heap.push o)[b]?=_
 simp[Array.getElem?_push,Nat.ne_of_lt h]
theorem heap_new (w:World) (o:Obj):(w.alloc o).heap[w.heap.size]?=some o:=by
 show (w.heap.push o)[w.heap.size]?=_
 simp
structure Grows (w w':World):Prop where
 size:w.heap.size≤w'.heap.size
 keep:∀ b,b<w.heap.size→w'.heap[b]?=w.heap[b]?
 out:Same w w'
theorem Grows.refl (w:World):Grows w w:=⟨Nat.le_refl _,fun _ _=>rfl,Same.refl _⟩
theorem Grows.trans {w1 w2 w3:World} (h:Grows w1 w2) (h':Grows w2 w3):Grows w1 w3 :=
 ⟨Nat.le_trans h.1 h'.1,fun b hb=>by rw[h'.2 b (Nat.lt_of_lt_of_le hb h.1),h.2 b hb],h.out.trans h'.out⟩
theorem Grows.alloc (w:World) (o:Obj):Grows w (w.alloc o):=⟨by simp,fun _ hb=>heap_alloc w o hb,⟨rfl,rfl,rfl⟩⟩
theorem Grows.drew (w:World):Grows w w.drew:=⟨Nat.le_refl _,fun _ _=>rfl,⟨rfl,rfl,rfl⟩⟩
theorem Rel.grow {tm:Array Value} (h:Rel E S who w tm σ) (hg:Grows w w'):Rel E S who w' tm σ :=
 h.world (fun b hb=>hg.2 b (h.low b hb)) (fun b hb=>by
  obtain ⟨x,e⟩:=Option.ne_none_iff_exists'.1 hb
  exact hg.2 b (h.lowO b x e)) hg.1 (fun _ h=>h) h.sep (fun b hb=>Nat.lt_of_lt_of_le (h.low b hb) hg.1)
theorem Step.grow {S1:Nat→Prop} {who1:Nat→Option Nat} (h:Step S who w S1 who1 w) (hg:Grows w w'):Step S who w S1 who1 w' :=
 ⟨hg.1,fun b hb _=>hg.2 b hb,h.sub,h.new,h.own,hg.out⟩
theorem Rep.grow {u:Value} {x:V} {O:List Nat} {tm:Array Value} (h:Rel E S who w tm σ) (hr:Rep S w u x O) (hg:Grows w w'):Rep S w' u x O :=
 hr.mono (fun _ h=>h) (fun b hb=>hg.2 b (h.low b hb)) fun b hb=>hg.2 b (hr.low b hb)
theorem Reps.grow {us:List Value} {xs:List V} {O:List Nat} {tm:Array Value} (h:Rel E S who w tm σ) (hr:Reps S w us xs O) (hg:Grows w w'):Reps S w' us xs O :=
 hr.mono (fun _ h=>h) (fun b hb=>hg.2 b (h.low b hb)) fun b hb=>hg.2 b (hr.low b hb)
theorem alloc_sem {tm:Array Value} (h:Rel E S who w tm σ) {vs:List Value} {xs:List V} {O:List Nat} (hr:Reps S w vs xs O) (h0:∀ v∈vs,v.oneCell'=true) (cells:Array Value) (e:TypeId)
  (hc:∃ l,cells.toList=vs++l) :
  Mem S (w.alloc (.cells cells e)) w.heap.size 0 xs O∧(∀ k,OpenRow k (w.alloc (.cells cells e)) w.heap.size cells.size)∧w.heap.size ∉ O∧who w.heap.size=none∧¬S w.heap.size:=by
 obtain ⟨l,hl⟩:=hc
 refine ⟨Mem.fresh (hr.grow h (Grows.alloc w _)) h0 fun j hj=>?_,fun _=>⟨cells,e,0,0,heap_new w _,Nat.le_refl _,.inl rfl⟩,fun hc=>absurd (hr.low _ hc) (by omega),?_,fun hs=>absurd (h.low _ hs) (by omega)⟩
 ·
  rw[Nat.zero_add,World.cell?_alloc_new,←Array.getElem?_toList,hl,List.getElem?_append_left hj,List.getD_eq_getElem?_getD,List.getElem?_eq_getElem hj];rfl
 ·
  cases e:who w.heap.size with
  | none=>rfl
  | some x=>have:=h.lowO _ x e;omega
theorem Loose.step {who0:Nat→Option Nat} {O:List Nat} (hL:Loose S who0 who O) (hst:Step S who w S' who' w') (hlow:∀ b∈O,b<w.heap.size):Loose S' who0 who' O:=by
 refine ⟨hL.1,fun b hb=>?_⟩
 obtain ⟨h1,h2,h3⟩:=hL.2 b hb
 refine ⟨?_,fun hs=>?_,h3⟩
 ·
  cases e:who' b with
  | none=>rfl
  | some x => rcases hst.own b (by simp [e]) with h4 | h4
              ·
               exact absurd h1 h4
              ·
               have:=hlow b hb;omega
 ·
  rcases hst.new b hs with h4 | h4 | h4
  ·
   exact h2 h4
  ·
   exact h4 h1
  ·
   have:=hlow b hb;omega
theorem strip_repsO:∀ {us:List Value} {cs:List V} {O:List Nat},Reps S w us cs O→Reps S w us (stripAll cs) O
 | _,_,_,.nil=>.nil
 | _,_,_,.cons (x:=c) h1 h2=>by
  have:∀ {v:Value} {O:List Nat},Rep S w v c O→Rep S w v c.strip O:=fun h1=>by
   exact h1.strip
  simpa[stripAll] using Reps.cons (this h1) (strip_repsO h2)
theorem strip_len (cs:List V):(stripAll cs).length=cs.length:=by simp[stripAll]
theorem chunks_flatten {k:Nat}:∀ {n:Nat} {cs:List V},cs.length=n*k→(chunks n k cs).flatten=cs∧(∀ r∈chunks n k cs,r.length=k)∧(chunks n k cs).length=n:=by
 intro n
 induction n with
 | zero=>intro cs h;simp at h;subst h;simp[chunks]
 | succ n ih =>
  intro cs h
  rw[Nat.add_mul,Nat.one_mul] at h
  have e:chunks (n+1) k cs=cs.take k::chunks n k (cs.drop k):=by
   simp only[chunks,List.range_succ_eq_map,List.map_cons,List.map_map,Nat.zero_mul,List.drop_zero]
   congr 1
   apply List.map_congr_left
   intro i _
   simp[Function.comp,List.drop_drop,Nat.add_mul,Nat.add_comm]
  obtain ⟨h1,h2,h3⟩:=ih (cs:=cs.drop k) (by simp;omega)
  rw[e]
  refine ⟨by simp[h1],fun r hr=>?_,by simp[h3]⟩
  rcases List.mem_cons.1 hr with rfl | hr
  ·
   simp;omega
  ·
   exact h2 r hr
theorem getP_snoc (x:V) (q:Path) (i j:Nat):getP x (q++[(i,j)])=cellAt (getP x q) i j:=by
 induction q generalizing x with
 | nil=>rfl
 | cons a q ih=>obtain ⟨a1,a2⟩:=a;simpa[getP] using ih _
def PartOut (E:Env) (r:R) (G:List V→List V→Option R) (S:Nat→Prop) (who:Nat→Option Nat) (w:World) (tm:Array Value) (us:List Value) (nest:Bool):Prop :=
 ∃ cs σ' S' who' O,G cs σ'=some r∧Rel E S' who' w tm σ'∧Reps S' w us cs O∧Loose S' who who' O∧(nest=false→O=[])∧(∀ v∈us,v.oneCell'=true)∧Step S who w S' who' w
theorem partCells_sem {nest:Bool} {tm:Array Value} {x:V} {u:Value} {G:List V→List V→Option R} (h:Rel E S who w tm σ) (hr:Rep S w u x []) (hl:Link w tm σ u x) (hs:partCells nest σ x G=some r) :
  PartOut E r G S who w tm u.cells.toList nest:=by
 have one:∀ c O σ' S' who',Rep S' w u c O→u.oneCell'=true→G [c] σ'=some r→Rel E S' who' w tm σ'→Loose S' who who' O→(nest=false→O=[])→Step S who w S' who' w →
   PartOut E r G S who w tm u.cells.toList nest:=by
  intro c O σ' S' who' h1 h2 h3 h4 h5 h6 h7
  have e:u.cells.toList=[u]:=by cases u <;> first | rfl | cases h2
  exact ⟨[c],σ',S',who',O,h3,h4,by rw[e];simpa using Reps.cons h1 .nil,h5,h6,by rw[e];simpa using h2,h7⟩
 have plain:∀ c,Rep S w u c []→u.oneCell'=true→G [c] σ=some r→PartOut E r G S who w tm u.cells.toList nest:=fun c h1 h2 h3=>one c [] σ S who h1 h2 h3 h ⟨by simp,by simp⟩ (fun _=>rfl) (Step.refl _ _ _)
 have shared:∀ {k:Nat},share k σ x (fun f rows σ'=>G [.sl k f rows] σ')=some r→PartOut E r G S who w tm u.cells.toList nest:=fun hs=>by
  obtain ⟨f,rows,σ',S',who',h1,h2,h3,h4⟩:=share_sem h hr hl hs
  exact one _ [] σ' S' who' h3 (oneCell_of_rep h3 trivial) h1 h2 ⟨by simp,by simp⟩ (fun _=>rfl) h4
 unfold partCells at hs
 split at hs
 ·
  exact plain _ hr (oneCell_of_rep hr trivial) hs
 ·
  exact plain _ hr (oneCell_of_rep hr trivial) hs
 ·
  exact plain _ hr (oneCell_of_rep hr trivial) hs
 ·
  exact plain _ hr (oneCell_of_rep hr trivial) hs
 ·
  exact plain _ hr (oneCell_of_rep hr trivial) hs
 ·
  rename_i cs
  cases hg:goodCells cs with
  | false=>rw[hg] at hs;cases hs
  | true =>
   rw[hg] at hs
   cases hr with
   | agg h0 h1=>exact ⟨cs,σ,S,who,[],hs,h,h1,⟨by simp,by simp⟩,fun _=>rfl,h0,Step.refl _ _ _⟩
 ·
  rename_i f caps
  cases e:caps.all isIptr with
  | false=>rw[e] at hs;cases hs
  | true=>rw[e] at hs;exact plain _ hr (oneCell_of_rep hr trivial) hs
 ·
  rename_i r0 p
  split at hs
  ·
   rename_i n k rows hX
   cases nest with
   | false=>exact shared hs
   | true =>
    simp only[cond_true] at hs
    have hf:Follow w (tm.getD r0 undef) (gt σ r0) [] u (.own n k rows):=by
     rcases hl with ⟨_,hu⟩ | ⟨q,i,j,c,X,b,o,e,_⟩
     ·
      rw[hu (by rw[hX];trivial),hX];exact .nil _ _
     ·
      simp at e
    obtain ⟨OX,who',h1,h2,h3,h4,h5⟩:=take_sem h hf (by simp)
    exact one _ OX _ S who' h1 (oneCell_of_rep h1 trivial) hs h4 ⟨h2,fun b hb=>⟨(h3 b hb).2.1,(h3 b hb).2.2,(h3 b hb).1⟩⟩ (fun e=>by cases e) h5
  ·
   rename_i k f rows hX
   have hf:Follow w (tm.getD r0 undef) (gt σ r0) [] u (.sl k f rows):=by
    rcases hl with ⟨_,hu⟩ | ⟨q,i,j,c,X,b,o,e,_⟩
    ·
     rw[hu (by rw[hX];trivial),hX];exact .nil _ _
    ·
     simp at e
   obtain ⟨O,hO,_⟩:=hf.rep h
   have:=(hO.plain rfl (by simp)) ▸ hO
   exact plain _ this (oneCell_of_rep this trivial) hs
  ·
   split at hs
   ·
    exact shared hs
   ·
    rename_i cells k f rows hq hX
    rcases hl with ⟨e,hu⟩ | ⟨q,i,j,c,X,b,o,e,hf,hb,hj,hu⟩
    ·
     subst e
     simp only[getP] at hX
     have hf:Follow w (tm.getD r0 undef) (gt σ r0) [] u (.sl k f rows):=by
      rw[hu (by rw[hX];trivial),hX];exact .nil _ _
     obtain ⟨O,hO,_⟩:=hf.rep h
     have:=(hO.plain rfl (by simp)) ▸ hO
     exact plain _ this (oneCell_of_rep this trivial) hs
    ·
     subst e
     have hg:cellAt X i j=getP (gt σ r0) (q++[(i,j)]):=by rw[getP_snoc,hf.get]
     rw[hX] at hg
     have hf':=hf.snoc hb hj (hu (by rw[hg];trivial))
     rw[hg] at hf'
     obtain ⟨O,hO,_⟩:=hf'.rep h
     have:=(hO.plain rfl (by simp)) ▸ hO
     exact plain _ this (oneCell_of_rep this trivial) hs
   ·
    cases hs
 ·
  cases hs
theorem Reps.append:∀ {us:List Value} {xs:List V} {us':List Value} {xs':List V} {O1 O2:List Nat},Reps S w us xs O1→Reps S w us' xs' O2→Reps S w (us++us') (xs++xs') (O1++O2)
 | _,_,_,_,_,_,.nil,h=>by simpa using h
 | _,_,_,_,_,_,.cons h1 h2,h=>by simpa using Reps.cons h1 (Reps.append h2 h)
theorem Reps.split:∀ {us us':List Value} {xs xs':List V} {O:List Nat},us.length=xs.length→Reps S w (us++us') (xs++xs') O→∃ O1 O2,O=O1++O2∧Reps S w us xs O1∧Reps S w us' xs' O2
 | [],us',[],xs',O,_,h=>⟨[],O,rfl,.nil,by simpa using h⟩
 | u::us,us',x::xs,xs',O,hl,h=>by
  cases h with
  | cons h1 h2 =>
   obtain ⟨P1,P2,rfl,h3,h4⟩:=Reps.split (by simpa using hl) h2
   exact ⟨_++P1,P2,by simp,.cons h1 h3,h4⟩
 | [],_,_::_,_,_,hl,_=>by simp at hl
 | _::_,_,[],_,_,hl,_=>by simp at hl
theorem Reps.range {us vs:List Value} {xs cs:List V} {O Oc:List Nat} {off:Nat} (h:Reps S w us xs O) (hc:Reps S w vs cs Oc) (hle:off+vs.length≤us.length) :
  ∃ O1 O2 O3,O=O1++O2++O3∧Reps S w (us.take off++vs++us.drop (off+vs.length)) (setRange xs off cs) (O1++Oc++O3):=by
 have hl:=h.len
 have hlc:=hc.len
 have e1:us=us.take off++((us.drop off).take vs.length++us.drop (off+vs.length)):=by rw[←List.drop_drop,List.take_append_drop,List.take_append_drop]
 have e2:xs=xs.take off++((xs.drop off).take vs.length++xs.drop (off+vs.length)):=by rw[←List.drop_drop,List.take_append_drop,List.take_append_drop]
 rw[e1,e2] at h
 obtain ⟨O1,P,rfl,h1,h2⟩:=Reps.split (by simp;omega) h
 obtain ⟨O2,O3,rfl,_,h3⟩:=Reps.split (by simp;omega) h2
 refine ⟨O1,O2,O3,by simp,?_⟩
 unfold setRange
 rw[←hlc]
 exact (h1.append hc).append h3
theorem foldl_set:∀ (l:List Value) (cells:Array Value) (off j0:Nat),off+j0+l.length≤cells.size →
  ((l.zipIdx j0).foldl (fun cs (x:Value×Nat)=>cs.setIfInBounds (off+x.2) x.1) cells).toList=cells.toList.take (off+j0)++l++cells.toList.drop (off+j0+l.length)
 | [],cells,off,j0,_=>by simp
 | v::l,cells,off,j0,h=>by
  simp only[List.length_cons] at h
  simp only[List.zipIdx_cons,List.foldl_cons]
  rw[foldl_set l _ off (j0+1) (by simp;omega)]
  simp only[Array.toList_setIfInBounds,List.length_cons]
  have hlt:off+j0<cells.toList.length:=by simp;omega
  rw[List.take_set,List.drop_set,if_pos (by omega)]
  rw[show off+(j0+1)=off+j0+1 by omega,show off+j0+1+l.length=off+j0+(l.length+1) by omega]
  rw[List.take_add_one,List.getElem?_eq_getElem hlt]
  simp only[Option.toList_some]
  rw[List.set_append_right _ _ (by simp;omega)]
  simp[show (off+j0-min (off+j0) cells.size)=0 by omega]
theorem fill_sem (places:Nat→Option (Nat×Nat)) (nest:Bool) {who0:Nat→Option Nat} {G:List V→List V→Option R} :
  ∀ (parts:List (Nat×Operand)) {S:Nat→Prop} {who:Nat→Option Nat} {σ cells:List V} {acc:Array Value} {Oacc:List Nat},Rel E S who w a.tmps σ→Reps S w acc.toList cells Oacc→Loose S who0 who Oacc →
   (∀ v∈acc.toList,v.oneCell'=true)→(nest=false→Oacc=[])→(∀ b,who b≠none→who0 b≠none)→fillCells places nest E parts cells σ G=some r →
   ∃ cs σ' S' who' O acc',Instr.fill places acc (parts.map fun x=>(x.1,a.eval x.2))=some acc'∧G cs σ'=some r∧Rel E S' who' w a.tmps σ'∧Reps S' w acc'.toList cs O∧Loose S' who0 who' O ∧
    (∀ v∈acc'.toList,v.oneCell'=true)∧(nest=false→O=[])∧Step S who w S' who' w∧cs.length=cells.length
 | [],S,who,σ,cells,acc,Oacc,h,hr,hL,h1,hn,_,hs=>⟨cells,σ,S,who,Oacc,acc,rfl,hs,h,hr,hL,h1,hn,Step.refl _ _ _,rfl⟩
 | (i,x)::rest,S,who,σ,cells,acc,Oacc,h,hr,hL,h1,hn,hw0,hs=>by
  simp only[fillCells] at hs
  cases hp:places i with
  | none=>rw[hp] at hs;cases hs
  | some os =>
   obtain ⟨off,size⟩:=os
   rw[hp] at hs
   simp only at hs
   obtain ⟨hrx,hlx⟩:=opnd_spec h x
   obtain ⟨cs,σ1,S1,who1,Op,hK,h2,hr2,hL2,hn2,hone2,hst⟩:=partCells_sem h hrx hlx hs
   dsimp only at hK
   split at hK
   ·
    rename_i hlen
    split at hK
    ·
     rename_i hle
     have hus:(a.eval x).cells.toList.length=size:=by rw[hr2.len,hlen]
     have hacc:=hr.mono hst.sub (fun _ _=>rfl) (fun _ _=>rfl)
     have hal:acc.toList.length=cells.length:=hr.len
     obtain ⟨O1,O2,O3,e,hr3⟩:=hacc.range (off:=off) hr2 (by omega)
     have hL1:=hL.step hst hr.low
     have hdis:∀ b,b∈Oacc→b ∉ Op:=fun b hb hc=>(hL2.2 b hc).2.2 (hL.2 b hb).1
     have hback:∀ b,who1 b≠none→who0 b≠none:=fun b hb=>by
      rcases hst.own b hb with h4 | h4
      ·
       exact hw0 b h4
      ·
       obtain ⟨y,ey⟩:=Option.ne_none_iff_exists'.1 hb
       have:=h2.lowO b y ey;omega
     have hL3:Loose S1 who0 who1 (O1++Op++O3):=by
      have hN:=hL1.1
      subst e
      simp only[List.nodup_append,List.mem_append] at hN
      refine ⟨?_,fun b hb=>?_⟩
      ·
       simp only[List.nodup_append,List.mem_append]
       exact ⟨⟨hN.1.1,hL2.1,fun p hp q hq e=>hdis p (by simp[hp]) (e ▸ hq)⟩,hN.2.1,fun p hp q hq e=>by
        rcases hp with hp | hp
        ·
         exact hN.2.2 p (.inl hp) q hq e
        ·
         exact hdis q (by simp[hq]) (e ▸ hp)⟩
      ·
       simp only[List.mem_append] at hb
       rcases hb with (hb | hb) | hb
       ·
        exact hL1.2 b (by simp[hb])
       ·
        obtain ⟨g1,g2,g3⟩:=hL2.2 b hb
        exact ⟨g1,g2,hw0 b g3⟩
       ·
        exact hL1.2 b (by simp[hb])
     have hsz:(a.eval x).cells.size=size:=by simpa using hus
     have hofl:off+(a.eval x).cells.size≤acc.size:=by
      have:acc.size=cells.length:=by simpa using hal
      omega
     have hfl:=foldl_set (a.eval x).cells.toList acc off 0 (by simpa using hofl)
     have efold:((a.eval x).cells.zipIdx.foldl (fun cs (c,j)=>cs.setIfInBounds (off+j) c) acc).toList=acc.toList.take off++(a.eval x).cells.toList++acc.toList.drop (off+(a.eval x).cells.toList.length):=by
      rw[←Array.foldl_toList,Array.toList_zipIdx]
      simpa using hfl
     obtain ⟨cs',σ',S',who',O,acc',g1,g2,g3,g4,g5,g6,g7,g8,g9⟩:=fill_sem places nest (who0:=who0) rest (acc:=(a.eval x).cells.zipIdx.foldl (fun cs (c,j)=>cs.setIfInBounds (off+j) c) acc) h2 (by rw[efold];exact hr3) hL3
      (by
       intro v hv
       rw[efold] at hv
       simp only[List.mem_append] at hv
       rcases hv with (hv | hv) | hv
       ·
        exact h1 v (List.mem_of_mem_take hv)
       ·
        exact hone2 v hv
       ·
        exact h1 v (List.mem_of_mem_drop hv)) (fun hf=>by
        have:=hn hf
        rw[e] at this
        simp only[List.append_eq_nil_iff] at this
        simp[this.1.1,this.2,hn2 hf]) hback hK
     refine ⟨cs',σ',S',who',O,acc',?_,g2,g3,g4,g5,g6,g7,hst.trans g8,by rw[g9,setRange_length (by omega)]⟩
     simp only[List.map_cons,Instr.fill,hp]
     rw[if_neg (by simp[hsz];omega)]
     exact g1
    ·
     cases hK
   ·
    cases hK
end
end Go.Zv
