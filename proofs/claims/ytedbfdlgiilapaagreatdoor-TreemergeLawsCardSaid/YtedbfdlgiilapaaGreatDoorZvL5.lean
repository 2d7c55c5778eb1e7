/- Zv: a pure interpreter of the translated code over values, and that it is right. No condition. -/
import Derived.Test.YtedbfdlgiilapaaGreatDoorZvL4
import Derived.Still
import Derived.Laws.Panics
import Derived.StillTail
import Derived.LoopN
import Derived.Scope
set_option linter.unusedSimpArgs false
set_option linter.unusedVariables false
namespace Go.Zv
open Go
theorem keepGo_length {ks:List Nat}:∀ (i:Nat) (σ:List V),(keepGo ks i σ).length=σ.length
 | _,[]=>rfl
 | i,x::xs=>by simp[keepGo,keepGo_length (i+1) xs]
theorem keepOnly_length {ks:List Nat} {σ:List V}:(keepOnly ks σ).length=σ.length:=keepGo_length 0 σ
theorem mask_undef {ks:List Nat}:mask ks .ud=.ud:=rfl
theorem keepGo_gt {ks:List Nat}:∀ (i:Nat) (σ:List V) (j:Nat),gt (keepGo ks i σ) j=cond (ks.contains (i+j)) (mask ks (gt σ j)) .ud
 | i,[],j=>by simp[keepGo,gt,mask_undef]
 | i,x::xs,0=>by simp[keepGo,gt]
 | i,x::xs,j+1=>by
  have:=keepGo_gt (ks:=ks) (i+1) xs j
  simp only[gt,keepGo,List.getD_cons_succ] at this ⊢
  rw[this,show i+1+j=i+(j+1) by omega]
theorem gt_keep {ks:List Nat} {σ:List V} {j:Nat}:gt (keepOnly ks σ) j=cond (ks.contains j) (mask ks (gt σ j)) .ud:=by
 have:=keepGo_gt (ks:=ks) 0 σ j
 rwa [Nat.zero_add] at this
theorem overGo_length {M W:List Nat}:∀ (i:Nat) (σ σ':List V),(overGo M W i σ σ').length=σ.length
 | _,[],_=>by simp[overGo]
 | i,x::xs,ys=>by simp[overGo,overGo_length (i+1) xs ys.tail]
theorem over_length {M W:List Nat} {σ σ':List V}:(over M W σ σ').length=σ.length:=overGo_length 0 σ σ'
theorem overGo_gt {M W:List Nat}:∀ (i:Nat) (σ σ':List V) (j:Nat),σ'.length=σ.length →
  gt (overGo M W i σ σ') j=cond (W.contains (i+j)) (mask M (gt σ' j)) (cond (hits W (gt σ j)) .ud (gt σ j))
 | i,[],σ',j,h=>by
  have:σ'=[]:=List.eq_nil_of_length_eq_zero h
  subst this
  simp[overGo,gt,mask_undef]
 | i,x::xs,[],j,h=>by simp at h
 | i,x::xs,y::ys,0,h=>by simp[overGo,gt]
 | i,x::xs,y::ys,j+1,h=>by
  have:=overGo_gt (M:=M) (W:=W) (i+1) xs ys j (by simpa using h)
  simp only[gt,overGo,List.tail_cons,List.getD_cons_succ] at this ⊢
  rw[this,show i+1+j=i+(j+1) by omega]
theorem gt_over {M W:List Nat} {σ σ':List V} {j:Nat} (h:σ'.length=σ.length) :
  gt (over M W σ σ') j=cond (W.contains j) (mask M (gt σ' j)) (cond (hits W (gt σ j)) .ud (gt σ j)):=by
 have:=overGo_gt (M:=M) (W:=W) 0 σ σ' j h
 rwa [Nat.zero_add] at this
theorem forceL_eq {R:Type}:∀ {σ:List V} {K:List V→Option R},forceL σ K=K σ
 | [],K=>rfl
 | x::xs,K=>by simp only[forceL];exact forceL_eq
theorem rootIn_into {ks:List Nat} {x:V} {r:Nat} (h:rootIn ks x=true) (hr:into r x=true):ks.contains r=true:=by
 have one:∀ {y:V},rootIn1 ks y=true→into1 r y=true→ks.contains r=true:=by
  intro y h1 h2
  cases y <;> simp only[into1,rootIn1,Nat.beq_eq,Bool.false_eq_true] at h1 h2 <;> (subst h2;exact h1)
 cases x
 case fn f caps =>
  simp only[rootIn,List.all_eq_true] at h
  simp only[into,List.any_eq_true] at hr
  obtain ⟨c,hc,h2⟩:=hr
  exact one (h c hc) h2
 all_goals exact one (y:=_) (by simpa only[rootIn] using h) (by simpa only[into] using hr)
theorem hits_into {ks:List Nat} {x:V} {r:Nat} (h:hits ks x=false) (hr:into r x=true):ks.contains r=false:=by
 have one:∀ {y:V},hits1 ks y=false→into1 r y=true→ks.contains r=false:=by
  intro y h1 h2
  cases y <;> simp only[into1,hits1,Nat.beq_eq,Bool.false_eq_true] at h1 h2 <;> (subst h2;exact h1)
 cases x
 case fn f caps =>
  simp only[hits,List.any_eq_false] at h
  simp only[into,List.any_eq_true] at hr
  obtain ⟨c,hc,h2⟩:=hr
  exact one (by simpa using h c hc) h2
 all_goals exact one (y:=_) (by simpa only[hits] using h) (by simpa only[into] using hr)
theorem rootIn_cont {ks:List Nat} {x:V} (h:rootIn ks x=false):plainV x=true∧¬isSlice x:=by
 cases x <;> first | (simp[rootIn,rootIn1] at h;done) | exact ⟨rfl,fun h=>h.elim⟩
theorem hits_cont {ks:List Nat} {x:V} (h:hits ks x=true):plainV x=true∧¬isSlice x:=by
 cases x <;> first | (simp[hits,hits1] at h;done) | exact ⟨rfl,fun h=>h.elim⟩
theorem into_cont {d:Nat} {x:V} (h:into d x=true):plainV x=true∧¬isSlice x:=by
 cases x <;> first | (simp[into,into1] at h;done) | exact ⟨rfl,fun h=>h.elim⟩
theorem plainV_cont {x:V} (h:plainV x=true):Cont x=false:=by cases x <;> first | rfl | cases h
theorem Rep.plainO {S:Nat→Prop} {w:World} {u:Value} {v:V} {O:List Nat} (hr:Rep S w u v O) (h:plainV v=true):O=[] :=
 hr.plain (plainV_cont h) fun a l e=>by subst e;cases h
def whoF (A:List Nat) (who:Nat→Option Nat) (b:Nat):Option Nat :=
 match who b with
 | some t=>cond (A.contains t) (some t) none
 | none=>none
theorem whoF_in {A:List Nat} {who:Nat→Option Nat} {b t:Nat} (h:who b=some t) (ht:A.contains t=true):whoF A who b=some t:=by
 unfold whoF;rw[h];dsimp only;rw[ht];rfl
theorem whoF_out {A:List Nat} {who:Nat→Option Nat} {b t:Nat} (h:who b=some t) (ht:A.contains t=false):whoF A who b=none:=by
 unfold whoF;rw[h];dsimp only;rw[ht];rfl
theorem whoF_none {A:List Nat} {who:Nat→Option Nat} {b:Nat} (h:who b=none):whoF A who b=none:=by simp[whoF,h]
theorem whoF_some {A:List Nat} {who:Nat→Option Nat} {b t:Nat} (h:whoF A who b=some t):who b=some t∧A.contains t=true:=by
 unfold whoF at h
 cases e:who b with
 | none=>rw[e] at h;cases h
 | some x =>
  rw[e] at h
  dsimp only at h
  cases e2:A.contains x with
  | false=>rw[e2] at h;cases h
  | true=>rw[e2] at h;cases h;exact ⟨rfl,e2⟩
section
variable {E:Env} {S S':Nat→Prop} {who who':Nat→Option Nat} {w w':World} {tm tm':Array Value} {σ σ':List V}
theorem Rel.forget (h:Rel E S who w tm σ) (A:List Nat):Rel E S (whoF A who) w tm (keepOnly A σ):=by
 refine ⟨by rw[keepOnly_length,h.size],fun i=>?_,fun b hb=>whoF_none (h.sep b hb),h.low,fun b i hb=>h.lowO b i (whoF_some hb).1,fun i=>?_,h.glob⟩
 ·
  rw[gt_keep]
  cases e:A.contains i with
  | false=>exact ⟨[],.ud _,by simp,by simp⟩
  | true =>
   unfold mask
   cases e2:rootIn A (gt σ i) with
   | false=>exact ⟨[],.ud _,by simp,by simp⟩
   | true =>
    obtain ⟨O,h1,h2,h3⟩:=h.rep i
    exact ⟨O,h1,h2,fun b hb=>whoF_in (h3 b hb) e⟩
 ·
  rw[gt_keep]
  cases e:A.contains i with
  | false=>exact link_undef ..
  | true =>
   unfold mask
   cases e2:rootIn A (gt σ i) with
   | false=>exact link_undef ..
   | true =>
    refine (h.link i).congr fun r hr=>⟨rfl,?_⟩
    rw[gt_keep,rootIn_into e2 hr]
    unfold mask
    cases e3:rootIn A (gt σ r) with
    | true=>exact .inl rfl
    | false=>exact .inr ⟨fun h=>h.elim,plainV_cont (rootIn_cont e3).1⟩
theorem Step.forget (A:List Nat):Step S who w S (whoF A who) w :=
 ⟨Nat.le_refl _,fun _ _ _=>rfl,fun _ h=>h,fun _ h=>.inl h,(fun b hb=>.inl fun hc=>hb (whoF_none hc)),Same.refl _⟩
def whoM (A W:List Nat) (who who2:Nat→Option Nat) (b:Nat):Option Nat :=
 match who2 b with
 | some t=>cond (W.contains t) (some t) none
 | none=>match who b with
  | some t=>cond (A.contains t) none (some t)
  | none=>none
theorem Rel.merge {A W:List Nat} {S2:Nat→Prop} {who2:Nat→Option Nat} {w2:World} {tm2:Array Value} {σ2:List V} (hWA:∀ t,W.contains t=true→A.contains t=true) (h:Rel E S who w tm σ) (h2:Rel E S2 who2 w2 tm2 σ2)
  (st:Step S (whoF A who) w S2 who2 w2) (hsz:tm2.size=tm.size) (htm:∀ t,W.contains t=false→tm2.getD t undef=tm.getD t undef)
  (hpl:∀ t,A.contains t=true→W.contains t=false→plainV (gt σ t)=true) :
  Rel E S2 (whoM A W who who2) w2 tm2 (over W W σ σ2)∧Step S who w S2 (whoM A W who who2) w2:=by
 have hlen:σ2.length=σ.length:=by rw[←h2.size,hsz,h.size]
 have hout:∀ t b,A.contains t=false→who b=some t→who2 b=none:=by
  intro t b ht hb
  cases e:who2 b with
  | none=>rfl
  | some x =>
   rcases st.own b (by rw[e];simp) with h3 | h3
   ·
    exact absurd (whoF_out hb ht) h3
   ·
    have:=h.lowO b t hb;omega
 have hsm:∀ b,S b→w2.heap[b]?=w.heap[b]?:=fun b hb=>st.keep b (h.low b hb) (whoF_none (h.sep b hb))
 have hom:∀ t b,A.contains t=false→who b=some t→w2.heap[b]?=w.heap[b]?:=fun t b ht hb=>st.keep b (h.lowO b t hb) (whoF_out hb ht)
 have hgt:∀ j,gt (over W W σ σ2) j=cond (W.contains j) (mask W (gt σ2 j)) (cond (hits W (gt σ j)) .ud (gt σ j)):=fun j=>gt_over hlen
 constructor
 ·
  refine ⟨by rw[over_length,←hlen,h2.size],fun i=>?_,fun b hb=>?_,h2.low,fun b i hb=>?_,fun i=>?_,h2.glob⟩
  ·
   rw[hgt]
   cases eW:W.contains i with
   | true =>
    simp only[cond_true]
    unfold mask
    cases e2:rootIn W (gt σ2 i) with
    | false=>exact ⟨[],.ud _,by simp,by simp⟩
    | true =>
     obtain ⟨O,h1,h3,h4⟩:=h2.rep i
     exact ⟨O,h1,h3,fun b hb=>by simp only[whoM,h4 b hb];rw[eW];rfl⟩
   | false =>
    simp only[cond_false]
    cases e2:hits W (gt σ i) with
    | true=>exact ⟨[],.ud _,by simp,by simp⟩
    | false =>
     obtain ⟨O,h1,h3,h4⟩:=h.rep i
     rw[htm i eW]
     cases eA:A.contains i with
     | true =>
      have:=h1.plainO (hpl i eA eW)
      subst this
      exact ⟨[],h1.mono st.sub hsm (by simp),by simp,by simp⟩
     | false =>
      exact ⟨O,h1.mono st.sub hsm (fun b hb=>hom i b eA (h4 b hb)),h3,fun b hb=>by
       simp only[whoM,hout i b eA (h4 b hb),h4 b hb];rw[eA];rfl⟩
  ·
   have h3:=h2.sep b hb
   simp only[whoM,h3]
   cases e:who b with
   | none=>rfl
   | some t =>
    cases eA:A.contains t with
    | true=>dsimp only;rw[eA];rfl
    | false =>
     exfalso
     rcases st.new b hb with h4 | h4 | h4
     ·
      rw[h.sep b h4] at e;cases e
     ·
      exact h4 (whoF_out e eA)
     ·
      have:=h.lowO b t e;omega
  ·
   unfold whoM at hb
   cases e:who2 b with
   | some x=>exact h2.lowO b x e
   | none =>
    rw[e] at hb
    cases e2:who b with
    | none=>rw[e2] at hb;cases hb
    | some x=>exact Nat.lt_of_lt_of_le (h.lowO b x e2) st.size
  ·
   rw[hgt]
   cases eW:W.contains i with
   | true =>
    simp only[cond_true]
    unfold mask
    cases e2:rootIn W (gt σ2 i) with
    | false=>exact link_undef ..
    | true =>
     refine (h2.link i).congr fun r hr=>⟨rfl,?_⟩
     have hr:=rootIn_into e2 hr
     rw[hgt,hr]
     simp only[cond_true]
     unfold mask
     cases e3:rootIn W (gt σ2 r) with
     | true=>exact .inl rfl
     | false=>exact .inr ⟨fun h=>h.elim,plainV_cont (rootIn_cont e3).1⟩
   | false =>
    simp only[cond_false]
    cases e2:hits W (gt σ i) with
    | true=>exact link_undef ..
    | false =>
     rw[htm i eW]
     have hrW:∀ y∈links (gt σ i),∀ r p,pathOf y=some (r,p)→W.contains r=false:=by
      intro y hy r p hp
      have h1:into1 r y=true:=by cases y <;> simp_all [pathOf,into1]
      have h3:into r (gt σ i)=true:=by
       cases e5:gt σ i <;> rw[e5] at hy <;> simp only[links,List.mem_singleton] at hy <;> first | (subst hy;exact h1) | (exact List.any_eq_true.2 ⟨y,hy,h1⟩)
      exact hits_into e2 h3
     refine (h.link i).keep (fun y hy r q i' j c X hp hf hX=>?_) (fun y hy r hy0=>?_)
     ·
      have hr:=hrW y hy r _ hp
      have hcr:Cont (gt σ r)=true:=by
       cases q with
       | nil =>
        have:X=gt σ r:=by
         generalize tm.getD r undef=u0 at hf
         generalize gt σ r=g0 at hf ⊢
         cases hf;rfl
        rw[←this];exact hX
       | cons z q=>exact hf.cont (by simp)
      have hrA:A.contains r=false:=by
       cases eA:A.contains r with
       | false=>rfl
       | true=>rw[plainV_cont (hpl r eA hr)] at hcr;cases hcr
      have hg:gt (over W W σ σ2) r=gt σ r:=by
       rw[hgt,hr]
       cases e3:hits W (gt σ r) with
       | false=>simp
       | true=>rw[plainV_cont (hits_cont e3).1] at hcr;cases hcr
      obtain ⟨P,hP,_,hoP⟩:=h.rep r
      have hall:∀ b∈P,w2.heap[b]?=w.heap[b]?:=fun b hb=>hom r b hrA (hoP b hb)
      refine ⟨X,by rw[hg,htm r hr];exact hf.mono hP hall,fun _ _ _ hb=>hb,fun _=>⟨fun j hj=>hj,fun i j b o hb hj hs=>⟨hs,?_⟩⟩⟩
      obtain ⟨A',OX',B',e',hX0,_⟩:=hP.focusA hf
      exact cell?_of_heap (hall b (by rw[e'];simp[hb.owned hX0]))
     ·
      have hr:=hrW y hy r [] (by rw[hy0];rfl)
      refine ⟨fun hs=>?_,htm r hr⟩
      rw[hgt,hr] at hs
      revert hs
      cases hits W (gt σ r) with
      | false=>exact id
      | true=>exact fun h=>h.elim
 ·
  refine ⟨st.size,fun b hb hn=>st.keep b hb (whoF_none hn),st.sub,fun b hb=>?_,fun b hb=>?_,st.out⟩
  ·
   rcases st.new b hb with h3 | h3 | h3
   ·
    exact .inl h3
   ·
    exact .inr (.inl fun hc=>h3 (whoF_none hc))
   ·
    exact .inr (.inr h3)
  ·
   unfold whoM at hb
   cases e:who2 b with
   | some x =>
    rcases st.own b (by rw[e];simp) with h3 | h3
    ·
     exact .inl fun hc=>h3 (whoF_none hc)
    ·
     exact .inr h3
   | none =>
    rw[e] at hb
    exact .inl fun hc=>by rw[hc] at hb;exact hb rfl
theorem Rel.mergeQ {A:List Nat} {d:Nat} {v:V} {S2:Nat→Prop} {who2:Nat→Option Nat} {w2:World} {u:Value} (hd:A.contains d=true) (h:Rel E S who w tm σ) (h2:Rel E S2 who2 w2 (tm.setIfInBounds d u) (setT (keepOnly A σ) d v))
  (st:Step S (whoF A who) w S2 who2 w2) (hg:Grows w w2) :
  Rel E S2 (whoM A A who who2) w2 (tm.setIfInBounds d u) (over A [d] σ (setT (keepOnly A σ) d v))∧Step S who w S2 (whoM A A who who2) w2:=by
 have hlk:(keepOnly A σ).length=σ.length:=keepOnly_length
 generalize hσ2:setT (keepOnly A σ) d v=σ2 at h2 ⊢
 have hlen:σ2.length=σ.length:=by rw[←hσ2];simp[setT,dropRoot,hlk]
 have hgt2:∀ i,i≠d→gt σ2 i=cond (into d (gt (keepOnly A σ) i)) .ud (gt (keepOnly A σ) i):=fun i hi=>by
  rw[←hσ2];unfold setT;rw[gt_set,if_neg (fun e=>hi e.1.symm),gt_dropRoot]
 have htm:∀ t,t≠d→(tm.setIfInBounds d u).getD t undef=tm.getD t undef:=fun t ht=>by
  rw[getD_setIfInBounds,if_neg (fun e=>ht e.1.symm)]
 have hit:∀ x,hits [d] x=into d x:=by
  have one:∀ y,hits1 [d] y=into1 d y:=fun y=>by
   cases y <;> simp only[hits1,into1,List.contains_cons,List.contains_nil,Bool.or_false,Nat.beq_eq_true_eq] <;> first | rfl | (rw[Bool.eq_iff_iff];simp)
  intro x
  cases x
  case fn f caps =>
   simp only[hits,into]
   congr 1
   funext y
   exact one y
  all_goals (simp only[hits,into];exact one _)
 have hgt:∀ j,gt (over A [d] σ σ2) j=if j=d then mask A (gt σ2 d) else cond (into d (gt σ j)) .ud (gt σ j):=fun j=>by
  rw[gt_over hlen,hit]
  by_cases hj:j=d
  ·
   subst hj;simp
  ·
   have:([d].contains j)=false:=by simpa using hj
   rw[this,if_neg hj];rfl
 have hsame:∀ j,j≠d→A.contains j=true→rootIn A (gt σ j)=true→gt (over A [d] σ σ2) j=gt σ2 j:=fun j hj hA hr=>by
  rw[hgt,if_neg hj,hgt2 j hj,gt_keep,hA]
  simp only[cond_true,mask,hr]
 have hout:∀ t b,A.contains t=false→who b=some t→who2 b=none:=by
  intro t b ht hb
  cases e:who2 b with
  | none=>rfl
  | some x =>
   rcases st.own b (by rw[e];simp) with h3 | h3
   ·
    exact absurd (whoF_out hb ht) h3
   ·
    have:=h.lowO b t hb;omega
 have hsm:∀ b,S b→w2.heap[b]?=w.heap[b]?:=fun b hb=>hg.2 b (h.low b hb)
 have hom:∀ t b,who b=some t→w2.heap[b]?=w.heap[b]?:=fun t b hb=>hg.2 b (h.lowO b t hb)
 constructor
 ·
  refine ⟨by rw[over_length,←hlen,h2.size],fun i=>?_,fun b hb=>?_,h2.low,fun b i hb=>?_,fun i=>?_,h2.glob⟩
  ·
   by_cases hi:i=d
   ·
    subst hi
    rw[hgt,if_pos rfl]
    unfold mask
    cases e2:rootIn A (gt σ2 i) with
    | false=>exact ⟨[],.ud _,by simp,by simp⟩
    | true =>
     obtain ⟨O,h1,h3,h4⟩:=h2.rep i
     exact ⟨O,h1,h3,fun b hb=>by simp only[whoM,h4 b hb];rw[hd];rfl⟩
   ·
    cases eA:A.contains i with
    | false =>
     rw[hgt,if_neg hi]
     cases e2:into d (gt σ i) with
     | true=>exact ⟨[],.ud _,by simp,by simp⟩
     | false =>
      obtain ⟨O,h1,h3,h4⟩:=h.rep i
      rw[htm i hi]
      exact ⟨O,h1.mono st.sub hsm (fun b hb=>hom i b (h4 b hb)),h3,fun b hb=>by
       simp only[whoM,hout i b eA (h4 b hb),h4 b hb];rw[eA];rfl⟩
    | true =>
     cases e3:rootIn A (gt σ i) with
     | true =>
      rw[hsame i hi eA e3]
      obtain ⟨O,h1,h3,h4⟩:=h2.rep i
      exact ⟨O,h1,h3,fun b hb=>by simp only[whoM,h4 b hb];rw[eA];rfl⟩
     | false =>
      rw[hgt,if_neg hi]
      cases e2:into d (gt σ i) with
      | true=>exact ⟨[],.ud _,by simp,by simp⟩
      | false =>
       obtain ⟨O,h1,h3,h4⟩:=h.rep i
       rw[htm i hi]
       have:=h1.plainO (rootIn_cont e3).1
       subst this
       exact ⟨[],h1.mono st.sub hsm (by simp),by simp,by simp⟩
  ·
   have h3:=h2.sep b hb
   simp only[whoM,h3]
   cases e:who b with
   | none=>rfl
   | some t =>
    cases eA:A.contains t with
    | true=>dsimp only;rw[eA];rfl
    | false =>
     exfalso
     rcases st.new b hb with h4 | h4 | h4
     ·
      rw[h.sep b h4] at e;cases e
     ·
      exact h4 (whoF_out e eA)
     ·
      have:=h.lowO b t e;omega
  ·
   unfold whoM at hb
   cases e:who2 b with
   | some x=>exact h2.lowO b x e
   | none =>
    rw[e] at hb
    cases e2:who b with
    | none=>rw[e2] at hb;cases hb
    | some x=>exact Nat.lt_of_lt_of_le (h.lowO b x e2) st.size
  ·
   by_cases hi:i=d
   ·
    subst hi
    rw[hgt,if_pos rfl]
    unfold mask
    cases e2:rootIn A (gt σ2 i) with
    | false=>exact link_undef ..
    | true =>
     refine (h2.link i).congr fun r hr=>⟨rfl,?_⟩
     have hrA:=rootIn_into e2 hr
     by_cases hri:r=i
     ·
      subst hri
      rw[hgt,if_pos rfl]
      unfold mask
      rw[e2];exact .inl rfl
     ·
      cases e3:rootIn A (gt σ r) with
      | true=>exact .inl (hsame r hri hrA e3)
      | false =>
       refine .inr ⟨fun hs=>?_,?_⟩
       ·
        rw[hgt,if_neg hri] at hs
        revert hs
        cases into i (gt σ r) with
        | true=>exact fun h=>h
        | false=>exact (rootIn_cont e3).2
       ·
        rw[hgt2 r hri,gt_keep,hrA]
        simp only[cond_true,mask,e3]
        rfl
   ·
    rw[hgt,if_neg hi,htm i hi]
    cases e2:into d (gt σ i) with
    | true=>exact link_undef ..
    | false =>
     have hl:=(h.link i).world h.rep (w':=w2) fun b hb=>by
      obtain ⟨t,ht⟩:=Option.ne_none_iff_exists'.1 hb
      exact hom t b ht
     refine hl.congr fun r hr=>?_
     have hrd:r≠d:=fun e=>by subst e;rw[hr] at e2;cases e2
     refine ⟨htm r hrd,?_⟩
     rw[hgt,if_neg hrd]
     cases e3:into d (gt σ r) with
     | false=>exact .inl rfl
     | true=>exact .inr ⟨fun h=>h.elim,plainV_cont (into_cont e3).1⟩
 ·
  refine ⟨st.size,fun b hb hn=>st.keep b hb (whoF_none hn),st.sub,fun b hb=>?_,fun b hb=>?_,st.out⟩
  ·
   rcases st.new b hb with h3 | h3 | h3
   ·
    exact .inl h3
   ·
    exact .inr (.inl fun hc=>h3 (whoF_none hc))
   ·
    exact .inr (.inr h3)
  ·
   unfold whoM at hb
   cases e:who2 b with
   | some x =>
    rcases st.own b (by rw[e];simp) with h3 | h3
    ·
     exact .inl fun hc=>h3 (whoF_none hc)
    ·
     exact .inr h3
   | none =>
    rw[e] at hb
    exact .inl fun hc=>by rw[hc] at hb;exact hb rfl
end
end Go.Zv
namespace Go.Zv
open Go
structure CalmRun {α:Type} (P:Program) (s:Sem α):Prop where
 same:∀ w v w',s.run P w=.ok v w'→w'=w
section
variable {P:Program} {α β:Type}
theorem CalmRun.pure (a:α):CalmRun P (pure a:Sem α):=.mk fun w v w' h=>by
 simp only[Sem.run_pure,Result.ok.injEq] at h;exact h.2.symm
theorem CalmRun.bind {s:Sem α} {f:α→Sem β} (hs:CalmRun P s) (hf:∀ a,CalmRun P (f a)):CalmRun P (s >>= f):=.mk fun w v w' h=>by
 rw[Sem.run_bind] at h
 cases e:s.run P w with
 | halt x w1=>rw[e] at h;cases h
 | ok a w1 =>
  rw[e] at h
  have:=hs.same w a w1 e
  subst this
  exact (hf a).same _ v w' h
theorem CalmRun.halt (x:Halt):CalmRun P (.halt x:Sem α):=.mk fun w v w' h=>by cases h
theorem CalmRun.stuck (s:String):CalmRun P (stuck s:Sem α):=CalmRun.halt _
theorem CalmRun.unsupported (s:Unsupported):CalmRun P (unsupported s:Sem α):=CalmRun.halt _
theorem CalmRun.bounds (k:IntKind) (x y:Int) (code:BoundsCode):CalmRun P (boundsPanic k x y code:Sem α):=.mk fun w v w' h=>by
 obtain ⟨s,w1,h1⟩:=run_boundsPanic (P:=P) (w:=w) (α:=α) k x y code
 rw[h1] at h;cases h
theorem CalmRun.program:CalmRun P Go.program:=.mk fun w v w' h=>by cases h;rfl
theorem CalmRun.typeInfo (t:Nat):CalmRun P (typeInfo t):=by
 unfold Go.typeInfo
 refine .bind .program fun p=>?_
 split
 ·
  exact .pure _
 ·
  exact .stuck _
theorem CalmRun.underlying (t:Nat):CalmRun P (underlying t):=by
 unfold Go.underlying
 refine .bind .program fun p=>?_
 split
 ·
  exact .pure _
 ·
  exact .stuck _
theorem CalmRun.zeroValue (t:Nat):CalmRun P (zeroValue t):=by
 unfold Go.zeroValue
 refine .bind (.typeInfo _) fun p=>?_
 split
 ·
  exact .pure _
 ·
  exact .unsupported _
theorem CalmRun.sizeOf (t:Nat):CalmRun P (sizeOf t):=by
 unfold Go.sizeOf
 exact .bind (.typeInfo _) fun p=>.pure _
theorem CalmRun.isAgg (t:Nat):CalmRun P (isAgg t):=by
 unfold Go.isAgg
 refine .bind (.underlying _) fun p=>?_
 split <;> exact .pure _
theorem CalmRun.load (a:Addr):CalmRun P (Go.load a):=.mk fun w v w' h=>by
 unfold Go.load at h
 simp only[Sem.run] at h
 split at h
 ·
  cases h;rfl
 ·
  split at h
  ·
   cases h;rfl
  ·
   cases h
theorem CalmRun.loadCellsFrom (a:Addr):∀ (n i:Nat) (acc:Array Value),CalmRun P (loadCellsFrom a i n acc)
 | 0,i,acc=>.pure _
 | n+1,i,acc=>.bind (.load _) fun v=>CalmRun.loadCellsFrom a n (i+1) _
theorem CalmRun.loadVar (t:Nat) (a:Addr):CalmRun P (loadVar t a):=by
 unfold Go.loadVar
 refine .bind (.isAgg _) fun b=>?_
 split
 ·
  exact .bind (.sizeOf _) fun n=>.bind (CalmRun.loadCellsFrom a n 0 _) fun _=>.pure _
 ·
  exact .load _
theorem CalmRun.asIntOf (v:Value):CalmRun P (asIntOf v):=by
 unfold Go.asIntOf
 split
 ·
  exact .pure _
 ·
  exact .unsupported _
 ·
  exact .stuck _
theorem CalmRun.sureAddr (v:Value):CalmRun P (Instr.sureAddr v):=by
 unfold Instr.sureAddr
 split
 ·
  exact .pure _
 ·
  exact .stuck _
theorem CalmRun.asBool (v:Value):CalmRun P (Go.asBool v):=by
 unfold Go.asBool
 split
 ·
  exact .pure _
 ·
  exact .stuck _
theorem CalmRun.asAgg (v:Value):CalmRun P (Go.asAgg v):=by
 unfold Go.asAgg
 split
 ·
  exact .pure _
 ·
  exact .stuck _
theorem CalmRun.part (t:Nat) (cs:Array Value) (o:Nat):CalmRun P (part t cs o):=by
 unfold Go.part
 refine .bind (.isAgg _) fun b=>?_
 split
 ·
  exact .bind (.sizeOf _) fun n=>.pure _
 ·
  split
  ·
   exact .pure _
  ·
   exact .stuck _
theorem CalmRun.loadAt (t:Nat) (v:Value):CalmRun P (Instr.loadAt t v):=.bind (.sureAddr _) fun a=>.loadVar t a
theorem CalmRun.shape (r:Nat):CalmRun P (Go.shape r):=.mk fun w v w' h=>by cases h;rfl
theorem CalmRun.getObj (r:Nat):CalmRun P (Go.getObj r):=.mk fun w v w' h=>by
 unfold Go.getObj at h
 simp only[Sem.run] at h
 split at h
 ·
  cases h
 ·
  cases h;rfl
 ·
  cases h
theorem CalmRun.asAddr (v:Value):CalmRun P (Go.asAddr v):=by
 unfold Go.asAddr
 split
 ·
  exact .pure _
 ·
  exact .mk fun w v w' h=>by simp[runtimePanic,goPanic,go_sem] at h
 ·
  exact .stuck _
theorem CalmRun.indexAt (t:Nat) (x i:Value):CalmRun P (Instr.indexAt t x i):=by
 unfold Instr.indexAt
 repeat' first
  | exact CalmRun.pure _
  | exact CalmRun.stuck _
  | exact CalmRun.unsupported _
  | exact CalmRun.bounds _ _ _ _
  | exact CalmRun.sizeOf _
  | exact CalmRun.underlying _
  | exact CalmRun.asIntOf _
  | exact CalmRun.sureAddr _
  | refine CalmRun.bind ?_ fun _=>?_
  | dsimp only
  | split
theorem CalmRun.index (t:Nat) (x i:Value):CalmRun P (Instr.index t x i):=by
 unfold Instr.index
 repeat' first
  | exact CalmRun.pure _
  | exact CalmRun.stuck _
  | exact CalmRun.bounds _ _ _ _
  | exact CalmRun.sizeOf _
  | exact CalmRun.underlying _
  | exact CalmRun.asIntOf _
  | exact CalmRun.part _ _ _
  | refine CalmRun.bind ?_ fun _=>?_
  | split
theorem CalmRun.field (t:Nat) (x:Value) (f:Nat):CalmRun P (Instr.field t x f):=by
 unfold Instr.field
 repeat' first
  | exact CalmRun.stuck _
  | exact CalmRun.underlying _
  | exact CalmRun.asAgg _
  | exact CalmRun.part _ _ _
  | refine CalmRun.bind ?_ fun _=>?_
  | split
theorem CalmRun.extract (x:Value) (i:Nat):CalmRun P (Instr.extract x i):=by
 unfold Instr.extract
 repeat' first
  | exact CalmRun.pure _
  | exact CalmRun.stuck _
  | split
theorem CalmRun.mapM {γ:Type} {f:γ→Sem β} (hf:∀ x,CalmRun P (f x)):∀ l:List γ,CalmRun P (l.mapM f)
 | []=>by rw[List.mapM_nil];exact .pure _
 | x::l=>by rw[List.mapM_cons];exact .bind (hf x) fun _=>.bind (CalmRun.mapM hf l) fun _=>.pure _
theorem CalmRun.build (t:Nat) (parts:Array (Nat×Value)):CalmRun P (Instr.build t parts):=by
 unfold Instr.build
 refine .bind (.zeroValue _) fun z=>?_
 dsimp only
 refine .bind (.underlying _) fun d=>?_
 split
 ·
  refine .bind ?_ fun q=>?_
  ·
   rw[Array.mapM_eq_mapM_toList]
   refine .bind (CalmRun.mapM (fun f=>.bind (.sizeOf _) fun _=>.pure _) _) fun _=>.pure _
  ·
   split
   ·
    exact .pure _
   ·
    exact .stuck _
 ·
  refine .bind (.sizeOf _) fun q=>?_
  split
  ·
   exact .pure _
  ·
   exact .stuck _
 ·
  exact .stuck _
theorem CalmRun.sliceBound (x:Value) (y:Nat) (c:BoundsCode):CalmRun P (Instr.sliceBound x y c):=by
 unfold Instr.sliceBound
 repeat' first
  | exact CalmRun.pure _
  | exact CalmRun.bounds _ _ _ _
  | exact CalmRun.asIntOf _
  | refine CalmRun.bind ?_ fun _=>?_
  | split
theorem CalmRun.sliceBounds (b:Bool) (n m:Nat) (lo hi mx:Option Value):CalmRun P (Instr.sliceBounds b n m lo hi mx):=by
 unfold Instr.sliceBounds
 repeat' first
  | exact CalmRun.pure _
  | exact CalmRun.stuck _
  | exact CalmRun.sliceBound _ _ _
  | refine CalmRun.bind ?_ fun _=>?_
  | split
theorem CalmRun.slice (t:Nat) (x:Value) (lo hi mx:Option Value):CalmRun P (Instr.slice t x lo hi mx):=by
 unfold Instr.slice
 repeat' first
  | exact CalmRun.pure _
  | exact CalmRun.stuck _
  | exact CalmRun.sizeOf _
  | exact CalmRun.underlying _
  | exact CalmRun.asAddr _
  | exact CalmRun.sliceBounds _ _ _ _ _ _
  | refine CalmRun.bind ?_ fun _=>?_
  | split
theorem CalmRun.sliceAt (t:Nat) (x:Value) (lo hi mx:Option Value):CalmRun P (Instr.sliceAt t x lo hi mx):=by
 unfold Instr.sliceAt
 repeat' first
  | exact CalmRun.pure _
  | exact CalmRun.slice _ _ _ _ _
  | exact CalmRun.sizeOf _
  | exact CalmRun.underlying _
  | exact CalmRun.sureAddr _
  | exact CalmRun.sliceBounds _ _ _ _ _ _
  | refine CalmRun.bind ?_ fun _=>?_
  | split
theorem CalmRun.partAt (a:Addr) (i j:Nat):CalmRun P (Go.partAt a i j):=by
 unfold Go.partAt Go.byteOf
 repeat' first
  | exact CalmRun.pure _
  | exact CalmRun.stuck _
  | exact CalmRun.unsupported _
  | exact CalmRun.program
  | exact CalmRun.shape _
  | exact CalmRun.getObj _
  | refine CalmRun.bind ?_ fun _=>?_
  | dsimp only
  | split
theorem CalmRun.fieldAt (t:Nat) (x:Value) (f:Nat):CalmRun P (Instr.fieldAt t x f):=by
 unfold Instr.fieldAt Go.fieldPlace
 repeat' first
  | exact CalmRun.pure _
  | exact CalmRun.stuck _
  | exact CalmRun.sizeOf _
  | exact CalmRun.underlying _
  | exact CalmRun.sureAddr _
  | exact CalmRun.partAt _ _ _
  | refine CalmRun.bind ?_ fun _=>?_
  | split
theorem CalmRun.unary (op:UnOp) (x:Value):CalmRun P (Op.unary op x):=by
 unfold Op.unary
 repeat' first
  | exact CalmRun.pure _
  | exact CalmRun.stuck _
  | exact CalmRun.unsupported _
  | unfold intArith
  | unfold intBits
  | split
end
def calmB (o:Oper):Bool :=
 match o.op with
 | .move _ | .assign _ | .pick .. | .build .. | .load .. | .nilCheck _ | .binOp .. | .slice .. | .fieldAddr .. | .field .. | .indexAddr .. | .index .. | .extract .. | .unOp ..=>true
 | .call c=>(match c.callee with
  | .builtin .len=>true
  | _=>false)
 | _=>false
section
variable {P:Program} {E:Env} {S:Nat→Prop} {who:Nat→Option Nat} {w:World} {a:Act} {σ:List V} {R:Type} {r:R} {K:List V→Option R}
theorem calm_value {s:Sem Value} {n:Next} {w':World} (hs:CalmRun P s) (h:(do pure (.value (←s)):Sem Next).run P w=.ok n w'):∃ v,n=.value v∧w'=w:=by
 rw[Sem.run_bind] at h
 cases e:s.run P w with
 | halt x w1=>rw[e] at h;cases h
 | ok v w1 =>
  rw[e] at h
  simp only[Result.andThen_ok,Sem.run_pure,Result.ok.injEq] at h
  exact ⟨v,h.1.symm,by rw[←h.2];exact hs.same _ _ _ e⟩
theorem CalmRun.len_ {P:Program} (ts:Array TypeId) (t:TypeId) (args:Array Value):CalmRun P (Builtin.len_ ts t args):=by
 unfold Builtin.len_
 repeat' first
  | exact CalmRun.pure _
  | exact CalmRun.stuck _
  | exact CalmRun.underlying _
  | exact CalmRun.getObj _
  | refine CalmRun.bind ?_ fun _=>?_
  | dsimp only
  | split
theorem calm_run {o:Oper} {n:Next} {w':World} (hE:EnvOK P E) (h:Rel E S who w a.tmps σ) (hs:evOp E o σ K=some r) (hc:calmB o=true) (hr:(execOp a.eval o).run P w=.ok n w'):∃ v,n=.value v∧w'=w:=by
 unfold evOp at hs
 cases hfx:flag E.fixed o.dst with
 | true=>rw[hfx] at hs;cases hs
 | false =>
 rw[hfx] at hs
 simp only[cond_false] at hs
 unfold calmB at hc
 cases hop:o.op <;> rw[hop] at hc hs <;> first | (cases hc;done) | skip
 case move x=>simp only[execOp,hop] at hr;cases hr;exact ⟨_,rfl,rfl⟩
 case assign x=>simp only[execOp,hop] at hr;cases hr;exact ⟨_,rfl,rfl⟩
 case pick c x y =>
  have:execOp a.eval o=(do pure (.value (←(do pure (if ←Go.asBool (a.eval c) then a.eval x else a.eval y):Sem Value))):Sem Next):=by simp only[execOp,hop,bind_assoc,pure_bind]
  rw[this] at hr
  exact calm_value (.bind (.asBool _) fun _=>.pure _) hr
 case build t ps=>exact calm_value (.build _ _) (by simpa only[execOp,hop] using hr)
 case load t x=>exact calm_value (.loadAt _ _) (by simpa only[execOp,hop] using hr)
 case nilCheck x =>
  simp only[execOp,hop] at hr
  obtain ⟨hrp,hl⟩:=opnd_spec h x
  dsimp only at hs
  split at hs
  ·
   rename_i cs i hx
   rw[hx] at hrp
   generalize a.eval x=u at hrp hr
   cases hrp
   cases hr;exact ⟨_,rfl,rfl⟩
  ·
   rename_i rr p hx
   rw[hx] at hl
   obtain ⟨b,off,hu⟩:=ptr_val hl
   rw[hu] at hr
   cases hr;exact ⟨_,rfl,rfl⟩
  ·
   rename_i f cs hx
   rw[hx] at hrp
   generalize a.eval x=u at hrp hr
   cases hrp
   cases hr;exact ⟨_,rfl,rfl⟩
  ·
   cases hs
 case binOp op t x y d =>
  obtain ⟨v,u,h1,h2,h3,h4⟩:=evBin_sem (P:=P) (ox:=x) (oy:=y) hE (opnd_spec h x).1 (opnd_spec h y).1 hs
  have:execOp a.eval o=(do pure (.value (←(do eqGuard op t x y (a.eval x) (a.eval y);binOp op t (a.eval x) (a.eval y):Sem Value))):Sem Next):=by simp only[execOp,hop]
  rw[this] at hr
  rw[Sem.run_bind,h4] at hr
  simp only[Result.andThen_ok,Sem.run_pure,Result.ok.injEq] at hr
  exact ⟨u,hr.1.symm,hr.2.symm⟩
 case unOp op t x=>exact calm_value (.unary _ _) (by simpa only[execOp,hop] using hr)
 case slice t x lo hi mx=>exact calm_value (.sliceAt _ _ _ _ _) (by simpa only[execOp,hop] using hr)
 case fieldAddr t x f=>exact calm_value (.fieldAt _ _ _) (by simpa only[execOp,hop] using hr)
 case field t x f=>exact calm_value (.field _ _ _) (by simpa only[execOp,hop] using hr)
 case indexAddr t x i=>exact calm_value (.indexAt _ _ _) (by simpa only[execOp,hop] using hr)
 case index t x i=>exact calm_value (.index _ _ _) (by simpa only[execOp,hop] using hr)
 case extract x i=>exact calm_value (.extract _ _) (by simpa only[execOp,hop] using hr)
 case call c =>
  dsimp only at hc
  split at hc
  ·
   rename_i hb
   have:execOp a.eval o=(do pure (.value (←Builtin.len_ c.argTypes o.type (c.args.map a.eval))):Sem Next):=by
    simp only[execOp,hop,resolve,hb,pure_bind,invoke]
    rfl
   rw[this] at hr
   exact calm_value (.len_ _ _ _) hr
  ·
   cases hc
theorem oper_still {o:Oper} (hE:EnvOK P E) (hC:CallOK P E) (h:Rel E S who w a.tmps σ) (hs:evOp E o σ K=some r) (hc:calmB o=true) :
  ∃ v,(execOp a.eval o).run P w=.ok (.value v) w∧Post E r K S who w a (a.put o.dst v) w:=by
 have h1:=oper_sound (Q:=fun _ _ _=>False) hE hC h hs
 unfold Oper.wp at h1
 cases hr:(execOp a.eval o).run P w with
 | ok n w' =>
  obtain ⟨v,rfl,rfl⟩:=calm_run hE h hs hc hr
  rw[hr] at h1
  exact ⟨v,rfl,h1⟩
 | halt x w' =>
  rw[hr] at h1
  exfalso
  cases x <;> simp only[Oper.upon] at h1
end
end Go.Zv
namespace Go.Zv
open Go
section
variable {R:Type} {E:Env} {r:R} {K:List V→Option R} {σ:List V}
theorem coerce_K {t:TK} {c:V} {G:V→Option R} (h:coerce t c G=some r):∃ v,G v=some r:=by
 cases t <;> cases c <;> simp only[coerce,asInt,asBool,asStr,asSl,Option.bind_none,Option.bind_some,reduceCtorEq] at h <;> first
  | exact ⟨_,h⟩
  | (split at h <;> first | (simp only[Option.bind_some] at h;exact ⟨_,h⟩) | (simp at h))
  | (rename_i f caps;cases e:linkFree (.fn f caps) <;> rw[e] at h <;> first | exact ⟨_,h⟩ | cases h)
theorem evBin_K {op:BinOp} {t:Nat} {x y:V} {G:V→Option R} (h:evBin E op t x y G=some r):∃ v,G v=some r:=by
 unfold evBin at h
 repeat' first
  | exact ⟨_,h⟩
  | (cases h;done)
  | split at h
  | (simp only[Option.bind_eq_some_iff] at h;obtain ⟨_,_,h⟩:=h;exact ⟨_,h⟩)
  | (cases e:E.eqs t <;> rw[e] at h)
  | dsimp only[cond] at h
theorem place_K {k r0:Nat} {p:Path} {G:Bool→List (List V)→Option R} {I:Bool→List (List V)→Option R} (h:place k σ r0 p G I=some r):(∃ n rows,G n rows=some r)∨∃ f rows,I f rows=some r:=by
 unfold place at h
 simp only[asOwn] at h
 repeat' first
  | exact .inl ⟨_,_,h⟩
  | exact .inr ⟨_,_,h⟩
  | (cases h;done)
  | split at h
  | (simp only[Option.bind_eq_some_iff] at h;obtain ⟨_,_,h⟩:=h;exact .inl ⟨_,_,h⟩)
theorem slen_K {k:Nat} {v:V} {G:Nat→Option R} (h:slen k σ v G=some r):∃ n,G n=some r:=by
 unfold slen at h
 split at h
 ·
  split at h
  ·
   exact ⟨_,h⟩
  ·
   cases h
 ·
  exact ⟨_,h⟩
 ·
  rcases place_K h with ⟨n,rows,h⟩ | ⟨f,rows,h⟩ <;> exact ⟨_,h⟩
 ·
  cases h
theorem fill_K {places:Nat→Option (Nat×Nat)} {nest:Bool}:∀ {l:List (Nat×Operand)} {cells:List V} {G:List V→List V→Option R},(l.all fun p=>!isRefV (opnd E σ p.2))=true→fillCells places nest E l cells σ G=some r→∃ cs,G cs σ=some r
 | [],cells,G,_,h=>⟨_,h⟩
 | (i,x)::l,cells,G,hr,h=>by
  simp only[List.all_cons,Bool.and_eq_true,Bool.not_eq_true'] at hr
  simp only[fillCells] at h
  split at h
  ·
   cases h
  ·
   rename_i off size hp
   have go:∀ {cs:List V},(if cs.length=size then (if off+size≤cells.length then fillCells places nest E l (setRange cells off cs) σ G else none) else none)=some r→∃ cs,G cs σ=some r:=by
    intro cs h
    split at h
    ·
     split at h
     ·
      exact fill_K (by simpa using hr.2) h
     ·
      cases h
    ·
     cases h
   unfold partCells at h
   split at h
   all_goals first
    | exact go h
    | (cases h;done)
    | (rename_i e;rw[e] at hr;simp[isRefV] at hr;done)
    | skip
   ·
    rename_i cs e
    cases hg:goodCells cs with
    | true=>rw[hg] at h;exact go h
    | false=>rw[hg] at h;cases h
   ·
    rename_i f caps e
    cases hg:caps.all isIptr with
    | true=>rw[hg] at h;exact go h
    | false=>rw[hg] at h;cases h
theorem bnd_K {v:Option V} {d:Int} {G:Int→Option R} (h:bnd v d G=some r):∃ n,G n=some r:=by
 unfold bnd at h
 split at h
 ·
  exact ⟨_,h⟩
 ·
  simp only[Option.bind_eq_some_iff] at h
  obtain ⟨_,_,h⟩:=h
  exact ⟨_,h⟩
theorem cutAt_K {k:Nat} {rows:List (List V)} {lo hi mx:Option V} {G:V→List V→Option R} (h:cutAt k rows lo hi mx σ G=some r):∃ v,G v σ=some r:=by
 unfold cutAt at h
 obtain ⟨n,h⟩:=bnd_K h
 obtain ⟨m,h⟩:=bnd_K h
 repeat' first
  | exact ⟨_,h⟩
  | (cases h;done)
  | split at h
  | (simp only[Option.bind_eq_some_iff] at h;obtain ⟨_,_,h⟩:=h)
theorem reads_K {k:Nat} {v:V} {G:List (List V)→Option R} (h:reads k σ v G=some r):∃ rows,G rows=some r:=by
 unfold reads at h
 split at h
 ·
  split at h
  ·
   exact ⟨_,h⟩
  ·
   cases h
 ·
  exact ⟨_,h⟩
 ·
  rcases place_K h with ⟨n,rows,h⟩ | ⟨f,rows,h⟩
  ·
   cases n with
   | true=>cases h
   | false=>exact ⟨_,h⟩
  ·
   exact ⟨_,h⟩
 ·
  cases h
theorem convert_K {src d:Nat} {v:V} {G:V→Option R} (hk:kindOf (E.tys d)=.str) (h:evConvert E src d σ v (fun v _=>G v)=some r):∃ v,G v=some r:=by
 unfold evConvert at h
 split at h
 ·
  cases h
 split at h
 ·
  rename_i hk';simp[hk] at hk'
 ·
  rename_i hk';simp[hk] at hk'
 ·
  exact ⟨_,h⟩
 ·
  exact ⟨_,h⟩
 ·
  rename_i hk';simp[hk] at hk'
 ·
  rename_i hk' _ _
  cases hu8:E.u8s src with
  | false=>rw[hu8] at h;cases h
  | true =>
   rw[hu8] at h
   simp only[cond_true] at h
   obtain ⟨rows,h⟩:=reads_K h
   simp only[Option.bind_eq_some_iff] at h
   obtain ⟨_,_,h⟩:=h
   exact ⟨_,h⟩
 ·
  cases h
theorem convert_state {src d:Nat} {v:V} {G:V→List V→Option R} (hk:kindOf (E.tys d)=.str):evConvert E src d σ v G=evConvert E src d σ v (fun v _=>G v σ):=by
 unfold evConvert
 split
 ·
  rfl
 split
 ·
  rename_i hk';simp[hk] at hk'
 ·
  rename_i hk';simp[hk] at hk'
 ·
  rfl
 ·
  rfl
 ·
  rename_i hk';simp[hk] at hk'
 ·
  rfl
 ·
  rfl
theorem evOp_put {P:Program} (hC:CallOK P E) {o:Oper} (hp:putB E o σ=true) (h:evOp E o σ K=some r):∃ v,K (put o.dst v σ)=some r:=by
 unfold evOp at h
 cases hfx:flag E.fixed o.dst with
 | true=>rw[hfx] at h;cases h
 | false =>
 rw[hfx] at h
 simp only[cond_false] at h
 unfold putB at hp
 cases hop:o.op <;> rw[hop] at h hp <;> first | (cases hp;done) | skip
 case move x =>
  dsimp only at h hp
  split at h
  ·
   rename_i e;rw[e] at hp;cases hp
  ·
   exact ⟨_,h⟩
 case assign x =>
  dsimp only at h hp
  split at h
  ·
   rename_i e;rw[e] at hp;cases hp
  ·
   exact ⟨_,h⟩
 case pick c x y =>
  dsimp only at h
  split at h
  ·
   split at h <;> exact ⟨_,h⟩
  ·
   cases h
 case nilCheck x =>
  dsimp only at h
  split at h <;> first | exact ⟨_,h⟩ | cases h
 case unOp op t x =>
  dsimp only at h
  split at h <;> first | exact ⟨_,h⟩ | cases h
 case binOp op t x y d=>exact evBin_K h
 case convert s' d' x =>
  dsimp only at h hp
  split at hp
  ·
   rename_i hk
   rw[convert_state hk] at h
   exact convert_K (G:=fun v=>K (put o.dst v σ)) hk h
  ·
   cases hp
 case fieldAddr t x f =>
  dsimp only at h
  repeat' first
   | exact ⟨_,h⟩
   | (cases h;done)
   | split at h
 case field t x f =>
  dsimp only at h
  split at h
  ·
   rename_i fs cs h1 h2
   split at h
   ·
    rename_i off ft size hf
    cases e:(kindOf (E.tys ft)).isAgg with
    | true=>rw[e] at h;exact ⟨_,h⟩
    | false =>
     rw[e] at h
     simp only[cond_false] at h
     split at h <;> exact coerce_K (G:=fun v=>K (put o.dst v σ)) h
   ·
    cases h
  ·
   cases h
 case indexAddr t x ix =>
  dsimp only at h
  split at h
  ·
   cases h
  ·
   split at h
   ·
    split at h
    ·
     exact ⟨_,h⟩
    ·
     cases h
   ·
    split at h
    ·
     exact ⟨_,h⟩
    ·
     cases h
   ·
    split at h
    ·
     split at h
     ·
      exact ⟨_,h⟩
     ·
      cases h
    ·
     cases h
   ·
    rcases place_K h with ⟨n,rows,h⟩ | ⟨f,rows,h⟩
    ·
     split at h
     ·
      exact ⟨_,h⟩
     ·
      cases h
    ·
     split at h
     ·
      exact ⟨_,h⟩
     ·
      cases h
   ·
    cases h
 case index t x ix =>
  dsimp only at h
  split at h
  ·
   cases h
  ·
   split at h
   ·
    split at h
    ·
     exact ⟨_,h⟩
    ·
     cases h
   ·
    split at h
    ·
     rename_i n k e cs _ _ _
     cases e2:(kindOf (E.tys e)).isAgg with
     | true=>rw[e2] at h;exact ⟨_,h⟩
     | false =>
      rw[e2] at h
      simp only[cond_false] at h
      split at h <;> exact coerce_K (G:=fun v=>K (put o.dst v σ)) h
    ·
     cases h
   ·
    cases h
 case extract x i =>
  dsimp only at h hp
  split at h
  ·
   rename_i t
   split at h
   ·
    rename_i vs e
    dsimp only at hp
    rw[e] at hp
    dsimp only at hp
    split at h
    ·
     rename_i e2;rw[e2] at hp;cases hp
    ·
     cases e3:simple (vs.getD i .ud) with
     | true=>rw[e3] at h;exact ⟨_,h⟩
     | false=>rw[e3] at h;cases h
   ·
    cases h
  ·
   cases h
 case slice t x lo hi mx =>
  dsimp only at h hp
  unfold evSlice at h
  split at h
  ·
   split at h
   ·
    cases h
   ·
    obtain ⟨n,h⟩:=bnd_K h
    obtain ⟨m,h⟩:=bnd_K h
    split at h
    ·
     split at h
     ·
      exact ⟨_,h⟩
     ·
      cases h
    ·
     cases h
  ·
   unfold share at h
   split at h
   ·
    split at h
    ·
     exact cutAt_K (G:=fun v σ'=>K (put o.dst v σ')) h
    ·
     cases h
   ·
    exact cutAt_K (G:=fun v σ'=>K (put o.dst v σ')) h
   ·
    rename_i e;rw[e] at hp;cases hp
   ·
    cases h
  ·
   split at h
   ·
    exact cutAt_K (G:=fun v σ'=>K (put o.dst v σ')) h
   ·
    cases h
  ·
   rename_i e;rw[e] at hp;cases hp
  ·
   cases h
 case build t parts =>
  dsimp only at h hp
  split at h
  ·
   split at h
   ·
    obtain ⟨cs,h⟩:=fill_K (G:=fun cs σ'=>K (put o.dst (.agg (canonB (flag E.nests o.dst) _ cs)) σ')) hp h
    exact ⟨_,h⟩
   ·
    obtain ⟨cs,h⟩:=fill_K (G:=fun cs σ'=>K (put o.dst (.agg (canonB (flag E.nests o.dst) _ cs)) σ')) hp h
    exact ⟨_,h⟩
   ·
    cases h
  ·
   cases h
 case load t x =>
  dsimp only at h hp
  unfold load at h
  split at h
  ·
   cases h
  ·
   rename_i i hi
   rw[hi] at hp
   dsimp only at hp
   split at h
   ·
    cases e:i.kind.isAgg <;> rw[e] at h <;> simp only[cond_true,cond_false] at h <;> split at h <;> first
     | exact ⟨_,h⟩
     | exact coerce_K (G:=fun v=>K (put o.dst v σ)) h
     | cases h
   ·
    rename_i r0 p hx
    rw[hx] at hp
    dsimp only at hp
    split at h
    ·
     rename_i j off cells h1 h2
     rw[h1,h2] at hp
     dsimp only at hp
     cases e:i.kind.isAgg with
     | true =>
      rw[e] at h hp
      simp only[cond_true,Bool.not_true,Bool.false_or,Bool.not_eq_true'] at h hp
      split at h
      ·
       cases hg:goodCells (shareCells ((cells.drop off).take i.size)) with
       | false=>rw[hg] at h;cases h
       | true =>
        rw[hg,hp] at h
        exact ⟨_,h⟩
      ·
       cases h
     | false =>
      rw[e] at h
      simp only[cond_false] at h
      unfold loadCell at h
      repeat' first
       | exact ⟨_,h⟩
       | (cases h;done)
       | exact coerce_K (G:=fun v=>K (put o.dst v σ)) h
       | split at h
    ·
     rename_i j off nest k rows h1 h2
     cases e:i.kind.isAgg with
     | true =>
      rw[e] at h
      simp only[cond_true] at h
      cases nest with
      | true=>cases h
      | false =>
       simp only[cond_false] at h
       split at h
       ·
        exact ⟨_,h⟩
       ·
        cases h
     | false =>
      rw[e] at h
      simp only[cond_false] at h
      repeat' first
       | exact ⟨_,h⟩
       | (cases h;done)
       | exact coerce_K (G:=fun v=>K (put o.dst v σ)) h
       | split at h
    ·
     cases h
   ·
    cases h
 case call c =>
  dsimp only at h hp
  split at h
  ·
   rename_i b hb
   rw[hb] at hp
   cases b <;> first | (cases hp;done) | skip
   unfold evBuiltin at h
   split at h <;> first | contradiction | skip
   ·
    repeat' first
     | exact ⟨_,h⟩
     | (cases h;done)
     | (simp only[Option.bind_eq_some_iff] at h;obtain ⟨_,_,h⟩:=h;exact ⟨_,h⟩)
     | (obtain ⟨_,h⟩:=slen_K h;exact ⟨_,h⟩)
     | split at h
  ·
   rename_i f hf
   rw[hf] at hp
   dsimp only at hp
   split at h
   ·
    rename_i g caps hx
    rw[hx] at hp
    dsimp only at hp
    unfold evCall at h
    rw[hp] at h
    simp only[cond_true,Option.bind_eq_some_iff] at h
    obtain ⟨args,_,h⟩:=h
    obtain ⟨res,outs,h,_⟩:=hC _ _ _ _ _ h
    cases e:flatV res with
    | true=>rw[e] at h;exact ⟨_,h⟩
    | false=>rw[e] at h;cases h
   ·
    cases h
  ·
   cases h
end
theorem set_same {σ:List V} {d:Nat} {v:V} (h:gt σ d=v) (hv:v≠.ud):σ.set d v=σ:=by
 apply List.ext_getElem?
 intro i
 by_cases hi:d=i
 ·
  subst hi
  by_cases hd:d<σ.length
  ·
   rw[List.getElem?_set_self hd]
   unfold gt at h
   rw[List.getD_eq_getElem?_getD,List.getElem?_eq_getElem hd] at h
   rw[List.getElem?_eq_getElem hd,←h];rfl
  ·
   rw[gt_len (by omega)] at h
   exact absurd h.symm hv
 ·
  rw[List.getElem?_set_ne hi]
section
variable {R:Type} {P:Program} {E:Env} {r:R} {K:List V→Option R} {S:Nat→Prop} {who:Nat→Option Nat} {w:World} {a:Act} {σ:List V} {ops:Array Oper}
theorem yielded_bool (h:Rel E S who w a.tmps σ) {j d:Nat} {b:Bool} (hd:(ops[j]?).bind (·.dst)=some d) (hg:gt σ d=.bool b):yielded ops a.tmps j=some b:=by
 obtain ⟨O,hO,_⟩:=h.rep d
 rw[hg] at hO
 have hv:a.tmps.getD d undef=.bool b:=by generalize a.tmps.getD d undef=u at hO ⊢;cases hO;rfl
 unfold yielded
 rw[hd]
 rw[Array.getD_eq_getD_getElem?] at hv
 cases e:a.tmps[d]? with
 | none=>rw[e] at hv;cases hv
 | some x=>rw[e] at hv;simp only[Option.getD_some] at hv;subst hv;simp[e]
theorem yielded_unit (h:Rel E S who w a.tmps σ) {j d:Nat} (hd:(ops[j]?).bind (·.dst)=some d) (hg:gt σ d=.tup []):yielded ops a.tmps j=none:=by
 obtain ⟨O,hO,_⟩:=h.rep d
 rw[hg] at hO
 have hv:∃ cs,a.tmps.getD d undef=.tuple cs:=by generalize a.tmps.getD d undef=u at hO ⊢;cases hO;exact ⟨_,rfl⟩
 obtain ⟨cs,hv⟩:=hv
 unfold yielded
 rw[hd]
 rw[Array.getD_eq_getD_getElem?] at hv
 cases e:a.tmps[d]? with
 | none=>simp[e]
 | some x=>rw[e] at hv;simp only[Option.getD_some] at hv;subst hv;simp[e]
theorem post_unit (h:Rel E S who w a.tmps σ) {dst:Option Nat} (hK:K (put dst (.tup []) σ)=some r):Post E r K S who w a (a.put dst undef) w:=by
 obtain ⟨u,w2,σ2,S2,who2,e1,e2,e3,e4⟩:OutV E r K S who w a dst (.ok undef w):=outv_val (v:=.tup []) rfl h (.tup .nil) trivial hK
 cases e1
 exact ⟨σ2,S2,who2,e2,e3,e4,put_defers _ _ _⟩
theorem gstep_fixed {o:Oper} (hs:gstep E ops o σ K=some r):flag E.fixed o.dst=false:=by
 unfold gstep at hs
 cases e:flag E.fixed o.dst with
 | false=>rfl
 | true=>rw[e] at hs;cases hs
theorem gstep_cases {o:Oper} (h:Rel E S who w a.tmps σ) (hs:gstep E ops o σ K=some r) :
  (Region.wanted o (yielded ops a.tmps)=true∧evOp E o σ K=some r)∨(Region.wanted o (yielded ops a.tmps)=false∧K (put o.dst (.tup []) σ)=some r):=by
 unfold gstep at hs
 rw[gstep_fixed hs] at hs
 simp only[cond_false,evOpF_eq] at hs
 split at hs
 ·
  rename_i hg
  exact .inl ⟨by simp[Region.wanted,hg],hs⟩
 ·
  rename_i j want hg
  split at hs
  ·
   cases hs
  ·
   rename_i d hd
   split at hs
   ·
    rename_i b hb
    have hy:=yielded_bool h hd hb
    have hw:Region.wanted o (yielded ops a.tmps)=(b==want):=by
     simp only[Region.wanted,hg,hy]
     cases b <;> cases want <;> rfl
    cases b with
    | true =>
     rw[if_pos rfl,set_same hb (by simp)] at hs
     cases want with
     | true=>exact .inl ⟨by rw[hw];rfl,hs⟩
     | false=>exact .inr ⟨by rw[hw];rfl,hs⟩
    | false =>
     rw[if_neg (by simp),set_same hb (by simp)] at hs
     cases want with
     | true=>exact .inr ⟨by rw[hw];rfl,hs⟩
     | false=>exact .inl ⟨by rw[hw];rfl,hs⟩
   ·
    rename_i hb
    refine .inr ⟨?_,hs⟩
    simp only[Region.wanted,hg,yielded_unit h hd hb]
    rfl
   ·
    cases hs
structure Fix (E:Env) (a a':Act):Prop where
 size:a'.tmps.size=a.tmps.size
 at_:∀ i,E.fixed.contains i=true→a'.tmps.getD i undef=a.tmps.getD i undef
theorem Fix.refl (E:Env) (a:Act):Fix E a a:=⟨rfl,fun _ _=>rfl⟩
theorem Fix.trans {E:Env} {a a1 a2:Act} (h:Fix E a a1) (h':Fix E a1 a2):Fix E a a2:=⟨h'.size.trans h.size,fun i hi=>(h'.at_ i hi).trans (h.at_ i hi)⟩
theorem Fix.put {E:Env} {a a':Act} {dst:Option Nat} {v:Value} (hf:flag E.fixed dst=false) (ht:a'.tmps=(a.put dst v).tmps):Fix E a a':=by
 refine ⟨by rw[ht];cases dst <;> simp[Act.put],fun i hi=>?_⟩
 rw[ht]
 cases dst with
 | none=>rfl
 | some d =>
  show (a.tmps.setIfInBounds d v).getD i undef=_
  rw[getD_setIfInBounds,if_neg]
  rintro ⟨rfl,_⟩
  simp only[flag] at hf
  rw[hf] at hi;cases hi
def Led (E:Env) (S:Nat→Prop) (who:Nat→Option Nat) (w:World) (a:Act) (σ':List V) (a':Act) (w':World):Prop :=
 ∃ S' who',Rel E S' who' w' a'.tmps σ'∧Step S who w S' who' w'∧a'.defers=a.defers∧Fix E a a'
theorem Led.post {E:Env} {S0:Nat→Prop} {who0:Nat→Option Nat} {w0:World} {a0:Act} {R:Type} {r:R} {K:List V→Option R} {S:Nat→Prop} {who:Nat→Option Nat} {w:World} {a:Act} {a':Act} {w':World}
  (hst:Step S0 who0 w0 S who w) (hd:a.defers=a0.defers) (hfx:Fix E a0 a) (hp:Post E r K S who w a a' w') (hf:Fix E a a'):∃ σ',K σ'=some r∧Led E S0 who0 w0 a0 σ' a' w':=by
 obtain ⟨σ',S',who',g1,g2,g3,g4⟩:=hp
 exact ⟨σ',g1,S',who',g2,hst.trans g3,g4.trans hd,hfx.trans hf⟩
end
end Go.Zv
namespace Go.Zv
open Go
section
variable {R:Type} {P:Program} {E:Env} {r:R} {K:List V→Option R} {S:Nat→Prop} {who:Nat→Option Nat} {w:World} {a:Act} {σ σ':List V} {ops:Array Oper} {Q:Exit→Act→World→Prop}
theorem Oper.wp_tmps {o:Oper} {next:Act→World→Prop} (h:o.wp P a w next Q):o.wp P a w (fun a' w'=>next a' w'∧∃ v,a'.tmps=(a.put o.dst v).tmps) Q:=by
 unfold Oper.wp at *
 generalize (execOp a.eval o).run P w=res at *
 cases res with
 | ok n w' =>
  cases n <;> simp only[Oper.upon] at h ⊢
  case value v=>exact ⟨h,_,rfl⟩
  case skip=>exact ⟨h,_,rfl⟩
  case defer d=>exact ⟨h,undef,by cases o.dst <;> rfl⟩
  case enter f args =>
   refine Calls.mono h fun e w'' he=>?_
   cases e with
   | returned v=>exact ⟨he,_,rfl⟩
   | panicked c=>exact he
   | outgrown=>exact he
  case row row args=>exact Rows.mono h fun v w'' he=>⟨he,_,rfl⟩
 | halt x w'=>cases x <;> simp only[Oper.upon] at h ⊢ <;> exact h
def okStep (s:PStep) (o:Oper):Bool :=
 match o.dst with
 | some d=>cond s.quiet (s.wr==[d]) (s.wr.contains d)
 | none=>!s.quiet
theorem put_tmps_some (a:Act) (d:Nat) (v:Value):(a.put (some d) v).tmps=a.tmps.setIfInBounds d v:=rfl
theorem merge_step {s:PStep} {o:Oper} {σ2:List V} (hfx:flag E.fixed o.dst=false) (hok:okStep s o=true) (h:Rel E S who w a.tmps σ) (hcd:cond s.quiet true (s.rd.all fun t=>plainV (gt σ t))=true)
  (hput:s.quiet=true→∃ v,σ2=put o.dst v (keepOnly (s.rd++s.wr) σ)) {a':Act} {w':World} (hpost:Post E σ2 some S (whoF (s.rd++s.wr) who) w a a' w') (ht:∃ v,a'.tmps=(a.put o.dst v).tmps) (hg:s.quiet=true→Grows w w') :
  Led E S who w a (over (cond s.quiet (s.rd++s.wr) s.wr) s.wr σ σ2) a' w':=by
 obtain ⟨σ3,S2,who2,e1,h2,h3,h4⟩:=hpost
 cases e1
 obtain ⟨u,ht⟩:=ht
 have hfix:Fix E a a':=Fix.put hfx ht
 unfold okStep at hok
 cases hq:s.quiet with
 | true =>
  rw[hq] at hok
  cases hd:o.dst with
  | none=>rw[hd] at hok;cases hok
  | some d =>
   rw[hd] at hok
   simp only[cond_true,beq_iff_eq] at hok
   obtain ⟨v,hv⟩:=hput hq
   rw[hd] at hv
   simp only[put] at hv
   subst hv
   rw[hd,put_tmps_some] at ht
   rw[ht] at h2
   rw[hok] at h2 h3 ⊢
   obtain ⟨g1,g2⟩:=Rel.mergeQ (A:=s.rd++[d]) (by simp) h h2 h3 (hg hq)
   exact ⟨_,_,by rw[ht];exact g1,g2,h4,hfix⟩
 | false =>
  rw[hq] at hok hcd
  simp only[cond_false,List.all_eq_true] at hcd
  have hsz:a'.tmps.size=a.tmps.size:=by
   rw[ht];cases o.dst <;> simp[Act.put]
  have htm:∀ t,s.wr.contains t=false→a'.tmps.getD t undef=a.tmps.getD t undef:=by
   intro t hw
   rw[ht]
   cases hd:o.dst with
   | none=>rfl
   | some d =>
    rw[hd] at hok
    simp only[cond_false] at hok
    rw[put_tmps_some,getD_setIfInBounds,if_neg]
    rintro ⟨rfl,_⟩
    rw[hok] at hw;cases hw
  obtain ⟨g1,g2⟩:=Rel.merge (A:=s.rd++s.wr) (W:=s.wr) (fun t ht=>by simp at ht ⊢;exact .inr ht) h h2 h3 hsz htm (fun t hA hW=>hcd t (by
   simp only[List.contains_iff_mem,List.mem_append] at hA
   rcases hA with h | h
   ·
    exact h
   ·
    rw[List.contains_iff_mem.2 h] at hW;cases hW))
  exact ⟨_,_,g1,g2,h4,hfix⟩
theorem step_sound {s:PStep} {o:Oper} {K:Act→World→Prop} (hE:EnvOK P E) (hC:CallOK P E) (ho:ops[s.i]?=some o) (hok:okStep s o=true) (h:Rel E S who w a.tmps σ) (hs:stepF E ops s σ=some σ')
  (hK:∀ a' w',Led E S who w a σ' a' w'→K a' w'):wpOp P ops Q s.i K a w:=by
 unfold stepF at hs
 rw[ho] at hs
 dsimp only at hs
 cases hcd:cond s.quiet (putB E o (keepOnly (s.rd++s.wr) σ)) (s.rd.all fun t=>plainV (gt σ t)) with
 | false=>rw[hcd] at hs;cases hs
 | true =>
 rw[hcd] at hs
 simp only[cond_true,Option.bind_eq_some_iff,forceL_eq,Option.some.injEq] at hs
 obtain ⟨σ2,hs,hσ'⟩:=hs
 subst hσ'
 have hF:=h.forget (s.rd++s.wr)
 have hfx0:=gstep_fixed hs
 have hcd':cond s.quiet true (s.rd.all fun t=>plainV (gt σ t))=true:=by
  cases hq:s.quiet <;> rw[hq] at hcd
  ·
   exact hcd
  ·
   rfl
 have hpB:s.quiet=true→putB E o (keepOnly (s.rd++s.wr) σ)=true:=fun hq=>by rw[hq] at hcd;exact hcd
 unfold wpOp
 simp only[ho]
 rcases gstep_cases hF hs with ⟨h1,h2⟩ | ⟨h1,h2⟩
 ·
  rw[if_pos h1]
  refine .inl ?_
  have hput:s.quiet=true→∃ v,σ2=put o.dst v (keepOnly (s.rd++s.wr) σ):=fun hq=>by
   obtain ⟨v,hv⟩:=evOp_put hC (hpB hq) h2
   exact ⟨v,by simpa using hv.symm⟩
  cases hq:s.quiet with
  | false =>
   refine Oper.wp_mono (fun a' w' hp=>hK a' w' ?_) (Oper.wp_tmps (oper_sound hE hC hF h2))
   exact merge_step hfx0 hok h hcd' hput hp.1 hp.2 (fun hq'=>by rw[hq] at hq';cases hq')
  | true =>
   have hp:=hpB hq
   by_cases hcalm:calmB o=true
   ·
    obtain ⟨v,e1,e2⟩:=oper_still hE hC hF h2 hcalm
    unfold Oper.wp
    rw[e1]
    exact hK _ _ (merge_step hfx0 hok h hcd' hput e2 ⟨v,rfl⟩ fun _=>Grows.refl _)
   ·
    -- a conversion, or a call
    have h2o:=h2
    unfold evOp at h2
    cases hfx:flag E.fixed o.dst with
    | true=>rw[hfx] at h2;cases h2
    | false =>
    rw[hfx] at h2
    simp only[cond_false] at h2
    unfold putB at hp
    unfold calmB at hcalm
    cases hop:o.op <;> rw[hop] at hp hcalm h2 <;> first | (cases hp;done) | (exact absurd rfl hcalm) | skip
    case convert s' d' x =>
     dsimp only at h2 hp
     split at hp
     ·
      rename_i hk
      obtain ⟨u,hu⟩:=convert_str_same hE hF hk h2
      have h1:=oper_sound (Q:=fun _ _ _=>False) hE hC hF h2o
      have hex:(execOp a.eval o).run P w=.ok (.value u) w:=by simp only[execOp,hop,Sem.run_bind,hu,Result.andThen_ok,Sem.run_pure]
      unfold Oper.wp at h1 ⊢
      rw[hex] at h1 ⊢
      exact hK _ _ (merge_step hfx0 hok h hcd' hput h1 ⟨u,rfl⟩ fun _=>Grows.refl _)
     ·
      cases hp
    case call c =>
     dsimp only at h2 hp hcalm
     split at h2
     ·
      rename_i b hb
      rw[hb] at hp hcalm
      cases b <;> first | (cases hp;done) | exact absurd rfl hcalm
     ·
      rename_i f hf
      rw[hf] at hp
      dsimp only at hp
      split at h2
      ·
       rename_i g caps hx
       rw[hx] at hp
       dsimp only at hp
       unfold evCall at h2
       rw[hp] at h2
       refine Oper.wp_mono (fun a' w' hp=>hK a' w' ?_) (Oper.wp_tmps (call_flat hC hF hop hf hx h2))
       exact merge_step hfx0 hok h hcd' hput hp.1.1 hp.2 fun _=>hp.1.2
      ·
       cases h2
     ·
      cases h2
 ·
  rw[if_neg (by simp[h1])]
  refine hK _ _ (merge_step hfx0 hok h hcd' (fun _=>⟨_,by simpa using h2.symm⟩) (post_unit hF h2) ⟨_,rfl⟩ fun _=>Grows.refl _)
end
end Go.Zv
namespace Go.Zv
open Go
def disjB (xs ys:List Nat):Bool:=xs.all fun x=>!ys.contains x
theorem disj_spec {xs ys:List Nat} (h:disjB xs ys=true) {x:Nat} (hx:xs.contains x=true):ys.contains x=false:=by
 simp only[disjB,List.all_eq_true,Bool.not_eq_true'] at h
 exact h x (List.contains_iff_mem.1 hx)
theorem disj_spec' {xs ys:List Nat} (h:disjB xs ys=true) {x:Nat} (hy:ys.contains x=true):xs.contains x=false:=by
 cases e:xs.contains x with
 | false=>rfl
 | true=>rw[disj_spec h e] at hy;cases hy
theorem hits_root {W A:List Nat} {x:V} (hd:disjB W A=true) (h:hits W x=true):rootIn A x=false:=by
 have one:∀ {y:V},hits1 W y=true→rootIn1 A y=false:=by
  intro y h
  cases y <;> simp only[hits1,rootIn1,Bool.false_eq_true] at h ⊢ <;> exact disj_spec hd h
 cases x
 case fn f caps =>
  simp only[hits,List.any_eq_true] at h
  obtain ⟨c,hc,h⟩:=h
  simp only[rootIn,List.all_eq_false]
  exact ⟨c,hc,by simp[one h]⟩
 all_goals (simp only[hits,rootIn] at h ⊢;exact one h)
theorem root_hits {W A:List Nat} {x:V} (hd:disjB W A=true) (h:rootIn A x=true):hits W x=false:=by
 cases e:hits W x with
 | false=>rfl
 | true=>rw[hits_root hd e] at h;cases h
theorem rootIn_sub {M A:List Nat} {x:V} (hs:∀ t,M.contains t=true→A.contains t=true) (h:rootIn M x=true):rootIn A x=true:=by
 have one:∀ {y:V},rootIn1 M y=true→rootIn1 A y=true:=by
  intro y h
  cases y <;> simp only[rootIn1] at h ⊢ <;> exact hs _ h
 cases x
 case fn f caps =>
  simp only[rootIn,List.all_eq_true] at h ⊢
  exact fun c hc=>one (h c hc)
 all_goals (simp only[rootIn] at h ⊢;exact one h)
theorem overGo_gt' {M W:List Nat}:∀ (i:Nat) (σ σ':List V) (j:Nat),j<σ.length →
  gt (overGo M W i σ σ') j=cond (W.contains (i+j)) (mask M (gt σ' j)) (cond (hits W (gt σ j)) .ud (gt σ j))
 | i,[],σ',j,h=>by simp at h
 | i,x::xs,[],0,h=>by simp[overGo,gt]
 | i,x::xs,y::ys,0,h=>by simp[overGo,gt]
 | i,x::xs,[],j+1,h=>by
  have:=overGo_gt' (M:=M) (W:=W) (i+1) xs [] j (by simpa using h)
  simp only[gt,overGo,List.tail_nil,List.getD_cons_succ] at this ⊢
  rw[this,show i+1+j=i+(j+1) by omega];rfl
 | i,x::xs,y::ys,j+1,h=>by
  have:=overGo_gt' (M:=M) (W:=W) (i+1) xs ys j (by simpa using h)
  simp only[gt,overGo,List.tail_cons,List.getD_cons_succ] at this ⊢
  rw[this,show i+1+j=i+(j+1) by omega]
theorem gt_over' {M W:List Nat} {σ σ':List V} {j:Nat} (h:j<σ.length) :
  gt (over M W σ σ') j=cond (W.contains j) (mask M (gt σ' j)) (cond (hits W (gt σ j)) .ud (gt σ j)):=by
 have:=overGo_gt' (M:=M) (W:=W) 0 σ σ' j h
 rwa [Nat.zero_add] at this
theorem ext_gt {σ σ':List V} (hl:σ.length=σ'.length) (h:∀ j,j<σ.length→gt σ j=gt σ' j):σ=σ':=by
 apply List.ext_getElem hl
 intro j h1 h2
 have:=h j h1
 unfold gt at this
 rw[List.getD_eq_getElem?_getD,List.getD_eq_getElem?_getD,List.getElem?_eq_getElem h1,List.getElem?_eq_getElem h2] at this
 simpa using this
theorem hits_undef {W:List Nat}:hits W .ud=false:=rfl
theorem view_over {M W A:List Nat} {σ σ':List V} (hd:disjB W A=true):keepOnly A (over M W σ σ')=keepOnly A σ:=by
 refine ext_gt (by rw[keepOnly_length,keepOnly_length,over_length]) fun j hj=>?_
 rw[keepOnly_length,over_length] at hj
 rw[gt_keep,gt_keep]
 cases hA:A.contains j with
 | false=>rfl
 | true =>
  simp only[cond_true]
  rw[gt_over' hj,disj_spec' hd hA]
  simp only[cond_false]
  cases hh:hits W (gt σ j) with
  | false=>rfl
  | true=>simp only[cond_true,mask,hits_root hd hh];rfl
section
variable {E:Env} {ops:Array Oper}
theorem stepF_spec {s:PStep} {σ σ':List V} (h:stepF E ops s σ=some σ'):∃ o σ2,ops[s.i]?=some o ∧
  (cond s.quiet (putB E o (keepOnly (s.rd++s.wr) σ)) (s.rd.all fun t=>plainV (gt σ t)))=true∧gstep E ops o (keepOnly (s.rd++s.wr) σ) some=some σ2 ∧
  σ'=over (cond s.quiet (s.rd++s.wr) s.wr) s.wr σ σ2:=by
 unfold stepF at h
 split at h
 ·
  cases h
 ·
  rename_i o ho
  cases hc:(cond s.quiet (putB E o (keepOnly (s.rd++s.wr) σ)) (s.rd.all fun t=>plainV (gt σ t))) with
  | false=>rw[hc] at h;cases h
  | true =>
   rw[hc] at h
   simp only[cond_true,Option.bind_eq_some_iff,forceL_eq,Option.some.injEq] at h
   obtain ⟨σ2,h1,h2⟩:=h
   exact ⟨o,σ2,ho,hc,h1,h2.symm⟩
theorem stepF_mk {s:PStep} {σ:List V} {o:Oper} {σ2:List V} (ho:ops[s.i]?=some o) (hc:(cond s.quiet (putB E o (keepOnly (s.rd++s.wr) σ)) (s.rd.all fun t=>plainV (gt σ t)))=true) (h:gstep E ops o (keepOnly (s.rd++s.wr) σ) some=some σ2) :
  stepF E ops s σ=some (over (cond s.quiet (s.rd++s.wr) s.wr) s.wr σ σ2):=by
 unfold stepF
 rw[ho]
 dsimp only
 rw[hc]
 simp only[cond_true,h,Option.bind_some,forceL_eq]
theorem plain_over {M W:List Nat} {σ σ':List V} {t:Nat} (hW:W.contains t=false):plainV (gt (over M W σ σ') t)=plainV (gt σ t):=by
 by_cases ht:t<σ.length
 ·
  rw[gt_over' ht,hW]
  simp only[cond_false]
  cases hh:hits W (gt σ t) with
  | false=>rfl
  | true=>simp only[cond_true];rw[(hits_cont hh).1];rfl
 ·
  rw[gt_len (by rw[over_length];omega),gt_len (by omega)]
theorem stepF_comm {s t:PStep} {σ σ1 σ2:List V} (h1:disjB s.wr (t.rd++t.wr)=true) (h2:disjB t.wr (s.rd++s.wr)=true) (hs:stepF E ops s σ=some σ1) (ht:stepF E ops t σ1=some σ2) :
  ∃ σ3,stepF E ops t σ=some σ3∧stepF E ops s σ3=some σ2:=by
 obtain ⟨os,σs,ho1,hc1,hg1,rfl⟩:=stepF_spec hs
 obtain ⟨ot,σt,ho2,hc2,hg2,rfl⟩:=stepF_spec ht
 rw[view_over h1] at hc2 hg2
 have hin:∀ {u:PStep} {k:Nat},u.rd.contains k=true→(u.rd++u.wr).contains k=true:=fun {u k} hk=>by
  rw[List.contains_iff_mem] at hk ⊢;simp[hk]
 have hinW:∀ {u:PStep} {k:Nat},u.wr.contains k=true→(u.rd++u.wr).contains k=true:=fun {u k} hk=>by
  rw[List.contains_iff_mem] at hk ⊢;simp[hk]
 have hM:∀ {u:PStep} {k:Nat},(cond u.quiet (u.rd++u.wr) u.wr).contains k=true→(u.rd++u.wr).contains k=true:=fun {u k} hk=>by
  cases hq:u.quiet <;> rw[hq] at hk
  ·
   exact hinW hk
  ·
   exact hk
 have pl:∀ {u v:PStep} {σ σ':List V} {M:List Nat},disjB v.wr (u.rd++u.wr)=true→(u.rd.all fun k=>plainV (gt (over M v.wr σ σ') k))=(u.rd.all fun k=>plainV (gt σ k)):=fun {u v σ σ' M} hd=>by
  rw[Bool.eq_iff_iff]
  simp only[List.all_eq_true]
  refine forall_congr' fun k=>forall_congr' fun hk=>?_
  rw[plain_over (disj_spec' hd (hin (List.contains_iff_mem.2 hk)))]
 refine ⟨_,stepF_mk ho2 (by rw[←hc2,pl h1]) hg2,?_⟩
 rw[stepF_mk ho1 (σ2:=σs) (by rw[view_over h2,←hc1,pl h2]) (by rw[view_over h2];exact hg1)]
 congr 1
 refine ext_gt (by simp only[over_length]) fun j hj=>?_
 simp only[over_length] at hj
 rw[gt_over' (σ':=σs) (σ:=over _ _ σ σt) (by rw[over_length];exact hj),gt_over' (σ':=σt) (σ:=over _ _ σ σs) (by rw[over_length];exact hj),gt_over' (σ':=σs) (σ:=σ) hj,gt_over' (σ':=σt) (σ:=σ) hj]
 have hroot:∀ {u v:PStep} {x:V},disjB v.wr (u.rd++u.wr)=true→hits v.wr (mask (cond u.quiet (u.rd++u.wr) u.wr) x)=false:=fun {u v x} hd=>by
  unfold mask
  cases e:rootIn (cond u.quiet (u.rd++u.wr) u.wr) x with
  | false=>rfl
  | true=>exact root_hits hd (rootIn_sub (fun _=>hM) e)
 cases eS:s.wr.contains j with
 | true =>
  rw[disj_spec' h2 (hinW eS)]
  simp only[cond_true,cond_false,hroot h2]
 | false =>
  cases eT:t.wr.contains j with
  | true=>simp only[cond_true,cond_false,hroot h1]
  | false =>
   simp only[cond_false]
   cases e1:hits s.wr (gt σ j) <;> cases e2:hits t.wr (gt σ j) <;> simp[e1,e2,hits_undef]
def disjS (s t:PStep):Bool:=disjB s.wr (t.rd++t.wr)&&disjB t.wr (s.rd++s.wr)
theorem runSteps_front {s:PStep} {l2:List PStep}:∀ {l1:List PStep} {σ σE:List V},(∀ t∈l1,disjS t s=true)→runSteps E ops (l1++s::l2) σ=some σE →
  ∃ σ1,stepF E ops s σ=some σ1∧runSteps E ops (l1++l2) σ1=some σE
 | [],σ,σE,_,h=>by
  simp only[List.nil_append,runSteps,Option.bind_eq_some_iff] at h
  exact h
 | t::l1,σ,σE,hd,h=>by
  simp only[List.cons_append,runSteps,Option.bind_eq_some_iff] at h
  obtain ⟨σa,h1,h2⟩:=h
  obtain ⟨σb,h3,h4⟩:=runSteps_front (fun u hu=>hd u (by simp[hu])) h2
  have hdt:=hd t (by simp)
  simp only[disjS,Bool.and_eq_true] at hdt
  obtain ⟨σ1,h5,h6⟩:=stepF_comm hdt.1 hdt.2 h1 h3
  refine ⟨σ1,h5,?_⟩
  simp only[List.cons_append,runSteps,Option.bind_eq_some_iff]
  exact ⟨σb,h6,h4⟩
end
structure Steps (ops:Array Oper) (pre:Nat→List Nat) (tail:List Nat) (listed:Array Bool) (rem:List PStep):Prop where
 size:listed.size=ops.size
 pair:rem.Pairwise fun s t=>(t.pre.contains s.i=true∨disjS s t=true)∧Region.waitsFor .any ops s.i t.i=false
 nodup:(rem.map (·.i)).Nodup
 un:∀ k,k<ops.size→(listed.getD k false=false↔k∈rem.map (·.i)∨k∈tail)
 apart:∀ s∈rem,s.i ∉ tail∧s.i<ops.size
 text:∀ s∈rem,∀ o,ops[s.i]?=some o→okStep s o=true
 waits:∀ s∈rem,∀ k,Region.waitsFor .any ops s.i k=true→k<ops.size∧k ∉ tail∧k≠s.i
 pres:∀ s∈rem,s.pre=pre s.i∧∀ i∈s.pre,Region.waitsFor .any ops s.i i=true∨∃ k,Region.waitsFor .any ops s.i k=true∧i∈pre k
 closed:∀ k,listed.getD k false=true→∀ i∈pre k,listed.getD i false=true
 tails:∀ t∈tail,∃ k,Region.waitsFor .any ops t k=true∧k<ops.size∧(k∈tail∨∀ s∈rem,s.i=k∨s.i∈pre k)
section
variable {P:Program} {E:Env} {ops:Array Oper} {S0:Nat→Prop} {who0:Nat→Option Nat} {w0:World} {a0:Act} {Q:Exit→Act→World→Prop} {pre:Nat→List Nat} {tail:List Nat}
theorem getD_ft {listed:Array Bool} {k:Nat} (hk:k<listed.size):listed.getD k true=listed.getD k false:=by
 simp[hk]
theorem explore (hE:EnvOK P E) (hC:CallOK P E) {σE:List V}
  (HT:∀ a w (listed:Array Bool),listed.size=ops.size→(∀ k,k<ops.size→(listed.getD k false=false↔k∈tail))→Led E S0 who0 w0 a0 σE a w→wpAny P .any ops Q tail.length listed a w) :
  ∀ (n:Nat) (rem:List PStep) (listed:Array Bool) (σ:List V) (a:Act) (w:World),rem.length=n→Steps ops pre tail listed rem→runSteps E ops rem σ=some σE→Led E S0 who0 w0 a0 σ a w →
   wpAny P .any ops Q (n+tail.length) listed a w:=by
 intro n
 induction n with
 | zero =>
  intro rem listed σ a w hn hS hr hL
  have:rem=[]:=List.eq_nil_of_length_eq_zero hn
  subst this
  simp only[runSteps,Option.some.injEq] at hr
  subst hr
  rw[Nat.zero_add]
  exact HT a w listed hS.size (fun k hk=>by simpa using hS.un k hk) hL
 | succ n ih =>
  intro rem listed σ a w hn hS hr hL
  rw[show n+1+tail.length=(n+tail.length)+1 by omega]
  have waitOf:∀ {j:Nat} {o:Oper},ops[j]?=some o→∀ e∈o.after,Region.binds .any e=true→Region.waitsFor .any ops j e.on=true:=by
   intro j o ho e he hb
   simp only[Region.waitsFor,ho]
   exact Array.any_eq_true'.2 ⟨e,he,by simp[hb]⟩
  have ready:∀ {j:Nat},j∈Region.ready .any ops listed→∀ k,Region.waitsFor .any ops j k=true→listed.getD k false=true:=by
   intro j hj k hk
   obtain ⟨_,o,ho,hall⟩:=mem_ready.1 hj
   obtain ⟨o',ho',e,he,hb,rfl⟩:=Region.waitsFor_spec hk
   rw[ho] at ho';cases ho'
   exact hall e he hb
  constructor
  ·
   -- something is ready
   intro h0
   exfalso
   cases rem with
   | nil=>simp at hn
   | cons s rest =>
    have hlt:=(hS.apart s (by simp)).2
    have hun:listed.getD s.i false=false:=(hS.un s.i hlt).2 (.inl (by simp))
    have:s.i∈Region.ready .any ops listed:=by
     refine mem_ready.2 ⟨by rw[getD_ft (by rw[hS.size];exact hlt)];exact hun,ops[s.i],Array.getElem?_eq_getElem hlt,fun e he hb=>?_⟩
     have hw:=waitOf (Array.getElem?_eq_getElem hlt) e he hb
     obtain ⟨g1,g2,g3⟩:=hS.waits s (by simp) _ hw
     cases hl:listed.getD e.on false with
     | true=>rfl
     | false =>
      rcases (hS.un e.on g1).1 hl with h1 | h1
      ·
       simp only[List.map_cons,List.mem_cons] at h1
       rcases h1 with h1 | h1
       ·
        exact absurd h1 g3
       ·
        obtain ⟨t,ht,h1⟩:=List.mem_map.1 h1
        have:=(List.pairwise_cons.1 hS.pair).1 t ht
        rw[h1,hw] at this
        cases this.2
      ·
       exact absurd h1 g2
    rw[h0] at this
    cases this
  ·
   intro j hj
   obtain ⟨hj0,o,ho,_⟩:=mem_ready.1 hj
   have hlt:j<ops.size:=(Array.getElem?_eq_some_iff.1 ho).1
   have hun:listed.getD j false=false:=by rw[←getD_ft (by rw[hS.size];exact hlt)];exact hj0
   have hmem:j∈rem.map (·.i):=by
    rcases (hS.un j hlt).1 hun with h1 | h1
    ·
     exact h1
    ·
     exfalso
     obtain ⟨k,hk,hks,h2⟩:=hS.tails j h1
     have hl:=ready hj k hk
     rcases h2 with h2 | h2
     ·
      rw[(hS.un k hks).2 (.inr h2)] at hl;cases hl
     ·
      cases rem with
      | nil=>simp at hn
      | cons s rest =>
       have hus:listed.getD s.i false=false:=(hS.un s.i (hS.apart s (by simp)).2).2 (.inl (by simp))
       rcases h2 s (by simp) with h3 | h3
       ·
        rw[h3,hl] at hus;cases hus
       ·
        rw[hS.closed k hl _ h3] at hus;cases hus
   obtain ⟨s,hs,rfl⟩:=List.mem_map.1 hmem
   have hpre:∀ i∈s.pre,listed.getD i false=true:=by
    intro i hi
    rcases (hS.pres s hs).2 i hi with h1 | ⟨k,h1,h2⟩
    ·
     exact ready hj _ h1
    ·
     exact hS.closed k (ready hj k h1) i h2
   obtain ⟨l1,l2,rfl⟩:=List.append_of_mem hs
   have hpair:=List.pairwise_append.1 hS.pair
   have hd:∀ t∈l1,disjS t s=true:=by
    intro t ht
    rcases (hpair.2.2 t ht s (by simp)).1 with h1 | h1
    ·
     exfalso
     have h2:=hpre t.i (List.contains_iff_mem.1 h1)
     rw[(hS.un t.i (hS.apart t (by simp[ht])).2).2 (.inl (by simp[List.mem_map];exact .inl ⟨t,ht,rfl⟩))] at h2
     cases h2
    ·
     exact h1
   obtain ⟨σ1,hst,hr'⟩:=runSteps_front hd hr
   have hsub:(l1++l2).Sublist (l1++s::l2):=List.Sublist.append_left (List.sublist_cons_self _ _) _
   have hmem':∀ t,t∈l1++l2→t∈l1++s::l2:=fun t ht=>hsub.subset ht
   have hnd:=hS.nodup
   simp only[List.map_append,List.map_cons] at hnd
   have hS':Steps ops pre tail (listed.setIfInBounds s.i true) (l1++l2):=by
    refine ⟨by simp[hS.size],hS.pair.sublist hsub,hS.nodup.sublist (hsub.map _),fun k hk=>?_,fun t ht=>hS.apart t (hmem' t ht),fun t ht=>hS.text t (hmem' t ht),fun t ht=>hS.waits t (hmem' t ht),
     fun t ht=>hS.pres t (hmem' t ht),fun k hk i hi=>?_,fun t ht=>?_⟩
    ·
     have hnot:s.i ∉ (l1++l2).map (·.i):=by
      rw[List.map_append]
      intro hc
      rw[List.nodup_append] at hnd
      obtain ⟨n1,n2,n3⟩:=hnd
      rcases List.mem_append.1 hc with hc | hc
      ·
       exact n3 _ hc _ (by simp) rfl
      ·
       exact (List.nodup_cons.1 n2).1 hc
     by_cases hk2:s.i=k
     ·
      subst hk2
      have h1:(listed.setIfInBounds s.i true).getD s.i false=true:=by simp[hS.size,hlt]
      rw[h1]
      constructor
      ·
       intro h;cases h
      ·
       rintro (h | h)
       ·
        exact absurd h hnot
       ·
        exact absurd h (hS.apart s hs).1
     ·
      rw[getD_set_ne false hk2,hS.un k hk]
      have:(k∈(l1++s::l2).map (·.i))↔(k∈(l1++l2).map (·.i)):=by
       simp only[List.map_append,List.map_cons,List.mem_append,List.mem_cons]
       constructor
       ·
        rintro (h | h | h)
        ·
         exact .inl h
        ·
         exact absurd h.symm hk2
        ·
         exact .inr h
       ·
        rintro (h | h)
        ·
         exact .inl h
        ·
         exact .inr (.inr h)
      rw[this]
    ·
     by_cases hk2:s.i=k
     ·
      subst hk2
      rw[←(hS.pres s hs).1] at hi
      exact getD_set_true (hpre i hi)
     ·
      rw[getD_set_ne false hk2] at hk
      exact getD_set_true (hS.closed k hk i hi)
    ·
     obtain ⟨k,h1,h2,h3⟩:=hS.tails t ht
     exact ⟨k,h1,h2,h3.imp id fun h u hu=>h u (hmem' u hu)⟩
   obtain ⟨S1,who1,hrel,hstep,hdef,hfix⟩:=hL
   refine step_sound hE hC ho (hS.text s hs o ho) hrel hst fun a' w' hL'=>?_
   refine ih (l1++l2) _ σ1 a' w' (by simp at hn ⊢;omega) hS' hr' ?_
   obtain ⟨S2,who2,g1,g2,g3,g4⟩:=hL'
   exact ⟨S2,who2,g1,hstep.trans g2,g3.trans hdef,hfix.trans g4⟩
def tailB (ops:Array Oper):List Nat→Array Bool→Bool
 | [],listed=>(Region.ready .any ops listed).isEmpty
 | i::rest,listed=>(match ops[i]? with
  | some o=>calmB o
  | none=>false)&&(Region.ready .any ops listed).contains i&&Region.free .any ops listed i&&tailB ops rest (listed.setIfInBounds i true)
theorem tail_still (hE:EnvOK P E) (hC:CallOK P E) (hsel:Region.noSelect ops=true) {R:Type} {r:R} {K:List V→Option R} {w:World}:∀ (l:List Nat) (listed:Array Bool) (σ:List V) (a:Act),
  tailB ops l listed=true→runIdx E ops l σ K=some r→Led E S0 who0 w0 a0 σ a w→wpAnyS P .any ops w (fun a'=>∃ σ',K σ'=some r∧Led E S0 who0 w0 a0 σ' a' w) l.length listed a
 | [],listed,σ,a,hB,hs,hL=>⟨by simpa[tailB] using hB,σ,hs,hL⟩
 | i::l,listed,σ,a,hB,hs,hL=>by
  simp only[tailB,Bool.and_eq_true] at hB
  obtain ⟨⟨⟨hc,hr⟩,hf⟩,hB⟩:=hB
  simp only[runIdx,forceAll_eq] at hs
  cases ho:ops[i]? with
  | none=>rw[ho] at hs;cases hs
  | some o =>
  rw[ho] at hs hc
  dsimp only at hs hc
  obtain ⟨S1,who1,hrel,hstep,hdef,hfix⟩:=hL
  have hfx0:=gstep_fixed hs
  have fin:∀ {v:Value},YieldsAt P ops w o v a→Post E r (fun σ'=>runIdx E ops l σ' K) S1 who1 w a (a.put o.dst v) w→wpAnyS P .any ops w (fun a'=>∃ σ',K σ'=some r∧Led E S0 who0 w0 a0 σ' a' w) (l.length+1) listed a:=by
   intro v hy hp
   obtain ⟨σ1,g1,g2⟩:=Led.post hstep hdef hfix hp (Fix.put hfx0 rfl)
   have:=tail_still hE hC hsel l (listed.setIfInBounds i true) σ1 (a.put o.dst v) hB g1 g2
   exact wpAnyS_first ho (Region.noSelect_spec hsel) l.length listed a (Region.free_spec ho hf) (by simpa using hr) hy this
  rcases gstep_cases hrel hs with ⟨h1,h2⟩ | ⟨h1,h2⟩
  ·
   obtain ⟨v,e1,e2⟩:=oper_still hE hC hrel h2 hc
   exact fin (.inl ⟨h1,.inl e1⟩) e2
  ·
   exact fin (.inr ⟨h1,rfl⟩) (post_unit (K:=fun σ'=>runIdx E ops l σ' K) hrel h2)
def firstB (ops:Array Oper):List Nat→Array Bool→Bool
 | [],_=>true
 | i::rest,listed=>(match ops[i]? with
  | some o=>(match o.op,o.guard with
   | .move _,none=>true
   | _,_=>false)
  | none=>false)&&(Region.ready .any ops listed).contains i&&Region.free .any ops listed i&&firstB ops rest (listed.setIfInBounds i true)
def listAll:List Nat→Array Bool→Array Bool
 | [],listed=>listed
 | i::rest,listed=>listAll rest (listed.setIfInBounds i true)
theorem first_sound (hE:EnvOK P E) (hC:CallOK P E) (hsel:Region.noSelect ops=true) (hQ:∀ c a w,¬Q (.panic c) a w) {R:Type} {r:R} {K:List V→Option R} {m:Nat}:∀ (l:List Nat) (listed:Array Bool) (σ:List V) (a:Act) (w:World),
  firstB ops l listed=true→runIdx E ops l σ K=some r→Led E S0 who0 w0 a0 σ a w →
  (∀ σ1 a1 w1,K σ1=some r→Led E S0 who0 w0 a0 σ1 a1 w1→wpAny P .any ops Q m (listAll l listed) a1 w1)→wpAny P .any ops Q (l.length+m) listed a w
 | [],listed,σ,a,w,hB,hs,hL,H=>by
  simp only[List.length_nil,Nat.zero_add]
  exact H σ a w hs hL
 | i::l,listed,σ,a,w,hB,hs,hL,H=>by
  simp only[firstB,Bool.and_eq_true] at hB
  obtain ⟨⟨⟨hc,hr⟩,hf⟩,hB⟩:=hB
  simp only[runIdx,forceAll_eq] at hs
  cases ho:ops[i]? with
  | none=>rw[ho] at hs;cases hs
  | some o =>
  rw[ho] at hs hc
  dsimp only at hs hc
  obtain ⟨S1,who1,hrel,hstep,hdef,hfix⟩:=hL
  have hfx0:=gstep_fixed hs
  split at hc
  ·
   rename_i x hop hg
   have h2:evOp E o σ (fun σ'=>runIdx E ops l σ' K)=some r:=by
    unfold gstep at hs
    rw[hfx0,hg] at hs
    simp only[cond_false,evOpF_eq] at hs
    exact hs
   obtain ⟨v,e1,hp⟩:=oper_still hE hC hrel h2 (by unfold calmB;rw[hop])
   obtain ⟨σ1,g1,g2⟩:=Led.post hstep hdef hfix hp (Fix.put hfx0 rfl)
   have hv:v=a.eval x:=by
    simp only[execOp,hop] at e1
    cases e1;rfl
   subst hv
   rw[show (i::l).length+m=(l.length+m)+1 by simp;omega]
   refine wpAny_take ho hsel hf hr (fun c a' w' hq=>absurd hq (hQ _ _ _)) (.inl ⟨by simp[Region.wanted,hg],fun w'=>by simp only[execOp,hop];rfl⟩) ?_
   exact first_sound hE hC hsel hQ l _ σ1 _ w hB g1 g2 H
  ·
   cases hc
end
end Go.Zv
namespace Go.Zv
open Go
def preOf:List PStep→Nat→List Nat
 | [],_=>[]
 | s::rest,k=>if s.i=k then s.pre else preOf rest k
def pairB (ops:Array Oper):List PStep→Bool
 | []=>true
 | s::rest=>rest.all (fun t=>(t.pre.contains s.i||disjS s t)&&!Region.waitsFor .any ops s.i t.i)&&pairB ops rest
def waitsB (ops:Array Oper) (tail:List Nat) (i:Nat):Bool :=
 match ops[i]? with
 | some o=>o.after.all fun e=>!Region.binds .any e||(decide (e.on<ops.size)&&!tail.contains e.on&&!(e.on==i))
 | none=>true
def stepB (ops:Array Oper) (pl:Plan) (s:PStep):Bool :=
 !pl.tail.contains s.i&&decide (s.i<ops.size)&&(match ops[s.i]? with
  | some o=>okStep s o
  | none=>false)&&waitsB ops pl.tail s.i&&(preOf pl.steps s.i==s.pre) &&
 s.pre.all fun i=>Region.waitsFor .any ops s.i i||(List.range ops.size).any fun k=>Region.waitsFor .any ops s.i k&&(preOf pl.steps k).contains i
def tailWaits (ops:Array Oper) (pl:Plan) (t:Nat):Bool :=
 (List.range ops.size).any fun k=>Region.waitsFor .any ops t k&&(pl.tail.contains k||pl.steps.all fun s=>s.i==k||(preOf pl.steps k).contains s.i)
def listedOf (n:Nat) (tail:List Nat):Array Bool:=(Array.range n).map fun k=>!tail.contains k
def planB (ops:Array Oper) (pl:Plan):Bool :=
 let l0:=Array.replicate ops.size false
 let l1:=listAll pl.first l0
 Region.noSelect ops&&firstB ops pl.first l0&&pairB ops pl.steps&&distinct (pl.steps.map (·.i)) &&
 (List.range ops.size).all (fun k=>(!l1.getD k false)==((pl.steps.map (·.i)).contains k||pl.tail.contains k)) &&
 pl.steps.all (stepB ops pl)&&(List.range ops.size).all (fun k=>!l1.getD k false||(preOf pl.steps k).isEmpty) &&
 pl.tail.all (tailWaits ops pl)&&tailB ops pl.tail (listedOf ops.size pl.tail)&&decide (pl.first.length+pl.steps.length+pl.tail.length=ops.size)
theorem listAll_size:∀ {l:List Nat} {listed:Array Bool},(listAll l listed).size=listed.size
 | [],_=>rfl
 | i::l,listed=>by simp[listAll,listAll_size (l:=l)]
theorem distinct_nodup:∀ {l:List Nat},distinct l=true→l.Nodup
 | [],_=>List.nodup_nil
 | x::l,h=>List.nodup_cons.2 ⟨(distinct_cons h).1,distinct_nodup (distinct_cons h).2⟩
theorem pairB_spec {ops:Array Oper}:∀ {l:List PStep},pairB ops l=true→l.Pairwise fun s t=>(t.pre.contains s.i=true∨disjS s t=true)∧Region.waitsFor .any ops s.i t.i=false
 | [],_=>.nil
 | s::l,h=>by
  simp only[pairB,Bool.and_eq_true,List.all_eq_true,Bool.or_eq_true,Bool.not_eq_true'] at h
  exact .cons (fun t ht=>h.1 t ht) (pairB_spec h.2)
theorem waitsB_spec {ops:Array Oper} {tail:List Nat} {i:Nat} (h:waitsB ops tail i=true) {k:Nat} (hk:Region.waitsFor .any ops i k=true):k<ops.size∧k ∉ tail∧k≠i:=by
 obtain ⟨o,ho,e,he,hb,rfl⟩:=Region.waitsFor_spec hk
 unfold waitsB at h
 rw[ho] at h
 have:=Array.all_eq_true_iff_forall_mem.1 h e he
 simp only[hb,Bool.not_true,Bool.false_or,Bool.and_eq_true,decide_eq_true_eq,Bool.not_eq_true',beq_eq_false_iff_ne,ne_eq] at this
 have h2:=this.1.2
 exact ⟨this.1.1,(fun hc=>by rw[List.contains_iff_mem.2 hc] at h2;cases h2),this.2⟩
section
variable {P:Program} {E:Env} {ops:Array Oper} {S0:Nat→Prop} {who0:Nat→Option Nat} {w0:World} {a0:Act} {Q:Exit→Act→World→Prop}
theorem plan_sound (hE:EnvOK P E) (hC:CallOK P E) {pl:Plan} (hB:planB ops pl=true) (hQ:∀ c a w,¬Q (.panic c) a w) {R:Type} {r:R} {K:List V→Option R} {σ:List V} {a:Act} {w:World}
  (hs:(runIdx E ops pl.first σ fun σ1=>(runSteps E ops pl.steps σ1).bind fun σ2=>runIdx E ops pl.tail σ2 K)=some r) (hL:Led E S0 who0 w0 a0 σ a w)
  (HK:∀ σ' a' w',K σ'=some r→Led E S0 who0 w0 a0 σ' a' w'→Q .normal a' w'):wpAny P .any ops Q ops.size (Array.replicate ops.size false) a w:=by
 simp only[planB,Bool.and_eq_true,decide_eq_true_eq] at hB
 obtain ⟨⟨⟨⟨⟨⟨⟨⟨⟨hsel,hfirst⟩,hpair⟩,hdis⟩,hun⟩,hsteps⟩,hcl⟩,htw⟩,htail⟩,hlen⟩:=hB
 rw[show (Array.replicate ops.size false)=Array.replicate ops.size false from rfl]
 have hfuel:wpAny P .any ops Q (pl.first.length+(pl.steps.length+pl.tail.length)) (Array.replicate ops.size false) a w:=by
  refine first_sound hE hC hsel hQ pl.first _ σ a w hfirst hs hL fun σ1 a1 w1 hs1 hL1=>?_
  simp only[Option.bind_eq_some_iff] at hs1
  obtain ⟨σ2,hst,hs2⟩:=hs1
  have hsz:(listAll pl.first (Array.replicate ops.size false)).size=ops.size:=by rw[listAll_size];simp
  refine explore (pre:=preOf pl.steps) hE hC (fun a' w' listed hls hlk hL2=>?_) pl.steps.length pl.steps _ σ1 a1 w1 rfl ?_ hst hL1
  ·
   -- the tail
   have:listed=listedOf ops.size pl.tail:=by
    apply Array.ext (by simp[listedOf,hls])
    intro k h1 h2
    have hk:k<ops.size:=by rw[←hls];exact h1
    have h3:=hlk k hk
    simp only[Array.getD_eq_getD_getElem?,Array.getElem?_eq_getElem h1,Option.getD_some] at h3
    simp only[listedOf,Array.getElem_map,Array.getElem_range]
    cases e:listed[k] with
    | false=>rw[List.contains_iff_mem.2 (h3.1 e)];rfl
    | true =>
     cases e2:pl.tail.contains k with
     | false=>rfl
     | true=>rw[h3.2 (List.contains_iff_mem.1 e2)] at e;cases e
   subst this
   have:=tail_still hE hC hsel pl.tail _ σ2 a' htail hs2 hL2
   exact wpAny_of_still (fun a'' ⟨σ',g1,g2⟩=>HK σ' a'' w' g1 g2) _ _ _ this
  ·
   simp only[List.all_eq_true] at hun hsteps hcl htw
   have hst:∀ s∈pl.steps,(s.i ∉ pl.tail∧s.i<ops.size)∧(∀ o,ops[s.i]?=some o→okStep s o=true)∧waitsB ops pl.tail s.i=true∧preOf pl.steps s.i=s.pre ∧
     ∀ i∈s.pre,Region.waitsFor .any ops s.i i=true∨∃ k,Region.waitsFor .any ops s.i k=true∧i∈preOf pl.steps k:=by
    intro s hs
    have h:=hsteps s hs
    simp only[stepB,Bool.and_eq_true,decide_eq_true_eq,Bool.not_eq_true',beq_iff_eq,List.all_eq_true,Bool.or_eq_true,List.any_eq_true] at h
    obtain ⟨⟨⟨⟨⟨h1,h2⟩,h3⟩,h4⟩,h5⟩,h6⟩:=h
    refine ⟨⟨(fun hc=>by rw[List.contains_iff_mem.2 hc] at h1;cases h1),h2⟩,fun o ho=>by rw[ho] at h3;exact h3,h4,h5,fun i hi=>(h6 i hi).imp id fun ⟨k,_,g1,g2⟩=>⟨k,g1,List.contains_iff_mem.1 g2⟩⟩
   refine ⟨hsz,pairB_spec hpair,distinct_nodup hdis,fun k hk=>?_,fun s hs=>(hst s hs).1,fun s hs=>(hst s hs).2.1,fun s hs k hk=>waitsB_spec (hst s hs).2.2.1 hk,
    fun s hs=>⟨(hst s hs).2.2.2.1.symm,(hst s hs).2.2.2.2⟩,fun k hk i hi=>?_,fun t ht=>?_⟩
   ·
    have h:=hun k (List.mem_range.2 hk)
    simp only[beq_iff_eq] at h
    rw[←List.contains_iff_mem,←List.contains_iff_mem]
    cases e:(listAll pl.first (Array.replicate ops.size false)).getD k false <;> rw[e] at h
    ·
     simp only[Bool.not_false] at h
     have:=h.symm
     rw[Bool.or_eq_true] at this
     exact ⟨fun _=>this,fun _=>rfl⟩
    ·
     simp only[Bool.not_true] at h
     have:=h.symm
     rw[Bool.or_eq_false_iff] at this
     refine ⟨(fun h=>by cases h),fun h=>?_⟩
     rw[this.1,this.2] at h
     rcases h with h | h <;> cases h
   ·
    by_cases hks:k<ops.size
    ·
     have h:=hcl k (List.mem_range.2 hks)
     rw[hk] at h
     simp only[Bool.not_true,Bool.false_or,List.isEmpty_iff] at h
     rw[h] at hi;cases hi
    ·
     rw[Array.getD_eq_getD_getElem?,Array.getElem?_eq_none (by rw[hsz];omega)] at hk
     cases hk
   ·
    have h:=htw t ht
    simp only[tailWaits,List.any_eq_true,Bool.and_eq_true,Bool.or_eq_true,List.all_eq_true,beq_iff_eq] at h
    obtain ⟨k,hk,h1,h2⟩:=h
    exact ⟨k,h1,List.mem_range.1 hk,h2.imp List.contains_iff_mem.1 fun h s hs=>(h s hs).imp id List.contains_iff_mem.1⟩
 rwa [show pl.first.length+(pl.steps.length+pl.tail.length)=ops.size by omega] at hfuel
end
end Go.Zv
namespace Go.Zv
open Go
def firstNot:List Oper→Nat
 | []=>0
 | o::rest=>cond (calmB o) (firstNot rest+1) 0
def stillB (ops:Array Oper):Bool :=
 cond (Nat.ble ops.size (firstNot ops.toList)) (Region.lexB .any ops) (Region.lexTailB .any ops (firstNot ops.toList))
def codeB (E:Env):Code→Bool
 | .region id ops draws=>cond draws
   (match E.plan id with
    | some pl=>planB ops pl
    | none=>stillB ops)
   (match E.plan id with
    | some _=>false
    | none=>true)
 | .seq x y=>codeB E x&&codeB E y
 | .cond _ x y=>codeB E x&&codeB E y
 | .block _ x=>codeB E x
 | .loop x=>codeB E x
 | .scope x=>codeB E x
 | _=>true
theorem firstNot_calm:∀ {l:List Oper},∀ o∈l.take (firstNot l),calmB o=true
 | [],o,h=>by simp at h
 | x::l,o,h=>by
  unfold firstNot at h
  cases e:calmB x with
  | false=>rw[e] at h;simp at h
  | true =>
   rw[e] at h
   simp only[cond_true,List.take_succ_cons,List.mem_cons] at h
   rcases h with rfl | h
   ·
    exact e
   ·
    exact firstNot_calm o h
section
variable {R:Type} {P:Program} {E:Env} {r:R} {S0:Nat→Prop} {who0:Nat→Option Nat} {w0:World} {a0:Act} {K:XE→List V→Option R}
def Ends (E:Env) (r:R) (K:XE→List V→Option R) (S0:Nat→Prop) (who0:Nat→Option Nat) (w0:World) (a0:Act):Exit→Act→World→Prop
 | .normal,a,w=>∃ σ,K .normal σ=some r∧Led E S0 who0 w0 a0 σ a w
 | .exit i,a,w=>∃ σ,K (.exit i) σ=some r∧Led E S0 who0 w0 a0 σ a w
 | .ret,a,w=>∃ σ,K .ret σ=some r∧Led E S0 who0 w0 a0 σ a w
 | _,_,_=>False
theorem Led.drew {σ:List V} {a:Act} {w:World} (h:Led E S0 who0 w0 a0 σ a w):Led E S0 who0 w0 a0 σ a { w with drawn:=w.drawn+1 }:=by
 obtain ⟨S,who,h1,h2,h3,h4⟩:=h
 have hg:Grows w { w with drawn:=w.drawn+1 }:=⟨Nat.le_refl _,fun _ _=>rfl,⟨rfl,rfl,rfl⟩⟩
 exact ⟨S,who,h1.grow hg,h2.trans ⟨Nat.le_refl _,fun _ _ _=>rfl,fun _ h=>h,fun _ h=>.inl h,fun _ h=>.inl h,⟨rfl,rfl,rfl⟩⟩,h3,h4⟩
theorem Led.keep {σ:List V} {a:Act} {w:World} (ks:List Nat) (h:Led E S0 who0 w0 a0 σ a w):Led E S0 who0 w0 a0 (keepOnly ks σ) a w:=by
 obtain ⟨S,who,h1,h2,h3,h4⟩:=h
 exact ⟨S,_,h1.forget ks,h2.trans (Step.forget ks),h3,h4⟩
theorem ops_list (hE:EnvOK P E) (hC:CallOK P E) {ops:Array Oper} {Q:Exit→Act→World→Prop} {G:List V→Option R} (HQ:∀ σ a w,G σ=some r→Led E S0 who0 w0 a0 σ a w→Q .normal a w) :
  ∀ (l:List Oper) (σ:List V) (a:Act) (w:World),runOps E ops l σ G=some r→Led E S0 who0 w0 a0 σ a w→wpList P ops Q l a w
 | [],σ,a,w,hs,hL=>HQ σ a w hs hL
 | o::l,σ,a,w,hs,hL=>by
  simp only[runOps,forceAll_eq] at hs
  obtain ⟨S,who,h1,h2,h3,h4⟩:=hL
  have hfx:=gstep_fixed hs
  unfold wpList
  rcases gstep_cases h1 hs with ⟨g1,g2⟩ | ⟨g1,g2⟩
  ·
   rw[if_pos g1]
   refine .inl (Oper.wp_mono (fun a' w' hp=>?_) (Oper.wp_tmps (oper_sound hE hC h1 g2)))
   obtain ⟨hp,v,ht⟩:=hp
   obtain ⟨σ1,e1,e2⟩:=Led.post h2 h3 h4 hp (Fix.put hfx ht)
   exact ops_list hE hC HQ l σ1 a' w' e1 e2
  ·
   rw[if_neg (by simp[g1])]
   obtain ⟨σ1,e1,e2⟩:=Led.post h2 h3 h4 (post_unit (K:=fun σ'=>runOps E ops l σ' G) h1 g2) (Fix.put hfx rfl)
   exact ops_list hE hC HQ l σ1 _ w e1 e2
theorem runOps_append {ops:Array Oper} {G:List V→Option R}:∀ {l1 l2:List Oper} {σ:List V},runOps E ops (l1++l2) σ G=runOps E ops l1 σ fun σ'=>runOps E ops l2 σ' G
 | [],_,_=>rfl
 | o::l1,l2,σ=>by
  simp only[List.cons_append,runOps,forceAll_eq]
  congr 1
  funext σ'
  exact runOps_append
theorem ops_still (hE:EnvOK P E) (hC:CallOK P E) {ops:Array Oper} {Q:Act→Prop} {w:World} {G:List V→Option R} (HQ:∀ σ a,G σ=some r→Led E S0 who0 w0 a0 σ a w→Q a) :
  ∀ (l:List Oper) (σ:List V) (a:Act),(∀ o∈l,calmB o=true)→runOps E ops l σ G=some r→Led E S0 who0 w0 a0 σ a w→wpStill P ops w Q l a
 | [],σ,a,_,hs,hL=>HQ σ a hs hL
 | o::l,σ,a,hc,hs,hL=>by
  simp only[runOps,forceAll_eq] at hs
  obtain ⟨S,who,h1,h2,h3,h4⟩:=hL
  have hfx:=gstep_fixed hs
  unfold wpStill
  rcases gstep_cases h1 hs with ⟨g1,g2⟩ | ⟨g1,g2⟩
  ·
   rw[if_pos g1]
   obtain ⟨v,e1,hp⟩:=oper_still hE hC h1 g2 (hc o (by simp))
   unfold Oper.still
   rw[e1]
   refine ⟨rfl,?_⟩
   obtain ⟨σ1,e1,e2⟩:=Led.post h2 h3 h4 hp (Fix.put hfx rfl)
   exact ops_still hE hC HQ l σ1 _ (fun o ho=>hc o (by simp[ho])) e1 e2
  ·
   rw[if_neg (by simp[g1])]
   obtain ⟨σ1,e1,e2⟩:=Led.post h2 h3 h4 (post_unit (K:=fun σ'=>runOps E ops l σ' G) h1 g2) (Fix.put hfx rfl)
   exact ops_still hE hC HQ l σ1 _ (fun o ho=>hc o (by simp[ho])) e1 e2
theorem region_sound (hE:EnvOK P E) (hC:CallOK P E) (hm:P.follows .mixedOrders=true) {id:Nat} {ops:Array Oper} {draws:Bool} {σ:List V} {a:Act} {w:World} {L:Code→List V→(XE→List V→Option R)→Option R}
  (hB:codeB E (.region id ops draws)=true) (hs:runC E L (.region id ops draws) σ K=some r) (hL:Led E S0 who0 w0 a0 σ a w):(Code.region id ops draws).wp P (Ends E r K S0 who0 w0 a0) a w:=by
 simp only[codeB] at hB
 simp only[runC] at hs
 have HE:∀ σ a w,K .normal σ=some r→Led E S0 who0 w0 a0 σ a w→Ends E r K S0 who0 w0 a0 .normal a w:=fun σ a w h1 h2=>⟨σ,h1,h2⟩
 cases hp:E.plan id with
 | some pl =>
  rw[hp] at hB hs
  cases draws with
  | false=>cases hB
  | true =>
   simp only[cond_true] at hB
   simp only[forceL_eq] at hs
   refine wp_region_any hm ?_
   refine plan_sound hE hC hB (fun _ _ _ h=>h.elim) hs (Led.drew ?_) HE
   cases E.keep id with
   | none=>exact hL
   | some ks=>exact hL.keep ks
 | none =>
  rw[hp] at hB hs
  dsimp only at hs
  have main:∀ {σ:List V},runOps E ops ops.toList σ (K .normal)=some r→Led E S0 who0 w0 a0 σ a w→(Code.region id ops draws).wp P (Ends E r K S0 who0 w0 a0) a w:=by
   intro σ hs hL
   cases draws with
   | false=>exact wp_region_list (ops_list hE hC HE ops.toList σ a w hs hL)
   | true =>
    simp only[cond_true,stillB] at hB
    cases hn:Nat.ble ops.size (firstNot ops.toList) with
    | true =>
     rw[hn] at hB
     simp only[cond_true] at hB
     refine wp_region_still hm hB (ops_still hE hC (fun σ a=>HE σ a _) ops.toList σ a (fun o ho=>?_) hs hL.drew)
     have:=firstNot_calm (l:=ops.toList) o
     rw[List.take_of_length_le (by simpa using Nat.le_of_ble_eq_true hn)] at this
     exact this ho
    | false =>
     rw[hn] at hB
     simp only[cond_false] at hB
     have e:ops=ops.toList.toArray:=by simp
     rw[e]
     refine wp_region_still_tail (firstNot ops.toList) hm (by rw[←e];exact hB) ?_
     rw[←e]
     rw[←List.take_append_drop (firstNot ops.toList) ops.toList,runOps_append] at hs
     exact ops_still hE hC (fun σ a h1 h2=>ops_list hE hC HE _ σ a _ h1 h2) _ σ a firstNot_calm hs hL.drew
  cases hk:E.keep id with
  | none=>rw[hk] at hs;exact main hs hL
  | some ks =>
   rw[hk] at hs
   simp only[forceL_eq] at hs
   exact main hs (hL.keep ks)
theorem cond_val {σ:List V} {a:Act} {w:World} {c:Operand} {b:Bool} (hL:Led E S0 who0 w0 a0 σ a w) (hc:opnd E σ c=.bool b):a.eval c=.bool b:=by
 obtain ⟨S,who,h1,_⟩:=hL
 have:=(opnd_spec h1 c).1
 rw[hc] at this
 generalize a.eval c=u at this
 cases this;rfl
theorem runC_sound (hE:EnvOK P E) (hC:CallOK P E) (hm:P.follows .mixedOrders=true) {n:Nat}
  (HL:∀ (x:Code) (K:XE→List V→Option R) (σ:List V) (a:Act) (w:World),codeB E x=true→loopR E n x σ K=some r→Led E S0 who0 w0 a0 σ a w→Code.rounds P x (Ends E r K S0 who0 w0 a0) n a w) :
  ∀ (c:Code) (K:XE→List V→Option R) (σ:List V) (a:Act) (w:World),codeB E c=true→runC E (loopR E n) c σ K=some r→Led E S0 who0 w0 a0 σ a w→c.wp P (Ends E r K S0 who0 w0 a0) a w:=by
 intro c
 induction c with
 | skip=>exact fun K σ a w _ hs hL=>wp_skip ⟨σ,hs,hL⟩
 | label l=>exact fun K σ a w _ hs hL=>wp_label ⟨σ,hs,hL⟩
 | ret=>exact fun K σ a w _ hs hL=>wp_ret ⟨σ,hs,hL⟩
 | exit i=>exact fun K σ a w _ hs hL=>wp_exit ⟨σ,hs,hL⟩
 | region id ops draws=>exact fun K σ a w hB hs hL=>region_sound hE hC hm hB hs hL
 | seq x y ihx ihy =>
  intro K σ a w hB hs hL
  simp only[codeB,Bool.and_eq_true] at hB
  simp only[runC] at hs
  refine wp_seq (Code.wp_mono (fun e a w h=>?_) (ihx _ σ a w hB.1 hs hL))
  cases e with
  | normal =>
   obtain ⟨σ',h1,h2⟩:=h
   exact ihy K σ' a w hB.2 h1 h2
  | exit i=>exact h
  | ret=>exact h
  | _=>exact h.elim
 | cond c x y ihx ihy =>
  intro K σ a w hB hs hL
  simp only[codeB,Bool.and_eq_true] at hB
  simp only[runC] at hs
  split at hs
  ·
   rename_i b hb
   refine wp_cond (cond_val hL hb) ?_
   cases b with
   | true =>
    rw[if_pos rfl] at hs ⊢
    exact ihx K σ a w hB.1 hs hL
   | false =>
    rw[if_neg (by simp)] at hs ⊢
    exact ihy K σ a w hB.2 hs hL
  ·
   cases hs
 | block id x ih =>
  intro K σ a w hB hs hL
  simp only[codeB] at hB
  simp only[runC] at hs
  refine wp_block (Code.wp_mono (fun e a w h=>?_) (ih _ σ a w hB hs hL))
  cases e with
  | normal=>exact h
  | exit i =>
   obtain ⟨σ',h1,h2⟩:=h
   dsimp only at h1
   unfold Exit.inBlock
   by_cases hi:i=id
   ·
    rw[if_pos hi] at h1
    simp only[hi,if_true]
    exact ⟨σ',h1,h2⟩
   ·
    rw[if_neg hi] at h1
    simp only[hi,if_false]
    exact ⟨σ',h1,h2⟩
  | ret=>exact h
  | _=>exact h.elim
 | loop x ih =>
  intro K σ a w hB hs hL
  simp only[codeB] at hB
  simp only[runC] at hs
  exact wp_loop_rounds n (HL x K σ a w hB hs hL)
 | scope x ih =>
  intro K σ a w hB hs hL
  simp only[codeB] at hB
  simp only[runC] at hs
  refine wp_scope_straight (Code.wp_mono (fun e a w h=>?_) (ih K σ a w hB hs hL))
  cases e <;> first | exact h | exact h.elim
 | _=>intro K σ a w hB hs hL;simp[runC] at hs
theorem loopR_sound (hE:EnvOK P E) (hC:CallOK P E) (hm:P.follows .mixedOrders=true):∀ (n:Nat) (x:Code) (K:XE→List V→Option R) (σ:List V) (a:Act) (w:World),codeB E x=true→loopR E n x σ K=some r→Led E S0 who0 w0 a0 σ a w →
  Code.rounds P x (Ends E r K S0 who0 w0 a0) n a w
 | 0,x,K,σ,a,w,_,hs,_=>by simp[loopR] at hs
 | n+1,x,K,σ,a,w,hB,hs,hL=>by
  simp only[loopR] at hs
  rw[rounds_succ]
  refine Code.wp_mono (fun e a w h=>?_) (runC_sound hE hC hm (loopR_sound hE hC hm n) x _ σ a w hB hs hL)
  cases e with
  | normal =>
   obtain ⟨σ',h1,h2⟩:=h
   exact loopR_sound hE hC hm n x K σ' a w hB h1 h2
  | exit i=>exact h
  | ret=>exact h
  | _=>exact h.elim
theorem run_sound (hE:EnvOK P E) (hC:CallOK P E) (hm:P.follows .mixedOrders=true) {n:Nat} {c:Code} {σ:List V} {a:Act} {w:World} (hB:codeB E c=true) (hs:run E n c σ K=some r) (hL:Led E S0 who0 w0 a0 σ a w) :
  c.wp P (Ends E r K S0 who0 w0 a0) a w:=runC_sound hE hC hm (loopR_sound hE hC hm n) c K σ a w hB hs hL
end
end Go.Zv
