/- Zv: a pure interpreter of the translated code over values, and that it is right. No condition. -/
import Derived.Test.YtedbfdlgiilapaaGreatDoorZvL5
import Derived.Lib.Bytealg
import Derived.Laws.Externs
import Derived.Laws.AppendOwn
import Derived.Below
import Derived.Lib.Join
set_option linter.unusedSimpArgs false
set_option linter.unusedVariables false
namespace Go.Zv
open Go
section
variable {R:Type} {P:Program} {E:Env} {r:R} {S:Nat→Prop} {who who0:Nat→Option Nat} {w:World} {a:Act} {σ:List V}
def resRun (tm:Array Value):ResultVar→Sem Value
 | .tmp t=>pure (tm.getD t undef)
 | .cell a t=>do loadVar t (←asAddr (tm.getD a undef))
def ResOut (P:Program) (E:Env) (r:R) (G:V→List V→Option R) (S:Nat→Prop) (who:Nat→Option Nat) (w:World) (tm:Array Value) (x:ResultVar):Prop :=
 ∃ u v σ' S' who' O,(resRun tm x).run P w=.ok u w∧G v σ'=some r∧Rel E S' who' w tm σ'∧Step S who w S' who' w∧Rep S' w u v O∧O.Nodup∧∀ b∈O,who b≠none∧who' b=none∧¬S' b
theorem resOne_sem (hE:EnvOK P E) (x:ResultVar) {G:V→List V→Option R} (h:Rel E S who w a.tmps σ) (hs:resOne E σ x G=some r):ResOut P E r G S who w a.tmps x:=by
 have plain:∀ {u:Value} {v:V} {σ':List V} {S':Nat→Prop} {who':Nat→Option Nat},(resRun a.tmps x).run P w=.ok u w→Rel E S' who' w a.tmps σ'→Step S who w S' who' w→(∃ O,Rep S' w u v O)→cond (simple v) (G v σ') none=some r →
   ResOut P E r G S who w a.tmps x:=by
  intro u v σ' S' who' h1 h2 h3 h4 h5
  obtain ⟨O,h4⟩:=h4
  cases e:simple v with
  | false=>rw[e] at h5;cases h5
  | true =>
   rw[e] at h5
   obtain ⟨p1,p2,p3⟩:=simple_cont e
   have:=h4.plain p1 p2
   subst this
   exact ⟨u,v,σ',S',who',[],h1,h5,h2,h3,h4,by simp,by simp⟩
 cases x with
 | tmp t =>
  simp only[resOne] at hs
  obtain ⟨O,hO,_⟩:=h.rep t
  split at hs
  ·
   rename_i n k rows hg
   have hf:Follow w (a.tmps.getD t undef) (gt σ t) [] (a.tmps.getD t undef) (gt σ t):=.nil _ _
   obtain ⟨OX,who',g1,g2,g3,g4,g5⟩:=take_sem h hf (by rw[hg];simp)
   rw[hg] at g1
   exact ⟨_,_,_,S,who',OX,rfl,hs,g4,g5,g1,g2,g3⟩
  ·
   exact plain rfl h (Step.refl _ _ _) ⟨O,hO⟩ hs
 | cell ad t =>
  simp only[resOne] at hs
  obtain ⟨hr,hl⟩:=opnd_spec h (.tmp ad)
  obtain ⟨v,σ1,S1,who1,u1,g1,g2,g3,g4,g5,g6⟩:=load_sem (P:=P) (hE.ty t) h hr hl hs
  have hrun:(resRun a.tmps (.cell ad t)).run P w=.ok u1 w:=by
   have he:a.eval (.tmp ad)=a.tmps.getD ad undef:=rfl
   rw[he] at g1
   unfold resRun
   unfold Instr.loadAt at g1
   rw[Sem.run_bind] at g1 ⊢
   cases e:a.tmps.getD ad undef <;> rw[e] at g1 <;> simp only[Instr.sureAddr,stuck,Sem.run,Result.andThen] at g1 <;> first | (cases g1;done) | skip
   case pointer p =>
    cases p with
    | none=>simp only[stuck,Sem.run,Result.andThen] at g1;cases g1
    | some p=>exact g1
  split at g2
  ·
   rename_i r0 p
   split at g2
   ·
    rename_i k b hk
    rcases place_sem g5 g2 with ⟨n,rows,X,hK,hf,hX⟩ | ⟨f,rows,hK,hf⟩
    ·
     obtain ⟨OX,who2,q1,q2,q3,q4,q5⟩:=take_sem g3 hf (by rcases hX with rfl | ⟨rfl,_⟩ <;> simp)
     have hown:Rep S1 w u1 (.own n k rows) OX:=by
      rcases hX with rfl | ⟨rfl,rfl,rfl⟩
      ·
       exact q1
      ·
       cases q1;exact .own0 _ _ _
     refine ⟨u1,_,_,S1,who2,OX,hrun,hK,q4,g6.trans q5,hown,q2,fun b hb=>⟨?_,(q3 b hb).2.1,(q3 b hb).2.2⟩⟩
     rcases g6.own b (q3 b hb).1 with h7 | h7
     ·
      exact h7
     ·
      have:=q1.low b hb;omega
    ·
     obtain ⟨O1,hX,_⟩:=hf.rep g3
     have:=hX.plain rfl (by simp)
     subst this
     exact ⟨u1,_,_,S1,who1,[],hrun,hK,g3,g6,hX,by simp,by simp⟩
   ·
    cases g2
  ·
   exact plain hrun g3 g6 ⟨_,g4⟩ g2
theorem resAll_sem (hE:EnvOK P E) {G:List V→List V→Option R}:∀ (l:List ResultVar) {S:Nat→Prop} {who:Nat→Option Nat} {σ:List V} (acc:List (Value×V)) {O:List Nat},
  Rel E S who w a.tmps σ→Reps S w (acc.reverse.map (·.1)) (acc.reverse.map (·.2)) O→Loose S who0 who O→(∀ b,who b≠none→who0 b≠none∨w.heap.size≤b)→resAll E l (acc.map (·.2)) σ G=some r →
  ∃ us vs σ' S' who' O',(l.mapM (resRun a.tmps)).run P w=.ok us w∧G vs σ'=some r∧Rel E S' who' w a.tmps σ'∧Step S who w S' who' w∧Reps S' w (acc.reverse.map (·.1)++us) vs O'∧Loose S' who0 who' O'
 | [],S,who,σ,acc,O,h,hr,hL,h0,hs=>by
  refine ⟨[],acc.reverse.map (·.2),σ,S,who,O,rfl,by simpa[resAll,List.map_reverse] using hs,h,Step.refl _ _ _,by simpa using hr,hL⟩
 | x::l,S,who,σ,acc,O,h,hr,hL,h0,hs=>by
  simp only[resAll] at hs
  obtain ⟨u,v,σ1,S1,who1,O1,g1,g2,g3,g4,g5,g6,g7⟩:=resOne_sem hE x h hs
  have hlow:=hr.low
  have hr1:Reps S1 w ((((u,v)::acc).reverse).map (·.1)) ((((u,v)::acc).reverse).map (·.2)) (O++O1):=by
   have e1:Reps S1 w [u] [v] O1:=by simpa using Reps.cons g5 .nil
   simpa using (hr.mono g4.sub (fun _ _=>rfl) (fun _ _=>rfl)).append e1
  have hL2:Loose S1 who0 who1 (O++O1):=(hL.step g4 hlow).append ⟨g6,fun b hb=>⟨(g7 b hb).2.1,(g7 b hb).2.2,by
   rcases h0 b (g7 b hb).1 with h7 | h7
   ·
    exact h7
   ·
    have:=g5.low b hb;omega⟩⟩ (fun b hb hc=>(g7 b hc).1 (hL.2 b hb).1)
  obtain ⟨us,vs,σ',S',who',O',k1,k2,k3,k4,k5,k6⟩:=resAll_sem hE l ((u,v)::acc) g3 hr1 hL2 (fun b hb=>by
   rcases g4.own b hb with h7 | h7
   ·
    exact h0 b h7
   ·
    exact .inr h7) g2
  refine ⟨u::us,vs,σ',S',who',O',?_,k2,k3,g4.trans k4,by simpa using k5,k6⟩
  rw[List.mapM_cons]
  simp only[Sem.run_bind,g1,Result.andThen_ok,k1,Sem.run_pure]
def packU (us:List Value):Value:=match us with
 | [u]=>u
 | us=>.tuple us.toArray
theorem results_run {fn:Func} {us:List Value} (h:(fn.results.toList.mapM (resRun a.tmps)).run P w=.ok us w) :
  (results fn a.tmps).run P w=.ok (packU us) w:=by
 have e:results fn a.tmps=(do let vs ←fn.results.mapM (resRun a.tmps);pure (if h:vs.size=1 then vs[0] else .tuple vs):Sem Value):=by
  unfold results
  congr 2
 rw[e,Array.mapM_eq_mapM_toList]
 have e2:(do let vs ←(Array.mk <$> List.mapM (resRun a.tmps) fn.results.toList);pure (if h:vs.size=1 then vs[0] else .tuple vs):Sem Value) =
   (do let l ←List.mapM (resRun a.tmps) fn.results.toList;pure (if h:l.toArray.size=1 then l.toArray[0] else .tuple l.toArray):Sem Value):=by
  rw[map_eq_pure_bind,bind_assoc]
  simp only[pure_bind]
 first
  | rw[e2]
  | skip
 simp only[Sem.run_bind,h,Result.andThen_ok,Sem.run_pure]
 cases us with
 | nil=>rfl
 | cons u us =>
  cases us with
  | nil=>rfl
  | cons u2 us=>simp[packU]
theorem pack_rep {us:List Value} {vs:List V} {O:List Nat} (h:Reps S w us vs O):Rep S w (packU us) (pack vs) O:=by
 cases h with
 | nil=>exact .tup .nil
 | cons h1 h2 =>
  cases h2 with
  | nil=>simp only[List.append_nil];exact h1
  | cons h2 h3=>exact .tup (by simpa using Reps.cons h1 (.cons h2 h3))
theorem enter_who {G:Nat→Option (List V)} {vs:List Value} {args:List V} {O:List Nat} (h:Reps S w vs args O):O.Nodup→∃ who:Nat→Option Nat,
  (∀ i,∃ Oi,Rep S w (vs.getD i undef) (args.getD i .ud) Oi∧Oi.Nodup∧∀ b∈Oi,who b=some i)∧∀ b i,who b=some i→b∈O∧i<args.length:=by
 intro hn
 induction args generalizing vs O with
 | nil =>
  cases h
  exact ⟨fun _=>none,fun i=>⟨[],by simpa using Rep.ud undef,by simp,by simp⟩,by simp⟩
 | cons x xs ih =>
  cases h with
  | @cons v _ vs _ O1 O2 h1 h2 =>
   rw[List.nodup_append] at hn
   obtain ⟨hn1,hn2,hd⟩:=hn
   obtain ⟨who,g1,g2⟩:=ih h2 hn2
   refine ⟨fun b=>if b∈O1 then some 0 else (who b).map (·+1),fun i=>?_,fun b i hb=>?_⟩
   ·
    cases i with
    | zero=>exact ⟨O1,by simpa using h1,hn1,fun b hb=>by simp[hb]⟩
    | succ i =>
     obtain ⟨Oi,k1,k2,k3⟩:=g1 i
     refine ⟨Oi,by simpa using k1,k2,fun b hb=>?_⟩
     have h3:b ∉ O1:=fun hc=>hd b hc b (g2 b i (k3 b hb)).1 rfl
     simp[h3,k3 b hb]
   ·
    by_cases hb1:b∈O1
    ·
     simp only[hb1,if_true,Option.some.injEq] at hb
     subst hb
     exact ⟨by simp[hb1],by simp⟩
    ·
     simp only[hb1,if_false,Option.map_eq_some_iff] at hb
     obtain ⟨j,hj,rfl⟩:=hb
     exact ⟨by simp[(g2 b j hj).1],by simpa using (g2 b j hj).2⟩
theorem getD_pad {vs:List Value} {n i:Nat}:(vs.toArray++Array.replicate n undef).getD i undef=vs.getD i undef:=by
 rw[Array.getD_eq_getD_getElem?,List.getD_eq_getElem?_getD]
 by_cases h:i<vs.length
 ·
  rw[Array.getElem?_append_left (by simpa using h)];simp
 ·
  rw[Array.getElem?_append_right (by simpa using h),List.getElem?_eq_none (by omega)]
  simp only[Array.getElem?_replicate]
  split <;> rfl
theorem gt_pad {args:List V} {n i:Nat}:gt (args++List.replicate n .ud) i=gt args i:=by
 unfold gt
 rw[List.getD_eq_getElem?_getD,List.getD_eq_getElem?_getD]
 by_cases h:i<args.length
 ·
  rw[List.getElem?_append_left h]
 ·
  rw[List.getElem?_append_right (by omega),List.getElem?_eq_none (l:=args) (by omega),List.getElem?_replicate]
  split <;> rfl
theorem maskGo_reps {fixed:List Nat} {S':Nat→Prop} {w':World} {who':Nat→Option Nat} {σ:List V} {tm:Array Value} (h:Rel E S' who' w' tm σ):∀ (vs:List Value) (k:Nat),k+vs.length≤σ.length→(∀ i,fixed.contains (k+i)=true→i<vs.length→tm.getD (k+i) undef=vs.getD i undef) →
  ∃ O,Reps S' w' vs ((((σ.drop k).take vs.length).zipIdx k).map fun (x:V×Nat)=>cond (fixed.contains x.2) x.1 V.ud) O∧O.Nodup∧∀ b∈O,∃ i,who' b=some i∧k≤i
 | [],k,_,_=>⟨[],by simpa using Reps.nil,by simp,by simp⟩
 | v::vs,k,hl,hf=>by
  obtain ⟨O2,g1,g2,g3⟩:=maskGo_reps h vs (k+1) (by simp at hl;omega) (fun i hi hl=>by
   have:=hf (i+1) (by rw[show k+(i+1)=k+1+i by omega];exact hi) (by simp;omega)
   rw[show k+(i+1)=k+1+i by omega] at this
   simpa using this)
  have hhead:∃ O1,Rep S' w' v (cond (fixed.contains k) (gt σ k) .ud) O1∧O1.Nodup∧∀ b∈O1,who' b=some k:=by
   cases e:fixed.contains k with
   | false=>exact ⟨[],.ud _,by simp,by simp⟩
   | true =>
    obtain ⟨O1,k1,k2,k3⟩:=h.rep k
    have:=hf 0 (by rw[Nat.add_zero];exact e) (by simp)
    simp only[Nat.add_zero,List.getD_cons_zero] at this
    rw[this] at k1
    exact ⟨O1,k1,k2,k3⟩
  obtain ⟨O1,k1,k2,k3⟩:=hhead
  refine ⟨O1++O2,?_,List.nodup_append.2 ⟨k2,g2,fun b hb c hc e=>?_⟩,fun b hb=>?_⟩
  ·
   have heq:(((σ.drop k).take (v::vs).length).zipIdx k).map (fun x:V×Nat=>cond (fixed.contains x.2) x.1 V.ud) =
     cond (fixed.contains k) (gt σ k) .ud::(((σ.drop (k+1)).take vs.length).zipIdx (k+1)).map (fun x:V×Nat=>cond (fixed.contains x.2) x.1 V.ud):=by
    have hk:k<σ.length:=by simp at hl;omega
    have e1:σ.drop k=gt σ k::σ.drop (k+1):=by
     rw[List.drop_eq_getElem_cons hk]
     congr 1
     simp[gt,List.getD_eq_getElem?_getD,hk]
    rw[e1]
    rfl
   rw[heq]
   exact .cons k1 g1
  ·
   subst e
   obtain ⟨i,h1,h2⟩:=g3 b hc
   rw[k3 b hb] at h1;cases h1;omega
  ·
   rcases List.mem_append.1 hb with hb | hb
   ·
    exact ⟨k,k3 b hb,Nat.le_refl _⟩
   ·
    obtain ⟨i,h1,h2⟩:=g3 b hb
    exact ⟨i,h1,by omega⟩
theorem runBody_sound (hE : EnvOK P E) (hC : CallOK P E) (hm : P.follows .mixedOrders = true) {f : Nat} {fn : Func} {c : Code} {n : Nat} {args outs : List V} {res : V} (hf : P.funcs[f]? = some fn) (hname : (fn.name == "runtime.NumGoroutine") = false) (hb : fn.body = some c) (hB : codeB E c = true)
  (hs:runBody E n fn c args=some (res,outs)):Does P E.glob f args res outs:=by
 intro S w vs O hG
 cases hlf:args.all linkFree with
 | false=>unfold runBody at hs;rw[hlf] at hs;cases hs
 | true =>
 unfold runBody at hs
 rw[hlf] at hs
 simp only[cond_true] at hs
 have hlen:vs.length=args.length:=hG.rep.len
 obtain ⟨who,hw1,hw2⟩:=enter_who (G:=E.glob) hG.rep hG.nodup
 refine .inl ⟨by
  have h1 : fn.name ≠ "runtime.NumGoroutine" := by simpa using hname
  simp[callFunc,hf,h1,hb],calls_of_wp hf hb ?_⟩
 generalize ha:({ tmps:=vs.toArray++Array.replicate (fn.ntmps-vs.toArray.size) undef,defers:=[] }:Act)=a0
 have htm:∀ i,a0.tmps.getD i undef=vs.getD i undef:=fun i=>by rw[←ha];exact getD_pad
 have hrel:Rel E S who w a0.tmps (args++List.replicate (fn.ntmps-args.length) .ud):=by
  refine ⟨by rw[←ha];simp[hlen],fun i=>?_,fun b hb=>?_,hG.low,fun b i hb=>hG.rep.low b (hw2 b i hb).1,fun i=>?_,hG.glob⟩
  ·
   rw[htm,gt_pad];exact hw1 i
  ·
   cases e:who b with
   | none=>rfl
   | some i=>exact absurd hb (hG.apart b (hw2 b i e).1)
  ·
   rw[htm,gt_pad]
   obtain ⟨Oi,h1,_⟩:=hw1 i
   by_cases hi:i<args.length
   ·
    have hm:gt args i∈args:=by
     unfold gt;rw[List.getD_eq_getElem?_getD,List.getElem?_eq_getElem hi];simp
    exact h1.link (List.all_eq_true.1 hlf _ hm)
   ·
    rw[gt_len (by omega)];exact link_undef ..
 have hL:Led E S who w a0 (args++List.replicate (fn.ntmps-args.length) .ud) a0 w:=⟨S,who,hrel,Step.refl _ _ _,rfl,Fix.refl _ _⟩
 have hrun:=run_sound hE hC hm hB hs hL
 refine Code.wp_mono (fun e a w' he=>?_) hrun
 have fin:∀ {σ:List V},(resAll E fn.results.toList [] σ fun vs σ'=>some (pack vs,maskOuts E.fixed (σ'.take args.length)))=some (res,outs)→Led E S who w a0 σ a w' →
   a.defers=[]∧∃ v,(results fn a.tmps).run P w'=.ok v w'∧∃ v',Ending.returned v=.returned v'∧∃ S' Or Oo,Back S w O vs v' res outs S' w' Or Oo:=by
  intro σ hs hL
  obtain ⟨S1,who1,h1,h2,h3,h4⟩:=hL
  refine ⟨by rw[h3,←ha],?_⟩
  obtain ⟨us,vs',σ2,S2,who2,O2,k1,k2,k3,k4,k5,k6⟩:=resAll_sem (a:=a) (w:=w') (who0:=who1) hE fn.results.toList [] h1 (by simpa using Reps.nil) (O:=[]) ⟨by simp,by simp⟩ (fun b hb=>.inl hb) hs
  simp only[Option.some.injEq,Prod.mk.injEq] at k2
  obtain ⟨rfl,rfl⟩:=k2
  simp only[List.reverse_nil,List.map_nil,List.nil_append] at k5
  refine ⟨_,results_run k1,_,rfl,S2,O2,?_⟩
  have hl:vs.length≤σ2.length:=by
   rw[←k3.size,h4.size,←ha];simp
  obtain ⟨Oo,q1,q2,q3⟩:=maskGo_reps (fixed:=E.fixed) k3 vs 0 (by omega) (fun i hi _=>by
   rw[Nat.zero_add] at hi ⊢
   rw[h4.at_ i hi,htm])
  rw[List.drop_zero,hlen] at q1
  refine ⟨Oo,pack_rep k5,q1,List.nodup_append.2 ⟨k6.1,q2,fun b hb c hc e=>?_⟩,fun b hb=>?_,Nat.le_trans h2.size k4.size,fun b hb=>k4.sub b (h2.sub b hb),fun b hb=>?_,k3.low,fun b hb hn=>?_,?_⟩
  ·
   subst e
   obtain ⟨i,h7,_⟩:=q3 b hc
   rw[(k6.2 b hb).1] at h7;cases h7
  ·
   have hown:who1 b≠none→b∈O∨w.heap.size≤b:=fun h=>by
    rcases h2.own b h with h7 | h7
    ·
     obtain ⟨i,hi⟩:=Option.ne_none_iff_exists'.1 h7
     exact .inl (hw2 b i hi).1
    ·
     exact .inr h7
   rcases List.mem_append.1 hb with hb | hb
   ·
    exact ⟨(k6.2 b hb).2.1,hown (k6.2 b hb).2.2⟩
   ·
    obtain ⟨i,h7,_⟩:=q3 b hb
    refine ⟨(fun hs=>by rw[k3.sep b hs] at h7;cases h7),?_⟩
    rcases k4.own b (by rw[h7];simp) with h8 | h8
    ·
     exact hown h8
    ·
     exact .inr (Nat.le_trans h2.size h8)
  ·
   rcases k4.new b hb with h7 | h7 | h7
   ·
    rcases h2.new b h7 with h8 | h8 | h8
    ·
     exact .inl h8
    ·
     obtain ⟨i,hi⟩:=Option.ne_none_iff_exists'.1 h8
     exact .inr (.inl (hw2 b i hi).1)
    ·
     exact .inr (.inr h8)
   ·
    rcases h2.own b h7 with h8 | h8
    ·
     obtain ⟨i,hi⟩:=Option.ne_none_iff_exists'.1 h8
     exact .inr (.inl (hw2 b i hi).1)
    ·
     exact .inr (.inr h8)
   ·
    exact .inr (.inr (Nat.le_trans h2.size h7))
  ·
   have hwn:who b=none:=by
    cases e:who b with
    | none=>rfl
    | some i=>exact absurd (hw2 b i e).1 hn
   exact h2.keep b hb hwn
  ·
   exact h2.out.trans k4.out
 cases e with
 | normal =>
  obtain ⟨σ,h1,h2⟩:=he
  exact fin h1 h2
 | ret =>
  obtain ⟨σ,h1,h2⟩:=he
  exact fin h1 h2
 | exit i =>
  obtain ⟨σ,h1,h2⟩:=he
  cases h1
 | _=>exact he.elim
end
end Go.Zv
namespace Go.Zv
open Go
inductive Tr (α:Type) where
 | leaf
 | node (l:Tr α) (k:Nat) (v:α) (r:Tr α)
def Tr.get {α:Type}:Tr α→Nat→Option α
 | .leaf,_=>none
 | .node l k v r,n=>cond (Nat.beq n k) (some v) (cond (Nat.blt n k) (l.get n) (r.get n))
def Tr.All {α:Type} (p:Nat→α→Prop):Tr α→Prop
 | .leaf=>True
 | .node l k v r=>l.All p∧p k v∧r.All p
theorem Tr.All.get {α:Type} {p:Nat→α→Prop}:∀ {t:Tr α},t.All p→∀ {n:Nat} {v:α},t.get n=some v→p n v
 | .leaf,_,n,v,h=>by cases h
 | .node l k u r,hA,n,v,h=>by
  obtain ⟨h1,h2,h3⟩:=hA
  unfold Tr.get at h
  cases e:Nat.beq n k with
  | true =>
   rw[e] at h
   simp only[cond_true,Option.some.injEq] at h
   subst h
   rw[Nat.eq_of_beq_eq_true e];exact h2
  | false =>
   rw[e] at h
   simp only[cond_false] at h
   cases e2:Nat.blt n k with
   | true=>rw[e2] at h;exact h1.get h
   | false=>rw[e2] at h;exact h3.get h
structure FnI where
 fn:Func
 code:Code
 nests:List Nat
 shares:List Nat
 fixed:List Nat
 keep:List (Nat×List Nat)
 plans:List (Nat×Plan)
structure Tab where
 tys:Tr TI
 glob:Tr (List V)
 fns:Tr FnI
 takes:Tr (List Nat)
 turns:Tr (List Nat)
 flats:Tr Unit
 eqs:Tr Unit
 u8s:Tr Unit
 libs:Tr (Nat×Nat)
def look {α:Type} (id:Nat):List (Nat×α)→Option α
 | []=>none
 | (k,v)::rest=>cond (Nat.beq id k) (some v) (look id rest)
def isIn (t:Tr Unit) (n:Nat):Bool:=match t.get n with
 | some _=>true
 | none=>false
def listAt (t:Tr (List Nat)) (n:Nat):List Nat:=match t.get n with
 | some l=>l
 | none=>[]
def envOf (T:Tab) (i:FnI) (call:Nat→List V→Option (V×List V)):Env :=
 { tys:=T.tys.get,glob:=T.glob.get,
   call:=fun f args K=>match call f args with
     | some (res,outs)=>K res outs
     | none=>none,
   keep:=fun id=>look id i.keep,plan:=fun id=>look id i.plans,nests:=i.nests,shares:=i.shares,takes:=listAt T.takes,turns:=listAt T.turns,fixed:=i.fixed,
   flat:=isIn T.flats,eqs:=isIn T.eqs,u8s:=isIn T.u8s,lib:=T.libs.get }
def callD (T:Tab) (prims:Nat→List V→Option (V×List V)) (fuel:Nat):Nat→Nat→List V→Option (V×List V)
 | 0,_,_=>none
 | d+1,f,args=>match prims f args with
  | some r=>some r
  | none=>match T.fns.get f with
   | some i=>runBody (envOf T i (callD T prims fuel d)) fuel i.fn i.code args
   | none=>none
section
variable {P:Program} {T:Tab} {prims:Nat→List V→Option (V×List V)}
def FnOK (P:Program) (f:Nat) (i:FnI):Prop :=
 P.funcs[f]? = some i.fn ∧ (i.fn.name == "runtime.NumGoroutine") = false ∧ i.fn.body = some i.code ∧ codeB (envOf ⟨.leaf, .leaf, .leaf, .leaf, .leaf, .leaf, .leaf, .leaf, .leaf⟩ i fun _ _ => none) i.code = true
structure TabOK (P:Program) (T:Tab):Prop where
 ty:T.tys.All (TyOK P)
 eq:T.eqs.All fun t _=>∀ i,T.tys.get t=some i→EqOK P t i
 u8:T.u8s.All fun t _=>∃ e ie,P.underlying t=some (.slice e)∧P.underlying e=some (.int .u8)∧P.info? e=some ie∧ie.size=1
 lib:T.libs.All fun t x=>∃ ti z,P.info? t=some ti∧ti.zero=some z∧libZero x.1 z
 fns:T.fns.All (FnOK P)
def PrimsOK (P:Program) (T:Tab) (prims:Nat→List V→Option (V×List V)):Prop :=
 ∀ f args res outs,prims f args=some (res,outs)→Does P T.glob.get f args res outs
theorem envOK (hT:TabOK P T) (i:FnI) (call:Nat→List V→Option (V×List V)):EnvOK P (envOf T i call) where
 ty t i h:=hT.ty.get h
 eq t i h he:=by
  simp only[envOf,isIn] at he
  split at he
  ·
   rename_i u hu
   exact hT.eq.get hu i h
  ·
   cases he
 u8 t he:=by
  simp only[envOf,isIn] at he
  split at he
  ·
   rename_i u hu
   exact hT.u8.get hu
  ·
   cases he
 lib t kd e he:=hT.lib.get he
theorem codeB_plan {E E':Env} (h:E.plan=E'.plan):∀ c:Code,codeB E c=codeB E' c:=by
 intro c
 induction c with
 | region id ops d=>simp only[codeB,h]
 | seq x y ihx ihy=>simp only[codeB,ihx,ihy]
 | cond o x y ihx ihy=>simp only[codeB,ihx,ihy]
 | block id x ih=>simp only[codeB,ih]
 | loop x ih=>simp only[codeB,ih]
 | scope x ih=>simp only[codeB,ih]
 | _=>rfl
theorem callD_sound (hT:TabOK P T) (hp:PrimsOK P T prims) (hm:P.follows .mixedOrders=true) {fuel:Nat}:∀ (d f:Nat) (args:List V) (res:V) (outs:List V),callD T prims fuel d f args=some (res,outs)→Does P T.glob.get f args res outs
 | 0,_,_,_,_,h=>by cases h
 | d+1,f,args,res,outs,h=>by
  simp only[callD] at h
  split at h
  ·
   rename_i r hr
   simp only[Option.some.injEq] at h
   subst h
   exact hp f args res outs hr
  ·
   split at h
   case h_2=>cases h
   rename_i i hi
   obtain ⟨h1,h2,h3,h4⟩:=hT.fns.get hi
   refine runBody_sound (E:=envOf T i (callD T prims fuel d)) (envOK hT i _) ?_ hm h1 h2 h3 ?_ h
   ·
    intro R g args' G r hG
    simp only[envOf] at hG
    split at hG
    ·
     rename_i res' outs' hc
     exact ⟨res',outs',hG,callD_sound hT hp hm d g args' res' outs' hc⟩
    ·
     cases hG
   ·
    rw[←h4]
    exact codeB_plan (E:=envOf T i (callD T prims fuel d)) (E':=envOf ⟨.leaf,.leaf,.leaf,.leaf,.leaf,.leaf,.leaf,.leaf,.leaf⟩ i fun _ _=>none) rfl i.code
end
end Go.Zv
namespace Go.Zv
open Go
def isScal (v:V) (c:Value):Bool :=
 match v,ofScalar c with
 | .int k n,.int k' n'=>decide (k=k')&&decide (n=n')
 | .bool b,.bool b'=>b==b'
 | .str s,.str s'=>s==s'
 | .nilsl,.nilsl=>true
 | .nilp,.nilp=>true
 | .ud,.ud=>true
 | .fn f [],.fn g []=>Nat.beq f g
 | _,_=>false
theorem isScal_eq {v:V} {c:Value} (h:isScal v c=true):v=ofScalar c:=by
 unfold isScal at h
 generalize ofScalar c=u at h ⊢
 split at h
 ·
  simp only[Bool.and_eq_true,decide_eq_true_eq] at h;rw[h.1,h.2]
 ·
  rw[beq_iff_eq] at h;rw[h]
 ·
  rw[beq_iff_eq] at h;rw[h]
 ·
  rfl
 ·
  rfl
 ·
  rfl
 ·
  rw[Nat.eq_of_beq_eq_true h]
 ·
  cases h
def areScal:List V→List Value→Bool
 | [],[]=>true
 | v::vs,c::cs=>isScal v c&&areScal vs cs
 | _,_=>false
theorem areScal_eq:∀ {vs:List V} {cs:List Value},areScal vs cs=true→vs=cs.map ofScalar
 | [],[],_=>rfl
 | v::vs,c::cs,h=>by
  simp only[areScal,Bool.and_eq_true] at h
  rw[isScal_eq h.1,areScal_eq h.2];rfl
 | [],_::_,h=>by cases h
 | _::_,[],h=>by cases h
def isZ (v:V) (c:Value):Bool:=isScal v c||(match v,c with
 | .sl _ false [],.slice _ 0 0=>true
 | _,_=>false)
theorem isZ_ok {v:V} {c:Value} (h:isZ v c=true):ZC c v:=by
 unfold isZ at h
 rw[Bool.or_eq_true] at h
 rcases h with h | h
 ·
  rw[isScal_eq h];exact .same c
 ·
  split at h
  ·
   exact .none _ _
  ·
   cases h
def areZ:List V→List Value→Bool
 | [],[]=>true
 | v::vs,c::cs=>isZ v c&&areZ vs cs
 | _,_=>false
theorem areZ_ok:∀ {vs:List V} {cs:List Value},areZ vs cs=true→ZCs cs vs
 | [],[],_=>trivial
 | v::vs,c::cs,h=>by
  simp only[areZ,Bool.and_eq_true] at h
  exact ⟨isZ_ok h.1,areZ_ok h.2⟩
 | [],_::_,h=>by cases h
 | _::_,[],h=>by cases h
def fieldsB (P:Program):List (Nat×Nat×Nat)→List Field→Bool
 | [],[]=>true
 | (o,t,n)::l,f::fs=>Nat.beq o f.offset&&Nat.beq t f.type&&Nat.beq n (P.cellsOf f.type)&&(P.info? f.type).isSome&&fieldsB P l fs
 | _,_=>false
theorem fieldsB_eq {P:Program}:∀ {l:List (Nat×Nat×Nat)} {fs:List Field},fieldsB P l fs=true→l=fs.map (fun f=>(f.offset,f.type,P.cellsOf f.type))∧∀ f∈fs,∃ ti,P.info? f.type=some ti
 | [],[],_=>⟨rfl,by simp⟩
 | (o,t,n)::l,f::fs,h=>by
  simp only[fieldsB,Bool.and_eq_true] at h
  obtain ⟨⟨⟨⟨h1,h2⟩,h3⟩,h4⟩,h5⟩:=h
  obtain ⟨g1,g2⟩:=fieldsB_eq h5
  rw[Nat.eq_of_beq_eq_true h1,Nat.eq_of_beq_eq_true h2,Nat.eq_of_beq_eq_true h3,g1]
  refine ⟨rfl,fun x hx=>?_⟩
  rcases List.mem_cons.1 hx with rfl | hx
  ·
   exact Option.isSome_iff_exists.1 h4
  ·
   exact g2 x hx
 | [],_::_,h=>by cases h
 | _::_,[],h=>by cases h
def kindB (P:Program) (i:TI) (d:TypeDesc):Bool :=
 match d with
 | .int k=>(match i.kind with
  | .int k'=>decide (k=k')
  | _=>false)
 | .bool=>(match i.kind with
  | .bool=>true
  | _=>false)
 | .string=>(match i.kind with
  | .str=>true
  | _=>false)
 | .pointer _=>(match i.kind with
  | .ptr=>true
  | _=>false)
 | .func _ _ _=>(match i.kind with
  | .fn=>true
  | _=>false)
 | .slice e=>(match i.kind with
  | .slice k b=>(match P.info? e with
   | some ti=>(match ti.zero with
    | some z=>Nat.beq k ti.size&&Nat.beq b ti.bytes&&areZ i.ez z.cells.toList&&Nat.beq ti.size z.cells.size&&Nat.blt 0 ti.size&&z.cells.toList.all Value.oneCell'
    | none=>false)
   | none=>false)
  | _=>false)
 | .array n e=>(match i.kind with
  | .arr n' k e'=>Nat.beq n n'&&Nat.beq e e'&&Nat.beq k (P.cellsOf e)&&Nat.blt 0 k&&(P.info? e).isSome
  | _=>false)
 | .struct fs=>(match i.kind with
  | .struct l=>fieldsB P l fs.toList
  | _=>false)
 | _=>false
theorem kindB_ok {P:Program} {i:TI} {d:TypeDesc} (h:kindB P i d=true):KindOK P i d:=by
 unfold kindB at h
 split at h
 ·
  split at h
  ·
   rename_i e;simp only[decide_eq_true_eq] at h;subst h;exact e
  ·
   cases h
 ·
  split at h
  ·
   rename_i e;exact e
  ·
   cases h
 ·
  split at h
  ·
   rename_i e;exact e
  ·
   cases h
 ·
  split at h
  ·
   rename_i e;exact e
  ·
   cases h
 ·
  split at h
  ·
   rename_i e;exact e
  ·
   cases h
 ·
  split at h
  ·
   rename_i k b e
   split at h
   ·
    rename_i ti hti
    split at h
    ·
     rename_i z hz
     simp only[Bool.and_eq_true] at h
     obtain ⟨⟨⟨⟨⟨h1,h2⟩,h3⟩,h4⟩,h5⟩,h6⟩:=h
     refine ⟨ti,z,hti,hz,?_,areZ_ok h3,Nat.eq_of_beq_eq_true h4,by simp[Nat.blt] at h5;omega,List.all_eq_true.1 h6⟩
     rw[e,Nat.eq_of_beq_eq_true h1,Nat.eq_of_beq_eq_true h2]
    ·
     cases h
   ·
    cases h
  ·
   cases h
 ·
  split at h
  ·
   rename_i n' k e' e
   simp only[Bool.and_eq_true] at h
   obtain ⟨⟨⟨⟨h1,h2⟩,h3⟩,h4⟩,h5⟩:=h
   have h3':=Nat.eq_of_beq_eq_true h3
   have h2':=Nat.eq_of_beq_eq_true h2
   subst h2'
   refine ⟨?_,by rw[←h3'];simp[Nat.blt] at h4;omega,Option.isSome_iff_exists.1 h5⟩
   rw[e,Nat.eq_of_beq_eq_true h1,h3']
  ·
   cases h
 ·
  split at h
  ·
   rename_i l e
   obtain ⟨g1,g2⟩:=fieldsB_eq h
   exact ⟨l,e,g1,g2⟩
  ·
   cases h
 ·
  cases h
def tyB (P:Program) (t:Nat) (i:TI):Bool :=
 match P.underlying t,P.info? t with
 | some d,some ti=>(match ti.zero with
  | some z=>kindB P i d&&Nat.beq ti.size i.size&&areScal i.zero z.cells.toList&&Nat.beq z.cells.size i.size&&z.cells.toList.all Value.oneCell'&&(i.kind.isAgg||Nat.beq i.size 1)
  | none=>false)
 | _,_=>false
theorem tyB_ok {P:Program} {t:Nat} {i:TI} (h:tyB P t i=true):TyOK P t i:=by
 unfold tyB at h
 split at h
 ·
  rename_i d ti hd hti
  split at h
  ·
   rename_i z hz
   simp only[Bool.and_eq_true,Bool.or_eq_true] at h
   obtain ⟨⟨⟨⟨⟨h1,h2⟩,h3⟩,h4⟩,h5⟩,h6⟩:=h
   refine ⟨⟨d,hd,kindB_ok h1⟩,⟨ti,z,hti,Nat.eq_of_beq_eq_true h2,hz,areScal_eq h3,Nat.eq_of_beq_eq_true h4,List.all_eq_true.1 h5⟩,fun ha=>?_⟩
   rcases h6 with h6 | h6
   ·
    rw[ha] at h6;cases h6
   ·
    exact Nat.eq_of_beq_eq_true h6
  ·
   cases h
 ·
  cases h
def u8B (P:Program) (t:Nat):Bool :=
 match P.underlying t with
 | some (.slice e)=>(match P.underlying e,P.info? e with
  | some (.int k),some ie=>decide (k=.u8)&&Nat.beq ie.size 1
  | _,_=>false)
 | _=>false
theorem u8B_ok {P:Program} {t:Nat} (h:u8B P t=true):∃ e ie,P.underlying t=some (.slice e)∧P.underlying e=some (.int .u8)∧P.info? e=some ie∧ie.size=1:=by
 unfold u8B at h
 split at h
 ·
  rename_i e he
  split at h
  ·
   rename_i k ie h1 h2
   simp only[Bool.and_eq_true,decide_eq_true_eq] at h
   obtain ⟨rfl,h⟩:=h
   exact ⟨e,ie,he,h1,h2,Nat.eq_of_beq_eq_true h⟩
  ·
   cases h
 ·
  cases h
def codeOf (fn:Func):Code:=match fn.body with
 | some c=>c
 | none=>.skip
end Go.Zv
namespace Go.Zv
open Go
section
variable {P:Program} {G:Nat→Option (List V)} {S:Nat→Prop} {w:World}
theorem back_same {O:List Nat} {vs:List Value} {args:List V} {v:Value} {res:V} (hG:Given G S w vs args O) (hr:Rep S w v res []):∃ S' Or Oo,Back S w O vs v res (args.map fun _=>.ud) S' w Or Oo:=by
 have hu:∀ {vs:List Value} {args:List V},vs.length=args.length→Reps S w vs (args.map fun _=>V.ud) []:=by
  intro vs
  induction vs with
  | nil=>intro args h;cases args with
   | nil=>exact .nil
   | cons=>simp at h
  | cons v vs ih=>intro args h;cases args with
   | nil=>simp at h
   | cons x args=>simpa using Reps.cons (.ud v) (ih (by simpa using h))
 exact ⟨S,[],[],hr,hu hG.rep.len,by simp,by simp,Nat.le_refl _,fun _ h=>h,fun _ h=>.inl h,hG.low,fun _ _ _=>rfl,Same.refl _⟩
theorem does_extern {f : Nat} {fn : Func} {e : Array Value → Sem Value} {args : List V} {res : V} (hf : P.funcs[f]? = some fn) (hname : (fn.name == "runtime.NumGoroutine") = false)
  (hb:fn.body.isNone=true) (hn:Extern.findNext fn=none) (he:Extern.find fn=some e)
  (h:∀ (S:Nat→Prop) (w:World) (vs:List Value) (O:List Nat),Reps S w vs args O→∃ v,(e vs.toArray).run P w=.ok v w∧Rep S w v res []):Does P G f args res (args.map fun _=>.ud):=by
 intro S w vs O hG
 obtain ⟨v,h1,h2⟩:=h S w vs O hG.rep
 refine .inr ⟨v,w,?_,back_same hG h2⟩
 rw[run_callFunc_extern hf hname hb hn he,h1]
 rfl
theorem asBytes_cons {r:List V} {rest:List (List V)} {s:List UInt8} (h:asBytes (r::rest)=some s):∃ n s',r.getD 0 .ud=.int .u8 n∧asBytes rest=some s'∧s=UInt8.ofNat n.toNat::s':=by
 simp only[asBytes,Option.bind_eq_some_iff] at h
 obtain ⟨n,h1,s',h2,h3⟩:=h
 refine ⟨n,s',?_,h2,by simpa using h3.symm⟩
 generalize r.getD 0 .ud=v at h1
 cases v <;> simp only[asInt,reduceCtorEq] at h1
 split at h1
 ·
  rename_i hk;cases h1;rw[hk]
 ·
  cases h1
theorem run_loadBytes {b:Nat}:∀ {rows:List (List V)} {o:Nat} {O:List Nat} {s:List UInt8} {acc:ByteArray},(∀ r∈rows,r.length=1)→Mem S w b o rows.flatten O→asBytes rows=some s →
  (Extern.Bytes.loadBytes ⟨b,o,none⟩ rows.length acc).run P w=.ok ⟨acc.data++s.toArray⟩ w
 | [],o,O,s,acc,_,_,h=>by
  simp only[asBytes,Option.some.injEq] at h
  subst h
  simp[Extern.Bytes.loadBytes]
 | r::rest,o,O,s,acc,hl,hm,h=>by
  obtain ⟨n,s',h1,h2,rfl⟩:=asBytes_cons h
  have hr:r=[.int .u8 n]:=by
   have:=hl r (by simp)
   match r,this with
   | [x],_=>simpa using h1
  subst hr
  simp only[List.flatten_cons,List.cons_append,List.nil_append] at hm
  cases hm with
  | @cons _ _ v _ _ _ _ g1 g0 g2 g3 =>
   cases g2
   have ih:=run_loadBytes (acc:=acc.push n.toNat.toUInt8) (fun r hr=>hl r (by simp[hr])) g3 h2
   simp only[List.length_cons,Extern.Bytes.loadBytes,Sem.run_bind]
   have hload:(Go.load ⟨b,o,none⟩).run P w=.ok (.int .u8 n) w:=by
    unfold Go.load
    simp only[Sem.run,g1]
   rw[hload]
   simp only[Result.andThen_ok,add_none,ih]
   congr 1
   apply ByteArray.ext
   simp[ByteArray.push,Nat.toUInt8]
def bytesV?:V→Option (List UInt8)
 | .str s=>some s
 | .nilsl=>some []
 | .sl 1 _ rows=>asBytes rows
 | .own false 1 rows=>asBytes rows
 | _=>none
theorem run_bytesOf {v:Value} {x:V} {O:List Nat} {s:List UInt8} (h:Rep S w v x O) (hs:bytesV? x=some s):(Extern.Bytes.bytesOf v).run P w=.ok ⟨s.toArray⟩ w:=by
 have empty:∀ {a:Option Addr} {c:Nat},(Extern.Bytes.bytesOf (.slice a 0 c)).run P w=.ok ⟨#[]⟩ w:=fun {a c}=>by
  cases a <;> rfl
 unfold bytesV? at hs
 split at hs
 ·
  cases hs
  cases h
  simp[Extern.Bytes.bytesOf]
 ·
  cases hs
  cases h
  exact empty
 ·
  rename_i f rows
  generalize hk:(1:Nat)=k at h
  cases h with
  | sl0=>simp only[asBytes,Option.some.injEq] at hs;subst hs;exact empty
  | sl h1 h2 h3 h4 h5 h6 =>
   subst hk
   have:=run_loadBytes (P:=P) (acc:=.empty) h3 h6 hs
   simp only[Extern.Bytes.bytesOf]
   rw[this]
   congr 1
   apply ByteArray.ext
   show (#[]:Array UInt8)++s.toArray=s.toArray
   simp
 ·
  rename_i rows
  generalize hk:(1:Nat)=k at h
  cases h with
  | own0=>simp only[asBytes,Option.some.injEq] at hs;subst hs;exact empty
  | own h1 h2 h3 h4 h5 h6 =>
   subst hk
   have:=run_loadBytes (P:=P) (acc:=.empty) h2 h6 hs
   simp only[Extern.Bytes.bytesOf]
   rw[this]
   congr 1
   apply ByteArray.ext
   show (#[]:Array UInt8)++s.toArray=s.toArray
   simp
 ·
  cases hs
def cnt8 (c:UInt8):List UInt8→Nat
 | []=>0
 | x::xs=>cond (x==c) (cnt8 c xs+1) (cnt8 c xs)
theorem cnt8_eq (c:UInt8):∀ l:List UInt8,cnt8 c l=Lib.countByte l c
 | []=>rfl
 | x::xs=>by
  unfold cnt8 Lib.countByte
  rw[List.count_cons,cnt8_eq c xs]
  cases e:x==c <;> simp[Lib.countByte]
def idx8 (c:UInt8):List UInt8→Nat→Int
 | [],_=>-1
 | x::xs,i=>cond (x==c) i (idx8 c xs (i+1))
theorem indexByte_cons (c x:UInt8) (xs:List UInt8):Lib.indexByte (x::xs) c=if x==c then 0 else if Lib.indexByte xs c==-1 then -1 else Lib.indexByte xs c+1:=rfl
theorem idx8_eq (c:UInt8):∀ (l:List UInt8) (i:Nat),idx8 c l i=if Lib.indexByte l c=-1 then -1 else Lib.indexByte l c+i
 | [],i=>rfl
 | x::xs,i=>by
  have ih:=idx8_eq c xs (i+1)
  have hge:=Lib.indexByte_ge xs c
  have hc:=indexByte_cons c x xs
  generalize Lib.indexByte xs c=m at ih hge hc
  generalize Lib.indexByte (x::xs) c=q at hc ⊢
  unfold idx8
  rw[ih,hc]
  cases e:x==c with
  | true=>simp
  | false =>
   simp only[cond_false,Bool.false_eq_true,if_false,beq_iff_eq]
   by_cases h:m=-1
   ·
    simp[h]
   ·
    rw[if_neg h,if_neg h,if_neg (by omega)]
    omega
theorem idx8_zero (c:UInt8) (l:List UInt8):idx8 c l 0=Lib.indexByte l c:=by
 rw[idx8_eq]
 split
 ·
  rename_i h;exact h.symm
 ·
  simp
def primCount:List V→Option (V×List V)
 | [x,.int .u8 c]=>(bytesV? x).bind fun s=>some (.int .i64 (cnt8 c.toNat.toUInt8 s:Nat),[.ud,.ud])
 | _=>none
def primIndex:List V→Option (V×List V)
 | [x,.int .u8 c]=>(bytesV? x).bind fun s=>some (.int .i64 (idx8 c.toNat.toUInt8 s 0),[.ud,.ud])
 | _=>none
theorem two {vs:List Value} {x y:V} {O:List Nat} (h:Reps S w vs [x,y] O):∃ u v O1 O2,vs=[u,v]∧Rep S w u x O1∧Rep S w v y O2:=by
 cases h with
 | cons h1 h2=>cases h2 with
  | cons h2 h3=>cases h3 with
   | nil=>exact ⟨_,_,_,_,rfl,h1,h2⟩
theorem count_ok {f : Nat} {fn : Func} {args outs : List V} {res : V} (hf : P.funcs[f]? = some fn) (hname : (fn.name == "runtime.NumGoroutine") = false)
  (hb:fn.body.isNone=true) (hn:Extern.findNext fn=none) (he:Extern.find fn=some Extern.BytealgCount.count) (h:primCount args=some (res,outs)):Does P G f args res outs:=by
 unfold primCount at h
 split at h
 ·
  rename_i x c
  simp only[Option.bind_eq_some_iff,Option.some.injEq,Prod.mk.injEq] at h
  obtain ⟨s,hs,rfl,rfl⟩:=h
  refine does_extern hf hname hb hn he fun S w vs O hr=>?_
  obtain ⟨u,v,O1,O2,rfl,h1,h2⟩:=two hr
  cases h2
  refine ⟨_,?_,.int _ _⟩
  have hs':=Lib.run_countString (P:=P) ⟨s.toArray⟩ c w
  rw[cnt8_eq]
  change Sem.run P (do
   let b ←Extern.Bytes.bytesOf u
   let c' ←Extern.Bytes.asByte (.int .u8 c)
   pure (goInt (b.foldl (fun n x=>if x==c' then n+1 else n) (0:Nat)))) w=_
  change Sem.run P (do
   let b ←Extern.Bytes.bytesOf (.string ⟨s.toArray⟩)
   let c' ←Extern.Bytes.asByte (.int .u8 c)
   pure (goInt (b.foldl (fun n x=>if x==c' then n+1 else n) (0:Nat)))) w=_ at hs'
  rw[Sem.run_bind,run_bytesOf h1 hs]
  simpa only[Extern.Bytes.bytesOf,Sem.run_bind,Sem.run_pure,Result.andThen_ok] using hs'
 ·
  cases h
theorem index_ok {f : Nat} {fn : Func} {args outs : List V} {res : V} (hf : P.funcs[f]? = some fn) (hname : (fn.name == "runtime.NumGoroutine") = false)
  (hb:fn.body.isNone=true) (hn:Extern.findNext fn=none) (he:Extern.find fn=some Extern.BytealgIndexByte.indexByte) (h:primIndex args=some (res,outs)):Does P G f args res outs:=by
 unfold primIndex at h
 split at h
 ·
  rename_i x c
  simp only[Option.bind_eq_some_iff,Option.some.injEq,Prod.mk.injEq] at h
  obtain ⟨s,hs,rfl,rfl⟩:=h
  refine does_extern hf hname hb hn he fun S w vs O hr=>?_
  obtain ⟨u,v,O1,O2,rfl,h1,h2⟩:=two hr
  cases h2
  refine ⟨_,?_,.int _ _⟩
  have hs':=Lib.run_indexByteString (P:=P) ⟨s.toArray⟩ c w
  rw[idx8_zero]
  change Sem.run P (do
   let b ←Extern.Bytes.bytesOf u
   let c ←Extern.Bytes.asByte (.int .u8 c)
   match (List.range b.size).find? fun i=>b[i]! == c with
   | some i=>pure (goInt i)
   | none=>pure (goInt (-1))) w=_
  change Sem.run P (do
   let b ←Extern.Bytes.bytesOf (.string ⟨s.toArray⟩)
   let c ←Extern.Bytes.asByte (.int .u8 c)
   match (List.range b.size).find? fun i=>b[i]! == c with
   | some i=>pure (goInt i)
   | none=>pure (goInt (-1))) w=_ at hs'
  rw[Sem.run_bind,run_bytesOf h1 hs]
  rw[Sem.run_bind] at hs'
  simpa only[Extern.Bytes.bytesOf,Sem.run_pure,Result.andThen_ok] using hs'
 ·
  cases h
end
end Go.Zv
namespace Go.Zv
open Go Go.RowKit
section
variable {P:Program} {G:Nat→Option (List V)} {S:Nat→Prop} {w w':World}
theorem flat_single {α:Type} (f:α→V):∀ l:List α,(l.map fun s=>[f s]).flatten=l.map f
 | []=>rfl
 | x::l=>by simp only[List.map_cons,List.flatten_cons,flat_single f l];rfl
theorem undefs:∀ {vs:List Value} {args:List V},vs.length=args.length→Reps S w vs (args.map fun _=>V.ud) []
 | [],[],_=>.nil
 | v::vs,x::args,h=>by simpa using Reps.cons (.ud v) (undefs (vs:=vs) (args:=args) (by simpa using h))
 | [],_::_,h=>by simp at h
 | _::_,[],h=>by simp at h
theorem back_below {O Or:List Nat} {vs:List Value} {args:List V} {v:Value} {res:V} (hG:Given G S w vs args O) (hb:Below w.heap.size w w') (hr:Rep S w' v res Or) (hn:Or.Nodup) (hnew:∀ b∈Or,w.heap.size≤b) :
  ∃ S' Or Oo,Back S w O vs v res (args.map fun _=>.ud) S' w' Or Oo :=
 ⟨S,Or,[],hr,undefs hG.rep.len,by simpa using hn,fun b hb'=>by
  simp only[List.append_nil] at hb'
  exact ⟨fun hs=>absurd (hG.low b hs) (Nat.not_lt.2 (hnew b hb')),.inr (hnew b hb')⟩,hb.size,fun _ h=>h,fun _ h=>.inl h,fun b h=>Nat.lt_of_lt_of_le (hG.low b h) hb.size,fun b hlt _=>hb.block b hlt,⟨hb.os,hb.tape,hb.output⟩⟩
theorem does_calls {f:Nat} {args:List V} {res:V} (he:∀ (vs:Array Value) (w:World),(callFunc f vs).run P w=.ok (.enter f vs) w)
  (h:∀ (S:Nat→Prop) (w:World) (vs:List Value) (O:List Nat),Given G S w vs args O→Calls P f vs.toArray w fun e w'=>∃ v Or,e=.returned v∧Below w.heap.size w w'∧Rep S w' v res Or∧Or.Nodup∧∀ b∈Or,w.heap.size≤b) :
  Does P G f args res (args.map fun _=>.ud):=by
 intro S w vs O hG
 refine .inl ⟨he _ _,(h S w vs O hG).mono fun e w' ⟨v,Or,h1,h2,h3,h4,h5⟩=>⟨v,h1,?_⟩⟩
 exact back_below hG h2 h3 h4 h5
theorem own_of_row {B e k n:Nat} {v:Value} {xs:List Value} {rows:List (List V)} (hk:0<k) (h:w'.ownsRow B e k v n xs) (hl:rows.length=n) (hun:∀ r∈rows,r.length=k) (hr:Reps S w' xs rows.flatten []) (h1:∀ x∈xs,x.oneCell'=true) :
  ∃ O,Rep S w' v (.own false k rows) O∧O.Nodup∧∀ b∈O,B≤b:=by
 obtain ⟨hxl,h⟩:=h
 rcases h with ⟨rfl,rfl⟩ | ⟨g,cap,cur,rfl,hB,hheap,hcap,_,hsz,hcur⟩
 ·
  have:rows=[]:=List.eq_nil_of_length_eq_zero hl
  subst this
  exact ⟨[],.own0 _ _ _,by simp,by simp⟩
 ·
  subst hl
  refine ⟨[g],.own hk hun ⟨cur,e,0,0,hheap,by rw[hsz];simp,.inl rfl⟩ hcap (fun _=>rfl) ?_,by simp,by simp[hB]⟩
  refine Mem.fresh hr h1 fun j hj=>?_
  rw[Nat.zero_add]
  have hjc:j<cur.size:=by rw[hsz];rw[hxl] at hj;exact Nat.lt_of_lt_of_le hj (Nat.mul_le_mul_right k hcap)
  have:xs[j]?=some cur[j]:=by
   rw[←hcur,List.getElem?_take,if_pos (by rw[hxl] at hj;exact hj)]
   simp[hjc]
  rw[List.getD_eq_getElem?_getD,this]
  simp[World.cell?,hheap,hjc]
def strs:List (List V)→Option (List (List UInt8))
 | []=>some []
 | r::rest=>match r with
  | [.str s]=>(strs rest).bind fun l=>some (s::l)
  | _=>none
def rowsOf:V→Option (List (List V))
 | .sl 1 _ rows=>some rows
 | .own false 1 rows=>some rows
 | .nilsl=>some []
 | _=>none
theorem strs_rows:∀ {rows:List (List V)} {l:List (List UInt8)},strs rows=some l→rows=l.map fun s=>[.str s]
 | [],l,h=>by simp only[strs,Option.some.injEq] at h;subst h;rfl
 | r::rest,l,h=>by
  simp only[strs] at h
  split at h
  ·
   rename_i s
   simp only[Option.bind_eq_some_iff,Option.some.injEq] at h
   obtain ⟨l',h1,rfl⟩:=h
   rw[strs_rows h1];rfl
  ·
   cases h
theorem rowsOf_rep {x:V} {rows:List (List V)} {v:Value} {O:List Nat} (h:Rep S w v x O) (hx:rowsOf x=some rows) (hS:∀ b,S b→b<w.heap.size) :
  (rows=[]∧∃ a c,v=.slice a 0 c)∨(rows≠[]∧∃ b o c,v=.slice (some ⟨b,o,none⟩) rows.length c∧rows.length≤c∧b<w.heap.size∧(∀ r∈rows,r.length=1)∧Mem S w b o rows.flatten []):=by
 unfold rowsOf at hx
 split at hx
 ·
  cases hx
  generalize hk:(1:Nat)=k at h
  cases h with
  | sl0=>exact .inl ⟨rfl,_,_,rfl⟩
  | sl h1 h2 h3 h4 h5 h6=>subst hk;exact .inr ⟨h2,_,_,_,rfl,h5.1,hS _ h4,h3,h6⟩
 ·
  cases hx
  generalize hk:(1:Nat)=k at h
  cases h with
  | own0=>exact .inl ⟨rfl,_,_,rfl⟩
  | @own b o c _ _ rows O h1 h2 h3 h4 h5 h6 =>
   subst hk
   by_cases hr:rows=[]
   ·
    subst hr;exact .inl ⟨rfl,_,_,rfl⟩
   ·
    have:=h5 rfl
    subst this
    obtain ⟨cs,e,lo,hi,g1,g2⟩:=h3
    exact .inr ⟨hr,_,_,_,rfl,h4,lt_of_some g1,h2,h6⟩
 ·
  cases hx
  cases h
  exact .inl ⟨rfl,_,_,rfl⟩
 ·
  cases hx
theorem mem_strs {b o:Nat} {l:List (List UInt8)} (h:Mem S w b o (l.map fun s=>[V.str s]).flatten []):∀ j s,l[j]?=some s→w.cell? ⟨b,o+j,none⟩=some (.string ⟨s.toArray⟩):=by
 intro j s hj
 have hlt:j<l.length:=(List.getElem?_eq_some_iff.1 hj).1
 have e:(l.map fun s=>[V.str s]).flatten=l.map V.str:=flat_single _ l
 rw[e] at h
 obtain ⟨O1,O2,O3,v,_,hc,hr,_,_,_⟩:=h.at (j:=j) (by simpa using hlt)
 rw[hc]
 have:(l.map V.str).getD j .ud=.str s:=by simp[List.getD_eq_getElem?_getD,hj]
 rw[this] at hr
 cases hr with
 | str s'=>rfl
def joinL:List (List UInt8)→List UInt8→List UInt8
 | [],_=>[]
 | [x],_=>x
 | x::y::rest,sep=>x++(sep++joinL (y::rest) sep)
theorem joinL_eq:∀ (l:List (List UInt8)) (sep:List UInt8),joinL l sep=Lib.join l sep
 | [],sep=>by simp[joinL,Lib.join_nil]
 | [x],sep=>by simp[joinL,Lib.join_one]
 | x::y::rest,sep=>by
  rw[joinL,joinL_eq (y::rest) sep,Lib.join_cons,Lib.join_cons]
  simp[Lib.joinTail]
def primJoin:List V→Option (V×List V)
 | [x,.str sep]=>(rowsOf x).bind fun rows=>(strs rows).bind fun l =>
   if l.length≤lim∧(joinL l sep).length≤lim then some (.str (joinL l sep),[.ud,.ud]) else none
 | _=>none
theorem join_ok {f:Nat} {args outs:List V} {res:V} (he:∀ (vs:Array Value) (w:World),(callFunc f vs).run P w=.ok (.enter f vs) w)
  (h0:∀ (a:Option Addr) (c:Nat) (sep:ByteArray) (w:World),Calls P f #[.slice a 0 c,.string sep] w fun e w'=>e=.returned (.string ⟨#[]⟩)∧w'=w)
  (h1:∀ (bk o c:Nat) (xs:List ByteArray) (sep:ByteArray) (w:World),(∀ (j:Nat) x,xs[j]?=some x→w.cell? ⟨bk,o+j,none⟩=some (.string x))→bk<w.heap.size→xs.length≤140737488355328→xs.length≤c →
   (Lib.join (xs.map (·.data.toList)) sep.data.toList).length≤140737488355328 →
   Calls P f #[.slice (some ⟨bk,o,none⟩) xs.length c,.string sep] w fun e w'=>e=.returned (.string ⟨(Lib.join (xs.map (·.data.toList)) sep.data.toList).toArray⟩)∧Below w.heap.size w w')
  (h:primJoin args=some (res,outs)):Does P G f args res outs:=by
 unfold primJoin at h
 split at h
 ·
  rename_i x sep
  simp only[Option.bind_eq_some_iff] at h
  obtain ⟨rows,hx,l,hl,h⟩:=h
  split at h
  ·
   rename_i hle
   simp only[Option.some.injEq,Prod.mk.injEq] at h
   obtain ⟨rfl,rfl⟩:=h
   refine does_calls he fun S w vs O hG=>?_
   obtain ⟨u,v,O1,O2,rfl,r1,r2⟩:=two hG.rep
   cases r2 with
   | str sepb =>
   have hrows:=strs_rows hl
   rcases rowsOf_rep r1 hx hG.low with ⟨e0,a,c,rfl⟩ | ⟨hne,b,o,c,rfl,g1,g2,g3,g4⟩
   ·
    subst e0
    have:l=[]:=by cases l with
     | nil=>rfl
     | cons=>simp at hrows
    subst this
    refine (h0 a c sepb w).mono fun e w' ⟨h2,h3⟩=>?_
    subst h3
    exact ⟨_,[],h2,Below.refl _ _,.str ⟨#[]⟩,by simp,by simp⟩
   ·
    subst hrows
    have hlen:(l.map fun s=>[V.str s]).length=(l.map fun s=>(⟨s.toArray⟩:ByteArray)).length:=by simp
    rw[hlen]
    have hm:(l.map fun s=>(⟨s.toArray⟩:ByteArray)).map (·.data.toList)=l:=by
     rw[List.map_map]
     conv=>rhs;rw[←List.map_id l]
     rfl
    have hc:=h1 b o c (l.map fun s=>(⟨s.toArray⟩:ByteArray)) sepb w (fun j y hj=>by
     rw[List.getElem?_map,Option.map_eq_some_iff] at hj
     obtain ⟨s,hs,rfl⟩:=hj
     exact mem_strs g4 j s hs) g2 (by simp;have:=hle.1;unfold lim at this;omega) (by simpa using g1) (by
     rw[hm,←joinL_eq];have:=hle.2;unfold lim at this;omega)
    rw[hm,←joinL_eq] at hc
    refine hc.mono fun e w' ⟨h2,h3⟩=>⟨_,[],h2,h3,?_,by simp,by simp⟩
    simpa using Rep.str (S:=S) (w:=w') ⟨(joinL l sepb.data.toList).toArray⟩
  ·
   cases h
 ·
  cases h
theorem one {vs:List Value} {x:V} {O:List Nat} (h:Reps S w vs [x] O):∃ u O1,vs=[u]∧Rep S w u x O1:=by
 cases h with
 | cons h1 h2=>cases h2 with
  | nil=>exact ⟨_,_,rfl,h1⟩
def primCloneS:List V→Option (V×List V)
 | [x]=>(rowsOf x).bind fun rows=>(strs rows).bind fun l=>if l.length≤lim then some (.own false 1 rows,[.ud]) else none
 | _=>none
theorem strs_reps (l:List (List UInt8)):Reps S w (l.map fun s=>Value.string ⟨s.toArray⟩) (l.map fun s=>[V.str s]).flatten []:=by
 have e:(l.map fun s=>[V.str s]).flatten=l.map V.str:=flat_single _ l
 rw[e]
 induction l with
 | nil=>exact .nil
 | cons s l ih =>
  have h1:Rep S w (.string ⟨s.toArray⟩) (.str s) []:=by simpa using Rep.str (S:=S) (w:=w) ⟨s.toArray⟩
  simpa using Reps.cons h1 (ih (flat_single _ l))
theorem cloneS_ok {f ty:Nat} {args outs:List V} {res:V} (he:∀ (vs:Array Value) (w:World),(callFunc f vs).run P w=.ok (.enter f vs) w)
  (h0:∀ (n c:Nat) (w:World),Calls P f #[.slice none n c] w fun e w'=>e=.returned (.slice none 0 0)∧w'=w)
  (h1:∀ (a:Addr) (c:Nat) (w:World),Calls P f #[.slice (some a) 0 c] w fun e w'=>∃ v',e=.returned v'∧w'.ownsRow w.heap.size ty 1 v' 0 []∧v'≠.slice none 0 0∧Below w.heap.size w w')
  (h2:∀ (b off n c:Nat) (zs:List ByteArray) (w:World),n≤zs.length→n*16≤140737488355328→(∀ j,j<zs.length→w.cell? ⟨b,off+j,none⟩=some (.string (zs.getD j ByteArray.empty))) →
   Calls P f #[.slice (some ⟨b,off,none⟩) n c] w fun e w'=>∃ v',e=.returned v'∧w'.ownsRow w.heap.size ty 1 v' n ((zs.take n).map (Value.string))∧v'≠.slice none 0 0∧Below w.heap.size w w')
  (h:primCloneS args=some (res,outs)):Does P G f args res outs:=by
 unfold primCloneS at h
 split at h
 ·
  rename_i x
  simp only[Option.bind_eq_some_iff] at h
  obtain ⟨rows,hx,l,hl,h⟩:=h
  split at h
  ·
   rename_i hle
   simp only[Option.some.injEq,Prod.mk.injEq] at h
   obtain ⟨rfl,rfl⟩:=h
   refine does_calls he fun S w vs O hG=>?_
   obtain ⟨u,O1,rfl,r1⟩:=one hG.rep
   have hrows:=strs_rows hl
   rcases rowsOf_rep r1 hx hG.low with ⟨e0,a,c,rfl⟩ | ⟨hne,b,o,c,rfl,g1,g2,g3,g4⟩
   ·
    subst e0
    cases a with
    | none =>
     refine (h0 0 c w).mono fun e w' ⟨h2,h3⟩=>?_
     subst h3
     exact ⟨_,[],h2,Below.refl _ _,.own0 _ _ _,by simp,by simp⟩
    | some a =>
     refine (h1 a c w).mono fun e w' ⟨v',h2,h3,_,h4⟩=>?_
     obtain ⟨O,k1,k2,k3⟩:=own_of_row (S:=S) (rows:=[]) (by decide) h3 rfl (by simp) .nil (by simp)
     exact ⟨v',O,h2,h4,k1,k2,k3⟩
   ·
    subst hrows
    have hlen:(l.map fun s=>[V.str s]).length=l.length:=by simp
    rw[hlen]
    have hc:=h2 b o l.length c (l.map fun s=>(⟨s.toArray⟩:ByteArray)) w (by simp) (by have:=hle;unfold lim at this;omega) (fun j hj=>by
     have hj':j<l.length:=by simpa using hj
     rw[mem_strs g4 j l[j] (by simp[hj'])]
     simp[List.getD_eq_getElem?_getD,hj'])
    refine hc.mono fun e w' ⟨v',h2,h3,_,h4⟩=>?_
    have e:((l.map fun s=>(⟨s.toArray⟩:ByteArray)).take l.length).map Value.string=l.map fun s=>Value.string ⟨s.toArray⟩:=by
     rw[List.take_of_length_le (by simp),List.map_map];rfl
    rw[e] at h3
    obtain ⟨O,k1,k2,k3⟩:=own_of_row (S:=S) (rows:=l.map fun s=>[V.str s]) (by decide) h3 (by simp) (by simp) (strs_reps l) (by intro x hx;obtain ⟨s,_,rfl⟩:=List.mem_map.1 hx;rfl)
    exact ⟨v',O,h2,h4,k1,k2,k3⟩
  ·
   cases h
 ·
  cases h
def ints?:List (List V)→Option (List Int)
 | []=>some []
 | r::rest=>match r with
  | [.int .u8 n]=>(ints? rest).bind fun l=>some (n::l)
  | _=>none
theorem ints_rows:∀ {rows:List (List V)} {l:List Int},ints? rows=some l→rows=l.map fun n=>[.int .u8 n]
 | [],l,h=>by simp only[ints?,Option.some.injEq] at h;subst h;rfl
 | r::rest,l,h=>by
  simp only[ints?] at h
  split at h
  ·
   rename_i s
   simp only[Option.bind_eq_some_iff,Option.some.injEq] at h
   obtain ⟨l',h1,rfl⟩:=h
   rw[ints_rows h1];rfl
  ·
   cases h
def primCloneB:List V→Option (V×List V)
 | [x]=>(rowsOf x).bind fun rows=>(ints? rows).bind fun l=>if l.length≤lim then some (.own false 1 rows,[.ud]) else none
 | _=>none
theorem ints_reps (l:List Int):Reps S w (l.map (Value.int .u8)) (l.map fun n=>[V.int .u8 n]).flatten []:=by
 have e:(l.map fun n=>[V.int .u8 n]).flatten=l.map (V.int .u8):=flat_single _ l
 rw[e]
 induction l with
 | nil=>exact .nil
 | cons s l ih=>simpa using Reps.cons (Rep.int (S:=S) (w:=w) .u8 s) (ih (flat_single _ l))
theorem mem_ints {b o:Nat} {l:List Int} (h:Mem S w b o (l.map fun n=>[V.int .u8 n]).flatten []):∀ j,j<l.length→w.cell? ⟨b,o+j,none⟩=some (.int .u8 (l.getD j 0)):=by
 intro j hlt
 have e:(l.map fun n=>[V.int .u8 n]).flatten=l.map (V.int .u8):=flat_single _ l
 rw[e] at h
 obtain ⟨O1,O2,O3,v,_,hc,hr,_,_,_⟩:=h.at (j:=j) (by simpa using hlt)
 rw[hc]
 have:(l.map (V.int .u8)).getD j .ud=.int .u8 l[j]:=by simp[List.getD_eq_getElem?_getD,hlt]
 rw[this] at hr
 cases hr
 simp[List.getD_eq_getElem?_getD,hlt]
theorem cloneB_ok {f ty:Nat} {args outs:List V} {res:V} (he:∀ (vs:Array Value) (w:World),(callFunc f vs).run P w=.ok (.enter f vs) w)
  (h0:∀ (n c:Nat) (w:World),Calls P f #[.slice none n c] w fun e w'=>e=.returned (.slice none 0 0)∧w'=w)
  (h2:∀ (a:Addr) (n c:Nat) (xs:List Int) (w:World),xs.length=n→n≤lim→(∀ i,i<n→w.cell? (a.add i)=some (.int .u8 (xs.getD i 0))) →
   Calls P f #[.slice (some a) n c] w fun e w'=>∃ v',e=.returned v'∧w'.ownsRow w.heap.size ty 1 v' n (xs.map (Value.int .u8))∧v'≠.slice none 0 0∧Below w.heap.size w w')
  (h:primCloneB args=some (res,outs)):Does P G f args res outs:=by
 unfold primCloneB at h
 split at h
 ·
  rename_i x
  simp only[Option.bind_eq_some_iff] at h
  obtain ⟨rows,hx,l,hl,h⟩:=h
  split at h
  ·
   rename_i hle
   simp only[Option.some.injEq,Prod.mk.injEq] at h
   obtain ⟨rfl,rfl⟩:=h
   refine does_calls he fun S w vs O hG=>?_
   obtain ⟨u,O1,rfl,r1⟩:=one hG.rep
   have hrows:=ints_rows hl
   rcases rowsOf_rep r1 hx hG.low with ⟨e0,a,c,rfl⟩ | ⟨hne,b,o,c,rfl,g1,g2,g3,g4⟩
   ·
    subst e0
    cases a with
    | none =>
     refine (h0 0 c w).mono fun e w' ⟨h2,h3⟩=>?_
     subst h3
     exact ⟨_,[],h2,Below.refl _ _,.own0 _ _ _,by simp,by simp⟩
    | some a =>
     refine (h2 a 0 c [] w rfl (Nat.zero_le _) (by simp)).mono fun e w' ⟨v',h2,h3,_,h4⟩=>?_
     obtain ⟨O,k1,k2,k3⟩:=own_of_row (S:=S) (rows:=[]) (by decide) h3 rfl (by simp) .nil (by simp)
     exact ⟨v',O,h2,h4,k1,k2,k3⟩
   ·
    subst hrows
    have hlen:(l.map fun s=>[V.int .u8 s]).length=l.length:=by simp
    rw[hlen]
    have hc:=h2 ⟨b,o,none⟩ l.length c l w rfl hle (fun j hj=>by rw[add_none];exact mem_ints g4 j hj)
    refine hc.mono fun e w' ⟨v',h2,h3,_,h4⟩=>?_
    obtain ⟨O,k1,k2,k3⟩:=own_of_row (S:=S) (rows:=l.map fun s=>[V.int .u8 s]) (by decide) h3 (by simp) (by simp) (ints_reps l) (by intro x hx;obtain ⟨s,_,rfl⟩:=List.mem_map.1 hx;rfl)
    exact ⟨v',O,h2,h4,k1,k2,k3⟩
  ·
   cases h
 ·
  cases h
end
end Go.Zv
namespace Go.Zv
open Go Go.RowKit
section
variable {P:Program} {G:Nat→Option (List V)} {S:Nat→Prop} {w w':World}
def At (w:World) (b o:Nat) (l:List Value):Prop:=∀ j,j<l.length→w.cell? ⟨b,o+j,none⟩=some (l.getD j undef)
theorem At.nil {b o:Nat}:At w b o []:=fun j hj=>by simp at hj
theorem At.append {b o:Nat} {l1 l2:List Value} (h1:At w b o l1) (h2:At w b (o+l1.length) l2):At w b o (l1++l2):=by
 intro j hj
 rw[List.length_append] at hj
 by_cases h:j<l1.length
 ·
  rw[h1 j h]
  simp[List.getD_eq_getElem?_getD,List.getElem?_append_left h]
 ·
  have:=h2 (j-l1.length) (by omega)
  rw[show o+l1.length+(j-l1.length)=o+j by omega] at this
  rw[this]
  simp[List.getD_eq_getElem?_getD,List.getElem?_append_right (Nat.le_of_not_lt h)]
theorem At.take {b o n:Nat} {l:List Value} (h:At w b o l):At w b o (l.take n):=by
 intro j hj
 rw[List.length_take] at hj
 rw[h j (by omega)]
 simp[List.getD_eq_getElem?_getD,List.getElem?_take,show j<n by omega]
theorem At.drop {b o n:Nat} {l:List Value} (h:At w b o l):At w b (o+n) (l.drop n):=by
 intro j hj
 rw[List.length_drop] at hj
 rw[Nat.add_assoc,h (n+j) (by omega)]
 simp[List.getD_eq_getElem?_getD,List.getElem?_drop]
theorem At.beside {b o b' o':Nat} {l vs:List Value} (h:At w b o l) (hp:Poked w w' b' o' vs) (hd:b≠b'∨o+l.length≤o'∨o'+vs.length≤o):At w' b o l:=by
 intro j hj
 rw[←h j hj]
 by_cases hb:b=b'
 ·
  subst hb
  refine hp.beside _ ?_
  rcases hd with hd | hd | hd
  ·
   exact absurd rfl hd
  ·
   exact .inl (by omega)
  ·
   exact .inr (by omega)
 ·
  exact cell?_of_heap (hp.other b hb)
theorem At.inside {b o:Nat} {vs:List Value} (hp:Poked w w' b o vs):At w' b o vs:=hp.inside
theorem At.of_heap {b o:Nat} {l:List Value} (h:At w b o l) (hh:w'.heap[b]?=w.heap[b]?):At w' b o l:=fun j hj=>by rw[cell?_of_heap hh];exact h j hj
theorem At.get {b o:Nat} {l:List Value} (h:At w b o l):∀ j v,l[j]?=some v→w.cell? ⟨b,o+j,none⟩=some v:=fun j v hj=>by
 rw[h j (List.getElem?_eq_some_iff.1 hj).1,List.getD_eq_getElem?_getD,hj];rfl
theorem Poked.drew {b o:Nat} {vs:List Value} (hp:Poked w w' b o vs):Poked w w'.drew b o vs:=⟨hp.size,hp.other,hp.inside,hp.beside,hp.row,⟨hp.out.1,hp.out.2,hp.out.3⟩⟩
theorem Reps.take0 {n:Nat}:∀ {vs:List Value} {xs:List V},Reps S w vs xs []→Reps S w (vs.take n) (xs.take n) []:=by
 induction n with
 | zero=>intro vs xs _;simp;exact .nil
 | succ n ih =>
  intro vs xs h
  generalize hO:([]:List Nat)=O at h
  cases h with
  | nil=>simp;exact .nil
  | cons h1 h2 =>
   obtain ⟨rfl,rfl⟩:=List.append_eq_nil_iff.1 hO.symm
   simpa using Reps.cons h1 (ih h2)
theorem Reps.drop0 {n:Nat}:∀ {vs:List Value} {xs:List V},Reps S w vs xs []→Reps S w (vs.drop n) (xs.drop n) []:=by
 induction n with
 | zero=>intro vs xs h;simpa using h
 | succ n ih =>
  intro vs xs h
  generalize hO:([]:List Nat)=O at h
  cases h with
  | nil=>simp;exact .nil
  | cons h1 h2 =>
   obtain ⟨rfl,rfl⟩:=List.append_eq_nil_iff.1 hO.symm
   simpa using ih h2
structure RowTy (P:Program) (t e k:Nat) (ti:TypeInfo) (z:Value):Prop where
 under:P.underlying t=some (.slice e)
 info:P.info? e=some ti
 zero:ti.zero=some z
 size:ti.size=k
 cells:z.cells.size=k
 one:∀ c∈z.cells.toList,c.oneCell'=true
 bytes:ti.bytes≤65536
end
end Go.Zv
namespace Go.Zv
open Go Go.RowKit
section
variable {P:Program} {G:Nat→Option (List V)} {S:Nat→Prop} {w w':World}
theorem At.left {b o:Nat} {l1 l2:List Value} (h:At w b o (l1++l2)):At w b o l1:=fun j hj=>by
 rw[h j (by rw[List.length_append];omega)]
 simp[List.getD_eq_getElem?_getD,List.getElem?_append_left hj]
end
end Go.Zv
namespace Go.Zv
open Go
structure Ent where
 args:List V
 res:V
 outs:List V
end Go.Zv
namespace Go.Zv
open Go
section
variable {R:Type}
theorem mask_mask (ks:List Nat) (v:V):mask ks (mask ks v)=mask ks v:=by
 unfold mask
 cases e:rootIn ks v with
 | true=>simp[e]
 | false=>simp[rootIn,rootIn1]
theorem keepGo_keepGo (ks:List Nat):∀ (i:Nat) (xs:List V),keepGo ks i (keepGo ks i xs)=keepGo ks i xs
 | _,[]=>rfl
 | i,x::xs=>by
  simp only[keepGo]
  rw[keepGo_keepGo ks (i+1) xs]
  cases e:ks.contains i with
  | true=>simp only[cond_true,mask_mask]
  | false=>rfl
theorem keepOnly_keepOnly (ks:List Nat) (σ:List V):keepOnly ks (keepOnly ks σ)=keepOnly ks σ:=keepGo_keepGo ks 0 σ
def headReg:Code→Option Nat
 | .region id _ _=>some id
 | .seq a _=>headReg a
 | .block _ x=>headReg x
 | .scope x=>headReg x
 | _=>none
theorem runC_keep {E:Env} {L:Code→List V→(XE→List V→Option R)→Option R} {ks:List Nat}:∀ {x:Code} {id:Nat} {σ:List V} {K:XE→List V→Option R},headReg x=some id→E.keep id=some ks→runC E L x σ K=runC E L x (keepOnly ks σ) K
 | .region id ops d,id',σ,K,h,hk=>by
  simp only[headReg,Option.some.injEq] at h
  subst h
  simp only[runC,hk,keepOnly_keepOnly]
 | .seq a b,id,σ,K,h,hk=>by
  simp only[runC]
  exact runC_keep (x:=a) h hk
 | .block i x,id,σ,K,h,hk=>by
  simp only[runC]
  exact runC_keep (x:=x) h hk
 | .scope x,id,σ,K,h,hk=>by
  simp only[runC]
  exact runC_keep (x:=x) h hk
end
section
variable {R:Type} {E:Env} {L:Code→List V→(XE→List V→Option R)→Option R} {r:R} {K:XE→List V→Option R} {σ:List V}
theorem seq_rule {a b:Code} (h:∀ K1:XE→List V→Option R,(∀ σ',K1 .normal σ'=runC E L b σ' K)→(∀ i σ',K1 (.exit i) σ'=K (.exit i) σ')→(∀ σ',K1 .ret σ'=K .ret σ')→runC E L a σ K1=some r):runC E L (.seq a b) σ K=some r:=by
 simp only[runC]
 exact h _ (fun _=>rfl) (fun _ _=>rfl) (fun _=>rfl)
theorem bR {id:Nat} {x:Code} (h:∀ K1:XE→List V→Option R,(∀ σ',K1 .normal σ'=K .normal σ')→(∀ σ',K1 (.exit id) σ'=K .normal σ')→(∀ i σ',i≠id→K1 (.exit i) σ'=K (.exit i) σ')→(∀ σ',K1 .ret σ'=K .ret σ')→runC E L x σ K1=some r):runC E L (.block id x) σ K=some r:=by
 simp only[runC]
 refine h _ (fun _=>rfl) (fun _=>by simp) (fun i _ hi=>by simp[hi]) (fun _=>rfl)
theorem gR {id:Nat} {ops:Array Oper} {d:Bool} {l:List Oper} (hp:E.plan id=none) (hk:E.keep id=none) (hl:ops.toList=l) (h:∀ k1:List V→Option R,(∀ σ',k1 σ'=K .normal σ')→runOps E ops l σ k1=some r):runC E L (.region id ops d) σ K=some r:=by
 simp only[runC,hp,hk,hl]
 exact h _ fun _=>rfl
theorem region_keep {id:Nat} {ops:Array Oper} {d:Bool} {l:List Oper} {ks:List Nat} {σ1:List V} (hp:E.plan id=none) (hk:E.keep id=some ks) (hs:keepOnly ks σ=σ1) (hl:ops.toList=l) (h:∀ k1:List V→Option R,(∀ σ',k1 σ'=K .normal σ')→runOps E ops l σ1 k1=some r):runC E L (.region id ops d) σ K=some r:=by
 simp only[runC,hp,hk,hl,forceL_eq,hs]
 exact h _ fun _=>rfl
theorem cR {c:Operand} {x y:Code} {b:Bool} (hb:opnd E σ c=.bool b) (ht:b=true→runC E L x σ K=some r) (hf:b=false→runC E L y σ K=some r):runC E L (.cond c x y) σ K=some r:=by
 simp only[runC,hb]
 cases b with
 | true=>simpa using ht rfl
 | false=>simpa using hf rfl
theorem kR (h:K .normal σ=some r):runC E L .skip σ K=some r:=h
theorem exit_rule {i:Nat} (h:K (.exit i) σ=some r):runC E L (.exit i) σ K=some r:=h
theorem tR (h:K .ret σ=some r):runC E L .ret σ K=some r:=h
theorem loop_rule {x:Code} (h:L x σ K=some r):runC E L (.loop x) σ K=some r:=h
end
theorem op_rule {R:Type} {E:Env} {all:Array Oper} {o:Oper} {rest:List Oper} {σ:List V} {K:List V→Option R} {r:R} (h:∀ k1:List V→Option R,(∀ σ',k1 σ'=runOps E all rest σ' K)→gstep E all o σ k1=some r):runOps E all (o::rest) σ K=some r:=h _ fun _=>rfl
section
variable {R:Type} {E:Env} {L:Code→List V→(XE→List V→Option R)→Option R} {r:R} {K:XE→List V→Option R} {σ:List V}
theorem region_plan {id:Nat} {ops:Array Oper} {d:Bool} {pl:Plan} (hp:E.plan id=some pl) (hk:E.keep id=none) (h:∀ k1:List V→Option R,(∀ σ1,k1 σ1=(runSteps E ops pl.steps σ1).bind fun σ2=>runIdx E ops pl.tail σ2 (K .normal))→runIdx E ops pl.first σ k1=some r):runC E L (.region id ops d) σ K=some r:=by
 simp only[runC,hp,hk,forceL_eq]
 exact h _ fun _=>rfl
theorem idx_rule {ops:Array Oper} {o:Oper} {i:Nat} {rest:List Nat} {k:List V→Option R} (ho:ops[i]?=some o) (h:∀ k1:List V→Option R,(∀ σ',k1 σ'=runIdx E ops rest σ' k)→gstep E ops o σ k1=some r):runIdx E ops (i::rest) σ k=some r:=by
 simp only[runIdx,ho]
 exact h _ fun _=>rfl
theorem idx_nil {ops:Array Oper} {k:List V→Option R} (h:k σ=some r):runIdx E ops [] σ k=some r:=h
theorem steps_nil {ops:Array Oper} {F:List V→Option R} (h:F σ=some r):(runSteps E ops [] σ).bind F=some r:=h
theorem sR {ops:Array Oper} {o:Oper} {s:PStep} {rest:List PStep} {F:List V→Option R} {σ1 σ2:List V} (ho:ops[s.i]?=some o) (hq:cond s.quiet (putB E o (keepOnly (s.rd++s.wr) σ)) (s.rd.all fun t=>plainV (gt σ t))=true)
  (hg:gstep E ops o (keepOnly (s.rd++s.wr) σ) some=some σ1) (hov:over (cond s.quiet (s.rd++s.wr) s.wr) s.wr σ σ1=σ2) (h:(runSteps E ops rest σ2).bind F=some r):(runSteps E ops (s::rest) σ).bind F=some r:=by
 simp only[runSteps,stepF,ho,hq,cond_true,hg,Option.bind_some,forceL_eq,hov]
 exact h
end
theorem nbeq (a b:Nat):Nat.beq a b=decide (a=b):=by rw[Bool.eq_iff_iff];simp
theorem body_rule {E:Env} {n:Nat} {fn:Func} {c:Code} {args σ0:List V} {r:V×List V} (hl:args.all linkFree=true) (h0:args++List.replicate (fn.ntmps-args.length) .ud=σ0)
  (h:∀ L,L=loopR E n→∀ K0:XE→List V→Option (V×List V),(∀ σ,K0 .normal σ=resAll E fn.results.toList [] σ fun vs σ'=>some (pack vs,maskOuts E.fixed (σ'.take args.length))) →
   (∀ σ,K0 .ret σ=resAll E fn.results.toList [] σ fun vs σ'=>some (pack vs,maskOuts E.fixed (σ'.take args.length)))→runC E L c σ0 K0=some r):runBody E n fn c args=some r:=by
 unfold runBody
 rw[hl,h0,cond_true]
 exact h _ rfl _ (fun _=>rfl) fun _=>rfl
end Go.Zv
