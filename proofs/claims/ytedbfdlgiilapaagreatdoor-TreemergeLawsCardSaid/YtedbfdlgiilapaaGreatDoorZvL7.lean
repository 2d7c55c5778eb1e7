/- Zv: a pure interpreter of the translated code over values, and that it is right. No condition. -/
import Derived.Test.YtedbfdlgiilapaaGreatDoorZvL6
import Derived.Deep.Slices
import Derived.ChangeArms
import Derived.ChangeShapes
import Derived.Below
import Derived.ChangeKeysEq
import Derived.Laws.CopyRow
set_option linter.unusedSimpArgs false
set_option linter.unusedVariables false
namespace Go.Zv
open Go
def ix {α:Type} (l:List α) (i:Int):Option α:=if 0≤i then l[i.toNat]? else none
theorem ix_some {α:Type} {l:List α} {i:Int} {x:α} (h:ix l i=some x):(0≤i∧i<(l.length:Int))∧i.toNat<l.length∧l[i.toNat]?=some x:=by
 unfold ix at h
 split at h
 ·
  rename_i h0
  obtain ⟨h1,_⟩:=List.getElem?_eq_some_iff.1 h
  exact ⟨⟨h0,by omega⟩,h1,h⟩
 ·
  cases h
def ixO {α:Type} (l:List (Option α)) (i:Int):Option α:=(ix l i).bind fun x=>x
theorem ixO_some {α:Type} {l:List (Option α)} {i:Int} {x:α} (h:ixO l i=some x):(0≤i∧i<(l.length:Int))∧i.toNat<l.length∧l[i.toNat]?=some (some x):=by
 unfold ixO at h
 obtain ⟨y,h1,h2⟩:=Option.bind_eq_some_iff.1 h
 subst h2
 exact ix_some h1
def rng (x:Int):Option Int:=if -9223372036854775808≤x∧x<9223372036854775808 then some x else none
theorem rng_some {x y:Int} (h:rng x=some y):y=x∧IntKind.i64.wrap x=x:=by
 unfold rng at h
 split at h
 ·
  rename_i h0
  exact ⟨by cases h;rfl,by rw[Go.IntKind.wrap_i64] <;> omega⟩
 ·
  cases h
def cutI {α:Type} (l:List α) (lo hi:Int):Option (List α):=if 0≤lo∧lo≤hi∧hi≤(l.length:Int) then some ((l.take hi.toNat).drop lo.toNat) else none
theorem cutI_some {α:Type} {l r:List α} {lo hi:Int} (h:cutI l lo hi=some r):0≤lo∧lo≤hi∧0≤hi∧hi≤(l.length:Int)∧r=(l.take hi.toNat).drop lo.toNat:=by
 unfold cutI at h
 split at h
 ·
  rename_i h0
  exact ⟨h0.1,h0.2.1,by omega,h0.2.2,by cases h;rfl⟩
 ·
  cases h
def need (p:Prop) [Decidable p]:Option Unit:=if p then some () else none
theorem need_some {p:Prop} [Decidable p] {u:Unit} (h:need p=some u):p:=by
 unfold need at h
 split at h
 ·
  assumption
 ·
  cases h
theorem bind_some {α β:Type} {o:Option α} {f:α→Option β} {r:β} (h:o.bind f=some r):∃ x,o=some x∧f x=some r:=Option.bind_eq_some_iff.1 h
def encB (b:UInt8):List V:=[.int .u8 b.toNat]
theorem bVe (s:List UInt8):bytesV s=s.map encB:=rfl
def encS (s:List UInt8):List V:=[.str s]
def encI (n:Int):List V:=[.int .i64 n]
theorem asBytes_map (s:List UInt8):asBytes (s.map encB)=some s:=by
 induction s with
 | nil=>rfl
 | cons b s ih=>simp[asBytes,encB,asInt,ih]
theorem wrapL {x:Int} (h1:-9223372036854775808≤x) (h2:x<9223372036854775808):IntKind.i64.wrap x=x:=by rw[Go.IntKind.wrap_i64] <;> omega
theorem wrapLu8 {x:Int} (h1:0≤x) (h2:x<256):IntKind.u8.wrap x=x:=by simp[IntKind.wrap,IntKind.bits,IntKind.signed];omega
theorem wrapLu64 {x:Int} (h1:0≤x) (h2:x<18446744073709551616):IntKind.u64.wrap x=x:=by simp[IntKind.wrap,IntKind.bits,IntKind.signed];omega
theorem wrapLu32 {x:Int} (h1:0≤x) (h2:x<4294967296):IntKind.u32.wrap x=x:=by simp[IntKind.wrap,IntKind.bits,IntKind.signed];omega
theorem wrapLi32 {x:Int} (h1:-2147483648≤x) (h2:x<2147483648):IntKind.i32.wrap x=x:=by simp[IntKind.wrap,IntKind.bits,IntKind.signed];omega
def lmt {α:Type} (l:List α):Option (List α):=if l.length≤lim then some l else none
theorem itp {α:Type} {c:Prop} [Decidable c] {a b r:α} (h:(if c then a else b)=r) (hc:c):a=r:=by rw[if_pos hc] at h;exact h
theorem itn {α:Type} {c:Prop} [Decidable c] {a b r:α} (h:(if c then a else b)=r) (hc:¬c):b=r:=by rw[if_neg hc] at h;exact h
theorem rngw {x y:Int} (h:rng x=some y):IntKind.i64.wrap x=y:=by rw[(rng_some h).2,(rng_some h).1]
theorem gDm {α:Type} {e:α→List V} {l:List α} {i:Nat} {x:α} (h:l[i]?=some x):(l.map e).getD i []=e x:=by
 rw[List.getD_eq_getElem?_getD,List.getElem?_map,h];rfl
theorem gDu {l:List UInt8} {i:Nat} {x:UInt8} (h:l[i]?=some x):l.getD i 0=x:=by
 rw[List.getD_eq_getElem?_getD,h];rfl
theorem cl {T:Tab} {prims:Nat→List V→Option (V×List V)} {n m g:Nat} {as:List V} {r:Option (V×List V)} {call:Nat→List V→Option (V×List V)} (hcd:call=callD T prims n m) (h:callD T prims n m g as=r):call g as=r:=by rw[hcd];exact h
theorem loop_F {β R:Type} {E:Env} {x:Code} {K:XE→List V→Option R} {r:R} (id:Nat) (ks:List Nat) (hd:headReg x=some id) (hk:E.keep id=some ks) (st:β→List V) (P:Nat→β→Prop) (h0:∀ b,¬P 0 b)
  (hstep:∀ m b,P (m+1) b→∀ (L:Code→List V→(XE→List V→Option R)→Option R) (_:L=loopR E m) (K':XE→List V→Option R),(∀ σ' b',P m b'→keepOnly ks σ'=st b'→K' .normal σ'=some r) →
   (∀ i σ',K' (.exit i) σ'=K (.exit i) σ')→(∀ σ',K' .ret σ'=K .ret σ')→runC E L x (st b) K'=some r) :
  ∀ (n:Nat) (b:β) (σ:List V),P n b→keepOnly ks σ=st b→loopR E n x σ K=some r
 | 0,b,σ,hP,_=>absurd hP (h0 b)
 | n+1,b,σ,hP,hσ=>by
  unfold loopR
  rw[runC_keep hd hk,hσ]
  exact hstep n b hP _ rfl _ (fun σ' b' hP' hσ'=>loop_F id ks hd hk st P h0 hstep n b' σ' hP' hσ') (fun _ _=>rfl) fun _=>rfl
theorem loop_step {R:Type} {E:Env} {x:Code} {K:XE→List V→Option R} {r:R} (id:Nat) (ks:List Nat) (hd:headReg x=some id) (hk:E.keep id=some ks) {n:Nat} {σ σ1:List V} (hn:0<n) (hσ:keepOnly ks σ=σ1)
  (h:∀ (L:Code→List V→(XE→List V→Option R)→Option R) (_:L=loopR E (n-1)) (K':XE→List V→Option R),(∀ σ',K' .normal σ'=loopR E (n-1) x σ' K) →
   (∀ i σ',K' (.exit i) σ'=K (.exit i) σ')→(∀ σ',K' .ret σ'=K .ret σ')→runC E L x σ1 K'=some r):loopR E n x σ K=some r:=by
 obtain ⟨m,rfl⟩:∃ m,n=m+1:=⟨n-1,by omega⟩
 unfold loopR
 rw[runC_keep hd hk,hσ]
 exact h _ rfl _ (fun _=>rfl) (fun _ _=>rfl) fun _=>rfl
theorem jR {R:Type} {E:Env} {L:Code→List V→(XE→List V→Option R)→Option R} {x:Code} {K:XE→List V→Option R} {r:R} {σ σ1:List V} (id:Nat) (ks:List Nat) (hd:headReg x=some id) (hk:E.keep id=some ks) (hσ:keepOnly ks σ=σ1) (h:runC E L x σ1 K=some r):runC E L x σ K=some r:=by
 rw[runC_keep hd hk,hσ];exact h
theorem call_rule {T:Tab} {prims:Nat→List V→Option (V×List V)} {fuel d f:Nat} {i:FnI} {args:List V} {r:V×List V} (hp:prims f args=none) (hi:T.fns.get f=some i) (h:runBody (envOf T i (callD T prims fuel d)) fuel i.fn i.code args=some r):callD T prims fuel (d+1) f args=some r:=by
 simp only[callD,hp,hi,h]
theorem prim_rule {T:Tab} {prims:Nat→List V→Option (V×List V)} {fuel d f:Nat} {args:List V} {r:V×List V} (hp:prims f args=some r):callD T prims fuel (d+1) f args=some r:=by
 simp only[callD,hp]
theorem set_getD_self {σ:List V} {d:Nat} {v:V} (h:σ.getD d .ud=v) (hv:v≠.ud):σ.set d v=σ:=by
 apply List.ext_getElem?
 intro i
 rw[List.getElem?_set]
 by_cases hi:d=i
 ·
  subst hi
  rw[List.getD_eq_getElem?_getD] at h
  cases e:σ[d]? with
  | none=>rw[e] at h;exact absurd h.symm hv
  | some x =>
   rw[e] at h
   obtain ⟨hl,_⟩:=List.getElem?_eq_some_iff.1 e
   simp[hl];exact h.symm
 ·
  simp[hi]
section
variable {R:Type} {E:Env} {L:Code→List V→(XE→List V→Option R)→Option R} {r:R} {K:XE→List V→Option R} {σ:List V}
theorem sq {a b:Code} (h:∀ K1:XE→List V→Option R,(∀ σ',K1 .normal σ'=runC E L b σ' K)→(∀ i σ',K1 (.exit i) σ'=K (.exit i) σ')→(∀ σ',K1 .ret σ'=K .ret σ')→runC E L a σ K1=some r):runC E L (.seq a b) σ K=some r:=seq_rule h
theorem sr {id:Nat} {ops:Array Oper} {d:Bool} {l:List Oper} {b:Code} (hl:ops.toList=l) (h:∀ k1:List V→Option R,(∀ σ',k1 σ'=runC E L b σ' K)→runOps E ops l σ k1=some r) (hp:E.plan id=none:=by rfl) (hk:E.keep id=none:=by rfl):runC E L (.seq (.region id ops d) b) σ K=some r:=by
 simp only[runC,hp,hk,hl]
 exact h _ fun _=>rfl
theorem srk {id:Nat} {ops:Array Oper} {d:Bool} {l:List Oper} {b:Code} {ks:List Nat} {σ1:List V} (hk:E.keep id=some ks) (hs:keepOnly ks σ=σ1) (hl:ops.toList=l) (h:∀ k1:List V→Option R,(∀ σ',k1 σ'=runC E L b σ' K)→runOps E ops l σ1 k1=some r) (hp:E.plan id=none:=by rfl):runC E L (.seq (.region id ops d) b) σ K=some r:=by
 simp only[runC,hp,hk,hl,forceL_eq,hs]
 exact h _ fun _=>rfl
theorem nR {all:Array Oper} {k G:List V→Option R} (h0:∀ σ,k σ=G σ) (h:G σ=some r):runOps E all [] σ k=some r:=(h0 σ).trans h
theorem oR {all:Array Oper} {o:Oper} {rest:List Oper} {K:List V→Option R} (h:∀ k1:List V→Option R,(∀ σ',k1 σ'=runOps E all rest σ' K)→gstep E all o σ k1=some r):runOps E all (o::rest) σ K=some r:=op_rule h
end
theorem itf {α:Type} {e:Bool} {a b r:α} (h:(if e=true then a else b)=r) (hb:e=false):b=r:=by subst hb;exact h
def gv (b:Bool) (v:V):V:=cond b v (.tup [])
theorem gv_true (v:V):gv true v=v:=rfl
theorem gv_false (v:V):gv false v=.tup []:=rfl
theorem gv_pos {b:Bool} {v:V} (h:b=true):gv b v=v:=by rw[h];rfl
theorem gv_neg {b:Bool} {v:V} (h:b=false):gv b v=.tup []:=by rw[h];rfl
theorem into_gv (d:Nat) (b:Bool) (v:V):into d (gv b v)=(b&&into d v):=by cases b <;> rfl
theorem stale_gv (r d:Nat) (b:Bool) (v:V):stale r d (gv b v)=(b&&stale r d v):=by cases b <;> rfl
theorem refAt_gv (r d:Nat) (b:Bool) (v:V):refAt r d (gv b v)=(b&&refAt r d v):=by cases b <;> rfl
theorem rootIn_gv (ks:List Nat) (b:Bool) (v:V):rootIn ks (gv b v)=(!b||rootIn ks v):=by cases b <;> rfl
theorem hits_gv (ks:List Nat) (b:Bool) (v:V):hits ks (gv b v)=(b&&hits ks v):=by cases b <;> rfl
theorem dropRoot_nil (r:Nat):dropRoot r []=[]:=rfl
theorem dropRoot_cons (r:Nat) (v:V) (σ:List V):dropRoot r (v::σ)=cond (into r v) .ud v::dropRoot r σ:=rfl
theorem drop_nil (r d:Nat):drop r d []=[]:=rfl
theorem drop_cons (r d:Nat) (v:V) (σ:List V):drop r d (v::σ)=cond (stale r d v) .ud v::drop r d σ:=rfl
theorem dropRef_nil (r d:Nat):dropRef r d []=[]:=rfl
theorem dropRef_cons (r d:Nat) (v:V) (σ:List V):dropRef r d (v::σ)=cond (refAt r d v) .ud v::dropRef r d σ:=rfl
theorem guard_nw {R:Type} {E:Env} {all:Array Oper} {o:Oper} {σ:List V} {K:List V→Option R} {r:R} {j d:Nat} {c b want:Bool} {v:V} (hf:flag E.fixed o.dst=false) (hg:o.guard=some (j,want)) (hd:(all[j]?).bind (·.dst)=some d) (hb:gt σ d=gv c (.bool b))
  (h1:c=true→b=want→evOpF E o σ K=K (put o.dst v σ)) (h:K (put o.dst (gv (c&&(b==want)) v) σ)=some r):gstep E all o σ K=some r:=by
 unfold gstep
 rw[hf,hg]
 simp only[cond_false,hd]
 cases c with
 | false =>
  simp only[hb,gv_false]
  exact h
 | true =>
  rw[gv_true] at hb
  simp only[hb]
  cases b <;> cases want
  ·
   simp only[Bool.false_eq_true,if_false,cond_false];rw[set_getD_self hb (by simp),h1 rfl rfl];exact h
  ·
   simp only[Bool.false_eq_true,if_false,cond_true];rw[set_getD_self hb (by simp)];exact h
  ·
   simp only[if_true,cond_false];rw[set_getD_self hb (by simp)];exact h
  ·
   simp only[if_true,cond_true];rw[set_getD_self hb (by simp),h1 rfl rfl];exact h
theorem guard_mt {R:Type} {E:Env} {all:Array Oper} {o:Oper} {σ:List V} {K:List V→Option R} {r:R} {j d:Nat} {b:Bool} {v:V} (hf:flag E.fixed o.dst=false) (hg:o.guard=some (j,true)) (hd:(all[j]?).bind (·.dst)=some d) (hb:gt σ d=.bool b)
  (h1:b=true→evOpF E o σ K=K (put o.dst v σ)) (h:K (put o.dst (gv b v) σ)=some r):gstep E all o σ K=some r :=
 guard_nw (c:=true) hf hg hd hb (fun _=>h1) (by cases b <;> exact h)
theorem guard_mf {R:Type} {E:Env} {all:Array Oper} {o:Oper} {σ:List V} {K:List V→Option R} {r:R} {j d:Nat} {b:Bool} {v:V} (hf:flag E.fixed o.dst=false) (hg:o.guard=some (j,false)) (hd:(all[j]?).bind (·.dst)=some d) (hb:gt σ d=.bool b)
  (h1:b=false→evOpF E o σ K=K (put o.dst v σ)) (h:K (put o.dst (gv (!b) v) σ)=some r):gstep E all o σ K=some r :=
 guard_nw (c:=true) hf hg hd hb (fun _=>h1) (by cases b <;> exact h)
theorem guard_nt {R:Type} {E:Env} {all:Array Oper} {o:Oper} {σ:List V} {K:List V→Option R} {r:R} {j d:Nat} {c b:Bool} {v:V} (hf:flag E.fixed o.dst=false) (hg:o.guard=some (j,true)) (hd:(all[j]?).bind (·.dst)=some d) (hb:gt σ d=gv c (.bool b))
  (h1:c=true→b=true→evOpF E o σ K=K (put o.dst v σ)) (h:K (put o.dst (gv (c&&b) v) σ)=some r):gstep E all o σ K=some r :=
 guard_nw hf hg hd hb h1 (by cases b <;> exact h)
theorem guard_nf {R:Type} {E:Env} {all:Array Oper} {o:Oper} {σ:List V} {K:List V→Option R} {r:R} {j d:Nat} {c b:Bool} {v:V} (hf:flag E.fixed o.dst=false) (hg:o.guard=some (j,false)) (hd:(all[j]?).bind (·.dst)=some d) (hb:gt σ d=gv c (.bool b))
  (h1:c=true→b=false→evOpF E o σ K=K (put o.dst v σ)) (h:K (put o.dst (gv (c&&!b) v) σ)=some r):gstep E all o σ K=some r :=
 guard_nw hf hg hd hb h1 (by cases b <;> exact h)
theorem guard_ns {R:Type} {E:Env} {all:Array Oper} {o:Oper} {σ:List V} {K:List V→Option R} {r:R} {j d:Nat} {want b c:Bool} (hf:flag E.fixed o.dst=false) (hg:o.guard=some (j,want)) (hd:(all[j]?).bind (·.dst)=some d) (hb:gt σ d=gv c (.bool b))
  (h1:c=true→gstep E all o (σ.set d (.bool b)) K=some r) (h2:c=false→K (put o.dst (.tup []) σ)=some r):gstep E all o σ K=some r:=by
 cases c with
 | true =>
  have h:=h1 rfl
  rw[gv_true] at hb
  rwa [set_getD_self hb (by simp)] at h
 | false =>
  rw[gv_false] at hb
  unfold gstep
  rw[hf,hg]
  simp only[cond_false,hd,hb]
  exact h2 rfl
theorem pick_eq {R:Type} {E:Env} {o:Oper} {σ:List V} {K:List V→Option R} {c a b:Operand} {x:Bool} {vc:V} (hop:o.op=.pick c a b) (hc:flag E.fixed o.dst=false∧opnd E σ c=.bool x)
  (h1:x=true→opnd E σ a=vc) (h2:x=false→opnd E σ b=vc):evOpF E o σ K=K (put o.dst vc σ):=by
 rw[evOpF_eq]
 unfold evOp
 rw[hc.1,hop]
 simp only[cond_false,hc.2]
 cases x with
 | true=>rw[h1 rfl];simp
 | false=>rw[h2 rfl];simp
theorem steps_split {R:Type} {E:Env} {ops:Array Oper} {steps:List PStep} {σ:List V} {F:List V→Option R} {r:R} (d:Nat) {b:Bool} (hb:gt σ d=.bool b) (h1:b=true→(runSteps E ops steps σ).bind F=some r) (h2:b=false→(runSteps E ops steps σ).bind F=some r):(runSteps E ops steps σ).bind F=some r:=by
 cases b with
 | true=>exact h1 rfl
 | false=>exact h2 rfl
theorem guard_t {R:Type} {E:Env} {all:Array Oper} {o:Oper} {σ:List V} {K:List V→Option R} {r:R} {j d:Nat} {b:Bool} (hf:flag E.fixed o.dst=false) (hg:o.guard=some (j,true)) (hd:(all[j]?).bind (·.dst)=some d) (hb:gt σ d=.bool b)
  (h1:b=true→evOpF E o (σ.set d (.bool true)) K=some r) (h2:b=false→K (put o.dst (.tup []) (σ.set d (.bool false)))=some r):gstep E all o σ K=some r:=by
 unfold gstep
 rw[hf,hg]
 simp only[cond_false,hd,hb]
 cases b with
 | true=>simpa using h1 rfl
 | false=>simpa using h2 rfl
theorem guard_f {R:Type} {E:Env} {all:Array Oper} {o:Oper} {σ:List V} {K:List V→Option R} {r:R} {j d:Nat} {b:Bool} (hf:flag E.fixed o.dst=false) (hg:o.guard=some (j,false)) (hd:(all[j]?).bind (·.dst)=some d) (hb:gt σ d=.bool b)
  (h1:b=true→K (put o.dst (.tup []) (σ.set d (.bool true)))=some r) (h2:b=false→evOpF E o (σ.set d (.bool false)) K=some r):gstep E all o σ K=some r:=by
 unfold gstep
 rw[hf,hg]
 simp only[cond_false,hd,hb]
 cases b with
 | true=>simpa using h1 rfl
 | false=>simpa using h2 rfl
def Unbarred (o:Oper) (all:Array Oper) (σ:List V):Prop:=o.guard=none∨∃ j d want,o.guard=some (j,want)∧(all[j]?).bind (·.dst)=some d∧gt σ d=.bool want
theorem unbarred_none {o:Oper} {all:Array Oper} {σ:List V} (h:o.guard=none):Unbarred o all σ:=.inl h
theorem unbarred_of {o:Oper} {all:Array Oper} {σ:List V} {j d:Nat} {want:Bool} (h1:o.guard=some (j,want)) (h2:(all[j]?).bind (·.dst)=some d) (h3:gt σ d=.bool want):Unbarred o all σ:=.inr ⟨j,d,want,h1,h2,h3⟩
theorem gstep_unbarred {R:Type} {E:Env} {all:Array Oper} {o:Oper} {σ:List V} {K:List V→Option R} {r:R} (hf:flag E.fixed o.dst=false) (hu:Unbarred o all σ) (h:evOpF E o σ K=some r):gstep E all o σ K=some r:=by
 unfold gstep
 rw[hf,cond_false]
 rcases hu with hg | ⟨j,d,want,hg,hd,hb⟩
 ·
  rw[hg];exact h
 ·
  rw[hg]
  simp only[hd,hb]
  have hs:σ.set d (.bool want)=σ:=set_getD_self hb (by simp)
  cases want with
  | true=>simp only[if_true,cond_true,hs];exact h
  | false=>simp only[Bool.false_eq_true,if_false,cond_false,hs];exact h
theorem pick_ruleG {R:Type} {E:Env} {all:Array Oper} {o:Oper} {σ:List V} {K:List V→Option R} {r:R} {c a b:Operand} {x:Bool} {vc:V} (hf:flag E.fixed o.dst=false) (hu:Unbarred o all σ) (hop:o.op=.pick c a b) (hc:opnd E σ c=.bool x)
  (h1:x=true→opnd E σ a=vc) (h2:x=false→opnd E σ b=vc) (h:K (put o.dst vc σ)=some r):gstep E all o σ K=some r :=
 gstep_unbarred hf hu (by rw[pick_eq hop ⟨hf,hc⟩ h1 h2];exact h)
theorem pick_and {R:Type} {E:Env} {all:Array Oper} {o:Oper} {σ:List V} {K:List V→Option R} {r:R} {c a b:Operand} {x y:Bool} (hf:flag E.fixed o.dst=false) (hu:Unbarred o all σ) (hop:o.op=.pick c a b) (hc:opnd E σ c=.bool x) (hb:opnd E σ b=.bool false)
  (ha:x=true→opnd E σ a=.bool y) (h:K (put o.dst (.bool (x&&y)) σ)=some r):gstep E all o σ K=some r :=
 pick_ruleG hf hu hop hc (fun hx=>by rw[ha hx,hx];rfl) (fun hx=>by rw[hb,hx];rfl) h
theorem pick_or {R:Type} {E:Env} {all:Array Oper} {o:Oper} {σ:List V} {K:List V→Option R} {r:R} {c a b:Operand} {x y:Bool} (hf:flag E.fixed o.dst=false) (hu:Unbarred o all σ) (hop:o.op=.pick c a b) (hc:opnd E σ c=.bool x) (ha:opnd E σ a=.bool true)
  (hb:x=false→opnd E σ b=.bool y) (h:K (put o.dst (.bool (x||y)) σ)=some r):gstep E all o σ K=some r :=
 pick_ruleG hf hu hop hc (fun hx=>by rw[ha,hx];rfl) (fun hx=>by rw[hb hx,hx];rfl) h
theorem flatRows_S (l:List (List UInt8)):flatRows (l.map encS)=true:=by
 unfold flatRows
 rw[List.all_eq_true]
 intro r hr
 obtain ⟨s,_,rfl⟩:=List.mem_map.1 hr
 rfl
end Go.Zv
namespace Go.Zv
open Go Go.ChangeShapes Go.Deep Go.RowKit
section
variable {H:Type} {enc:TypeId×Value→H} {P:Program} {w:World} {spare:Nat→Bool} {held:Bool}
def allS (w:World):Nat→Prop:=fun b=>b<w.heap.size
def Opens {α:Type} (enc:TypeId×Value→H) (P:Program) (w:World) (spare:Nat→Bool) (held:Bool) (t:TypeId) (e:α→List V):Prop :=
 ∀ (fuel:Nat) (cs:List Value) (x:DataW H×List MemPlace),DataW.trod enc P w 0 spare held fuel t cs=some x→∃ a:α,Reps (allS w) w cs (e a) []∧∀ v∈cs,v.oneCell'=true
theorem opens_str {t:TypeId} (ht:P.underlying t=some .string):Opens enc P w spare held t fun s:List UInt8=>[V.str s]:=by
 intro fuel cs x h
 obtain ⟨s,rfl,_,_⟩:=DataW.trod_string ht h
 exact ⟨s.data.toList,.cons (O1:=[]) (O2:=[]) (.str s) .nil,fun v hv=>by simp at hv;subst hv;rfl⟩
theorem opens_u8 {t:TypeId} (ht:P.underlying t=some (.int .u8)):Opens enc P w spare held t encB:=by
 intro fuel cs x h
 obtain ⟨n,rfl,_,hw⟩:=DataW.trod_int ht h
 have hb:0≤n∧n≤255:=by simp[Lit.wf,IntKind.bits,IntKind.signed,IntKind.min,IntKind.max] at hw;omega
 refine ⟨UInt8.ofNat n.toNat,?_,fun v hv=>by simp at hv;subst hv;rfl⟩
 have e:(((UInt8.ofNat n.toNat).toNat:Nat):Int)=n:=by
  rw[UInt8.toNat_ofNat']
  omega
 unfold encB
 rw[e]
 exact .cons (O1:=[]) (O2:=[]) (.int _ _) .nil
theorem mapM_get {α β:Type} {f:α→Option β}:∀ {l:List α} {r:List β},l.mapM f=some r→r.length=l.length∧∀ i (h:i<l.length) (h':i<r.length),f l[i]=some r[i]
 | [],r,h=>by simp at h;subst h;simp
 | a::l,r,h=>by
  rw[List.mapM_cons] at h
  simp only[bind,Option.bind_eq_some_iff,pure,Option.some.injEq] at h
  obtain ⟨b,hb,r',hr,rfl⟩:=h
  obtain ⟨h1,h2⟩:=mapM_get hr
  refine ⟨by simp[h1],fun i hi hi'=>?_⟩
  cases i with
  | zero=>simpa using hb
  | succ i=>simpa using h2 i (by simpa using hi) (by simpa using hi')
theorem cells_get {base n:Nat} {a:Addr} {cs:List Value} (h:w.cells? base a n=some cs):cs.length=n∧∀ i (hi:i<cs.length),w.cell? (a.add i)=some cs[i]:=by
 unfold World.cells? at h
 split at h
 ·
  obtain ⟨h1,h2⟩:=mapM_get h
  simp at h1
  refine ⟨h1,fun i hi=>?_⟩
  have:=h2 i (by simp;omega) hi
  simpa using this
 ·
  cases h
theorem spot_none {a:Addr} {v:Value} (h:w.cell? a=some v):a=⟨a.block,a.off,none⟩∧a.block<w.heap.size:=by
 unfold World.cell? at h
 split at h
 ·
  rename_i c _ _ hc
  have hlt:a.block<w.heap.size:=(Array.getElem?_eq_some_iff.1 hc).1
  split at h
  ·
   cases h
  ·
   rename_i hs
   have hsp:a.spot=none:=by simpa using hs
   obtain ⟨b,o,sp⟩:=a
   simp at hsp
   subst hsp
   exact ⟨rfl,hlt⟩
 ·
  cases h
theorem addr_add (b o i:Nat):(⟨b,o,none⟩:Addr).add i=⟨b,o+i,none⟩:=by
 unfold Addr.add
 split <;> simp_all
theorem mem_of_reps {b:Nat}:∀ {cs:List Value} {xs:List V} {o:Nat},Reps (allS w) w cs xs []→(∀ i (h:i<cs.length),w.cell? ⟨b,o+i,none⟩=some cs[i])→(∀ v∈cs,v.oneCell'=true)→Mem (allS w) w b o xs []
 | [],_,o,h,_,_=>by
  cases h
  exact .nil b o
 | c::cs,_,o,h,hc,h1=>by
  generalize hO:([]:List Nat)=O at h
  cases h with
  | cons r1 r2 =>
   rename_i x xs O1 O2
   obtain ⟨e1,e2⟩:=List.append_eq_nil_iff.1 hO.symm
   subst e1;subst e2
   have:=hc 0 (by simp)
   refine Mem.cons (O1:=[]) (O2:=[]) (by simpa using this) (h1 c (by simp)) r1 (mem_of_reps r2 (fun i hi=>?_) fun v hv=>h1 v (by simp[hv]))
   have:=hc (i+1) (by simpa using hi)
   rw[show o+1+i=o+(i+1) by omega]
   simpa using this
theorem opens_slice {α:Type} {t e:TypeId} {k:Nat} {en:α→List V} (ht:P.underlying t=some (.slice e)) (hk:P.cellsOf e=k) (hpos:0<k) (hlen:∀ a,(en a).length=k) (ho:Opens enc P w spare held e en) :
  Opens enc P w spare held t fun l:List α=>[V.sl k false (l.map en)]:=by
 intro fuel cs x h
 rcases open_slice ht h with ⟨rfl,_⟩ | ⟨a,len,cap,m,n,D,Pl,rfl,hb,hl,hm,hmm,_,hx⟩
 ·
  exact ⟨[],.cons (O1:=[]) (O2:=[]) (.sl0 _ _ _ _ (by simp)) .nil,fun v hv=>by simp at hv;subst hv;rfl⟩
 have hml:len≤m:=by rw[hmm];split <;> omega
 rw[hk] at hx
 by_cases h0:len=0
 ·
  subst h0
  exact ⟨[],.cons (O1:=[]) (O2:=[]) (.sl0 _ _ _ _ (by simp)) .nil,fun v hv=>by simp at hv;subst hv;rfl⟩
 obtain ⟨s1,s2⟩:a=⟨a.block,a.off,none⟩∧a.block<w.heap.size:=by
  obtain ⟨cs',h4,h5⟩:=hx 0 (by omega)
  obtain ⟨y,h6,h7⟩:=ho n cs' _ h5
  obtain ⟨h8,h9⟩:=cells_get h4
  have hc0:=h9 0 (by omega)
  rw[add_add,Nat.zero_mul,Nat.zero_add] at hc0
  refine spot_none (v:=cs'[0]'(by omega)) ?_
  simpa[Addr.add] using hc0
 generalize hbk:a.block=bk at s1 s2
 generalize hof:a.off=of at s1
 subst s1
 have key:∀ i,i≤len→∃ l:List α,l.length=i∧Mem (allS w) w bk of (l.map en).flatten []:=by
  intro i
  induction i with
  | zero=>intro _;exact ⟨[],rfl,.nil _ _⟩
  | succ i ih =>
   intro hi
   obtain ⟨l,h1,h3⟩:=ih (by omega)
   obtain ⟨cs',h4,h5⟩:=hx i (by omega)
   obtain ⟨y,h6,h7⟩:=ho n cs' _ h5
   obtain ⟨h8,h9⟩:=cells_get h4
   refine ⟨l++[y],by simp[h1],?_⟩
   rw[List.map_append,List.flatten_append]
   have hfl:(l.map en).flatten.length=i*k:=by
    rw[List.length_flatten,List.map_map]
    have:(List.length∘en)=fun _=>k:=funext hlen
    rw[this,List.map_const',List.sum_replicate_nat,h1]
   have hm2:Mem (allS w) w bk (of+(l.map en).flatten.length) ([y].map en).flatten []:=by
    simp only[List.map_cons,List.map_nil,List.flatten_cons,List.flatten_nil,List.append_nil]
    rw[hfl]
    refine mem_of_reps h6 (fun j hj=>?_) h7
    have:=h9 j hj
    rw[addr_add,addr_add] at this
    exact this
   exact Mem.append (O1:=[]) (O2:=[]) h3 hm2
 obtain ⟨l,h1,h3⟩:=key len (Nat.le_refl _)
 refine ⟨l,?_,fun v hv=>by simp at hv;subst hv;rfl⟩
 refine .cons (O1:=[]) (O2:=[]) ?_ .nil
 have hll:(l.map en).length=len:=by simp[h1]
 rw[show (Value.slice (some ⟨bk,of,none⟩) len cap)=.slice (some ⟨bk,of,none⟩) (l.map en).length cap by rw[hll]]
 refine .sl hpos (fun e=>h0 (by rw[←hll,e];rfl)) (fun r hr=>?_) s2 ⟨by omega,by simp⟩ h3
 obtain ⟨y,_,rfl⟩:=List.mem_map.1 hr
 exact hlen y
theorem reps_append {S:Nat→Prop} {us vs:List Value} {xs ys:List V} (h1:Reps S w us xs []) (h2:Reps S w vs ys []):Reps S w (us++vs) (xs++ys) []:=by
 generalize hO:([]:List Nat)=O at h1
 induction us generalizing xs O with
 | nil=>cases h1;exact h2
 | cons u us ih =>
  cases h1 with
  | cons r1 r2 =>
   obtain ⟨e1,e2⟩:=List.append_eq_nil_iff.1 hO.symm
   subst e1;subst e2
   exact .cons (O1:=[]) (O2:=[]) r1 (ih _ rfl r2)
theorem opens_struct2 {α β γ:Type} {t:TypeId} {f0 f1:Field} {e0:α→List V} {e1:β→List V} (mk:α→β→γ) (en:γ→List V) (hen:∀ a b,en (mk a b)=e0 a++e1 b) (ht:P.underlying t=some (.struct #[f0,f1]))
  (ho0:f0.offset=0) (ho1:f1.offset=P.cellsOf f0.type) (hc:P.cellsOf t=P.cellsOf f0.type+P.cellsOf f1.type) (h0:Opens enc P w spare held f0.type e0) (h1:Opens enc P w spare held f1.type e1):Opens enc P w spare held t en:=by
 intro fuel cs x h
 obtain ⟨xs,n,_,_,hl,hxs,hf⟩:=DataW.trod_struct ht h
 have k0:=hf 0 f0 rfl
 have k1:=hf 1 f1 rfl
 rw[List.getElem?_eq_getElem (show 0<xs.length by rw[hxs];simp)] at k0
 rw[List.getElem?_eq_getElem (show 1<xs.length by rw[hxs];simp)] at k1
 obtain ⟨a,r0,o0⟩:=h0 _ _ _ k0
 obtain ⟨b,r1,o1⟩:=h1 _ _ _ k1
 rw[ho0,List.drop_zero] at r0 o0
 rw[ho1] at r1 o1
 have hcs:cs=cs.take (P.cellsOf f0.type)++(cs.drop (P.cellsOf f0.type)).take (P.cellsOf f1.type):=by
  rw[List.take_of_length_le (l:=cs.drop _) (by simp;omega),List.take_append_drop]
 refine ⟨mk a b,?_,fun v hv=>?_⟩
 ·
  rw[hen,hcs]
  exact reps_append r0 r1
 ·
  rw[hcs] at hv
  rcases List.mem_append.1 hv with hv | hv
  ·
   exact o0 v hv
  ·
   exact o1 v hv
end
end Go.Zv
namespace Go.Zv
open Go
section
variable {P:Program}
theorem run_eqItems_int {e:Nat} {k:IntKind} (hu:P.underlying e=some (.int k)) (hc:P.cellsOf e=1) (d:Nat) {S:Nat→Prop} {w:World}:∀ (is:List Nat) (xs ys:Array Value) (us vs:List Value) (vx vy:List V) (b:Bool),
  (∀ j,j<us.length→us.length=is.length∧xs[is.getD j 0]?=us[j]?)→(∀ j,j<vs.length→xs.size=xs.size∧ys[is.getD j 0]?=vs[j]?)→us.length=is.length→vs.length=is.length →
  Reps S w us vx []→Reps S w vs vy []→eqCells (List.replicate is.length (.int k)) vx vy=some b→(Op.eqItems (d+1) e (P.cellsOf e) xs ys is).run P w=.ok b w
 | [],xs,ys,us,vs,vx,vy,b,_,_,hu1,hv1,hx,hy,he=>by
  have h1:vx=[]:=by
   have:=hx.len
   rw[hu1] at this
   exact List.eq_nil_of_length_eq_zero this.symm
  have h2:vy=[]:=by
   have:=hy.len
   rw[hv1] at this
   exact List.eq_nil_of_length_eq_zero this.symm
  subst h1;subst h2
  simp only[List.length_nil,List.replicate_zero,eqCells,Option.some.injEq] at he
  subst he
  simp[Op.eqItems]
 | i::is,xs,ys,us,vs,vx,vy,b,hux,hvy,hu1,hv1,hx,hy,he=>by
  generalize hO:([]:List Nat)=O at hx
  cases hx with
  | nil=>simp at hu1
  | @cons u x us xs' O1 O2 r1 r2 =>
  obtain ⟨rfl,rfl⟩:=List.append_eq_nil_iff.1 hO.symm
  generalize hO':([]:List Nat)=O' at hy
  cases hy with
  | nil=>simp at hv1
  | @cons v y vs ys' O3 O4 q1 q2 =>
  obtain ⟨rfl,rfl⟩:=List.append_eq_nil_iff.1 hO'.symm
  simp only[List.length_cons,List.replicate_succ,eqCells,Option.bind_eq_some_iff,Option.some.injEq] at he
  obtain ⟨a,ha,c,hc',r,hr,rfl⟩:=he
  have val:∀ {u:Value} {x:V} {a:Int},Rep S w u x []→asInt k x.strip=some a→u=.int k a:=by
   intro u x a h1 h2
   have base:∀ {x:V},Rep S w u x []→asInt k x=some a→u=.int k a:=by
    intro x h1 h2
    cases x <;> simp only[asInt,reduceCtorEq] at h2
    split at h2
    ·
     rename_i hk
     cases h2;cases h1;rw[hk]
    ·
     cases h2
   cases x
   case cl x =>
    cases h1 with
    | cl h1=>exact base h1 h2
   case sl=>simp[V.strip,asInt] at h2
   all_goals exact base h1 h2
  have e1:=val r1 ha
  have e2:=val q1 hc'
  have hp:P.plainKey e=true:=by simp[Program.plainKey,hu]
  have p1:=run_part_plain (P:=P) w hp (xs:=xs) (off:=i*P.cellsOf e) (v:=u) (by
   have:=(hux 0 (by simp)).2
   simpa[hc] using this)
  have p2:=run_part_plain (P:=P) w hp (xs:=ys) (off:=i*P.cellsOf e) (v:=v) (by
   have:=(hvy 0 (by simp)).2
   simpa[hc] using this)
  have ih:=run_eqItems_int hu hc d is xs ys us vs xs' ys' r (fun j hj=>⟨by simpa using hu1,by
   have:=(hux (j+1) (by simpa using hj)).2
   simpa using this⟩) (fun j hj=>⟨rfl,by
   have:=(hvy (j+1) (by simpa using hj)).2
   simpa using this⟩) (by simpa using hu1) (by simpa using hv1) r2 q2 hr
  have heq:(Op.equalIn (d+1) e u v).run P w=.ok (a==c) w:=by
   rw[e1,e2]
   simp[Op.equalIn,run_underlying hu]
  simp only[Op.eqItems,Sem.run_bind,p1,p2,Result.andThen_ok,heq]
  cases hab:a==c with
  | false=>simp
  | true=>simpa using ih
theorem eqOK_arr {t e n:Nat} {k:IntKind} {ie:TypeInfo} {i:TI} (hu:P.underlying t=some (.array n e)) (he:P.underlying e=some (.int k)) (hc:P.cellsOf e=1) (hi:P.info? e=some ie) (hsk:i.sk=List.replicate n (.int k)) (hg:P.eqGuardType P.depth t=false):EqOK P t i:=by
 refine ⟨hg,fun S w xs ys vx vy b hx hy h=>?_⟩
 have key:∀ (m:Nat) (ts:List TK) (vx vy:List V) (b:Bool),ts=List.replicate m (.int k)→eqCells ts vx vy=some b→vx.length=m∧vy.length=m:=by
  intro m
  induction m with
  | zero =>
   intro ts vx vy b e h
   subst e
   cases vx <;> cases vy <;> simp[eqCells] at h ⊢
  | succ m ih =>
   intro ts vx vy b e h
   subst e
   rw[List.replicate_succ] at h
   cases vx <;> cases vy <;> simp only[eqCells,reduceCtorEq,Option.bind_eq_some_iff] at h
   obtain ⟨_,_,_,_,c,h3,_⟩:=h
   have:=ih _ _ _ _ rfl h3
   simpa using this
 obtain ⟨l1,l2⟩:=key n i.sk vx vy b hsk h
 rw[hsk] at h
 have hn:n=(List.range n).length:=by simp
 rw[hn] at h
 have hxl:=hx.len
 have hyl:=hy.len
 have:=run_eqItems_int (P:=P) he hc 9998 (w:=w) (List.range n) xs ys xs.toList ys.toList vx vy b (fun j hj=>⟨by rw[hxl,l1];simp,by
  have hj':j<n:=by rw[hxl,l1] at hj;exact hj
  rw[List.getD_eq_getElem?_getD,List.getElem?_range hj'];simp⟩) (fun j hj=>⟨rfl,by
  have hj':j<n:=by rw[hyl,l2] at hj;exact hj
  rw[List.getD_eq_getElem?_getD,List.getElem?_range hj'];simp⟩) (by rw[hxl,l1];simp) (by rw[hyl,l2];simp) hx hy h
 have h2:=run_equalIn_array (P:=P) w 9999 xs ys hu hi
 show (Op.equalIn 10000 t (.agg xs) (.agg ys)).run P w=_
 rw[h2]
 exact this
end
end Go.Zv
namespace Go.Zv
open Go
section
variable {P:Program}
structure EqS (P:Program) (d:Nat) (e:Nat) (k:TK):Prop where
 plain:P.plainKey e=true
 cells:P.cellsOf e=1
 run:∀ (S:Nat→Prop) (w:World) (u v:Value) (x y:V) (b:Bool),Rep S w u x []→Rep S w v y []→eqCells [k] [x] [y]=some b→(Op.equalIn d e u v).run P w=.ok b w
structure EqG (P:Program) (d:Nat) (e:Nat) (sk:List TK):Prop where
 agg:(∃ n e',P.underlying e=some (.array n e'))∨∃ fs,P.underlying e=some (.struct fs)
 cells:P.cellsOf e=sk.length
 run:∀ (S:Nat→Prop) (w:World) (xs ys:Array Value) (vx vy:List V) (b:Bool),Reps S w xs.toList vx []→Reps S w ys.toList vy []→eqCells sk vx vy=some b→(Op.equalIn d e (.agg xs) (.agg ys)).run P w=.ok b w
def EqD (P:Program) (d:Nat) (e:Nat) (sk:List TK):Prop:=(∃ k,sk=[k]∧EqS P d e k)∨EqG P d e sk
theorem eqCells_len:∀ {sk:List TK} {vx vy:List V} {b:Bool},eqCells sk vx vy=some b→vx.length=sk.length∧vy.length=sk.length
 | [],vx,vy,b,h=>by cases vx <;> cases vy <;> simp[eqCells] at h ⊢
 | t::ts,[],vy,b,h=>by cases vy <;> simp[eqCells] at h
 | t::ts,x::xs,[],b,h=>by simp[eqCells] at h
 | t::ts,x::xs,y::ys,b,h=>by
  have key:∃ c,eqCells ts xs ys=some c:=by
   unfold eqCells at h
   split at h <;> simp only[Option.bind_eq_some_iff,reduceCtorEq] at h
   all_goals (obtain ⟨_,_,_,_,c,h3,_⟩:=h;exact ⟨c,h3⟩)
  obtain ⟨c,hc⟩:=key
  have:=eqCells_len hc
  simpa using this
theorem eqCells_cons {t:TK} {ts:List TK} {x y:V} {xs ys:List V} {b:Bool} (h:eqCells (t::ts) (x::xs) (y::ys)=some b):∃ b1 b2,eqCells [t] [x] [y]=some b1∧eqCells ts xs ys=some b2∧b=(b1&&b2):=by
 unfold eqCells at h
 split at h <;> simp only[Option.bind_eq_some_iff,reduceCtorEq,Option.some.injEq] at h
 all_goals
  obtain ⟨a,h1,c,h2,d,h3,h4⟩:=h
  refine ⟨a==c,d,?_,h3,h4.symm⟩
  simp[eqCells,h1,h2]
theorem eqCells_append:∀ {s1 s2:List TK} {vx vy:List V} {b:Bool},eqCells (s1++s2) vx vy=some b →
  ∃ b1 b2,eqCells s1 (vx.take s1.length) (vy.take s1.length)=some b1∧eqCells s2 (vx.drop s1.length) (vy.drop s1.length)=some b2∧b=(b1&&b2)
 | [],s2,vx,vy,b,h=>⟨true,b,rfl,h,by simp⟩
 | t::s1,s2,vx,vy,b,h=>by
  obtain ⟨l1,l2⟩:=eqCells_len h
  cases vx with
  | nil=>simp at l1
  | cons x vx =>
   cases vy with
   | nil=>simp at l2
   | cons y vy =>
    obtain ⟨b1,b2,h1,h2,rfl⟩:=eqCells_cons h
    obtain ⟨c1,c2,h3,h4,rfl⟩:=eqCells_append h2
    have hj:eqCells (t::s1) (x::vx.take s1.length) (y::vy.take s1.length)=some (b1&&c1):=by
     cases t <;> simp only[eqCells,reduceCtorEq,Option.bind_eq_some_iff,Option.some.injEq] at h1
     all_goals
      obtain ⟨a,e1,c,e2,d,e3,rfl⟩:=h1
      cases e3
      simp[eqCells,e1,e2,h3]
    refine ⟨b1&&c1,c2,?_,?_,by rw[Bool.and_assoc]⟩
    ·
     simpa using hj
    ·
     simpa using h4
theorem eqS_int {d e:Nat} {k:IntKind} (hu:P.underlying e=some (.int k)) (hc:P.cellsOf e=1):EqS P (d+1) e (.int k) where
 plain:=by simp[Program.plainKey,hu]
 cells:=hc
 run:=by
  intro S w u v x y b r1 r2 h
  have val:∀ {u:Value} {x:V} {a:Int},Rep S w u x []→asInt k x.strip=some a→u=.int k a:=by
   intro u x a h1 h2
   have base:∀ {x:V},Rep S w u x []→asInt k x=some a→u=.int k a:=by
    intro x h1 h2
    cases x <;> simp only[asInt,reduceCtorEq] at h2
    split at h2
    ·
     rename_i hk
     cases h2;cases h1;rw[hk]
    ·
     cases h2
   cases x
   case cl x =>
    cases h1 with
    | cl h1=>exact base h1 h2
   case sl=>simp[V.strip,asInt] at h2
   all_goals exact base h1 h2
  simp only[eqCells,Option.bind_eq_some_iff,Option.some.injEq] at h
  obtain ⟨a,h1,c,h2,d',h3,rfl⟩:=h
  subst h3
  rw[val r1 h1,val r2 h2]
  simp[Op.equalIn,run_underlying hu]
theorem eqS_bool {d e:Nat} (hu:P.underlying e=some .bool) (hc:P.cellsOf e=1):EqS P (d+1) e .bool where
 plain:=by simp[Program.plainKey,hu]
 cells:=hc
 run:=by
  intro S w u v x y b r1 r2 h
  have val:∀ {u:Value} {x:V} {a:Bool},Rep S w u x []→asBool x.strip=some a→u=.bool a:=by
   intro u x a h1 h2
   have base:∀ {x:V},Rep S w u x []→asBool x=some a→u=.bool a:=by
    intro x h1 h2
    cases x <;> simp only[asBool,reduceCtorEq,Option.some.injEq] at h2
    cases h1;rw[h2]
   cases x
   case cl x =>
    cases h1 with
    | cl h1=>exact base h1 h2
   case sl=>simp[V.strip,asBool] at h2
   all_goals exact base h1 h2
  simp only[eqCells,Option.bind_eq_some_iff,Option.some.injEq] at h
  obtain ⟨a,h1,c,h2,d',h3,rfl⟩:=h
  subst h3
  rw[val r1 h1,val r2 h2]
  simp[Op.equalIn,run_underlying hu]
theorem eqS_str {d e:Nat} (hu:P.underlying e=some .string) (hc:P.cellsOf e=1):EqS P (d+1) e .str where
 plain:=by simp[Program.plainKey,hu]
 cells:=hc
 run:=by
  intro S w u v x y b r1 r2 h
  have val:∀ {u:Value} {x:V} {a:List UInt8},Rep S w u x []→asStr x.strip=some a→∃ s:ByteArray,u=.string s∧s.data.toList=a:=by
   intro u x a h1 h2
   have base:∀ {x:V},Rep S w u x []→asStr x=some a→∃ s:ByteArray,u=.string s∧s.data.toList=a:=by
    intro x h1 h2
    cases x <;> simp only[asStr,reduceCtorEq,Option.some.injEq] at h2
    cases h1;exact ⟨_,rfl,h2⟩
   cases x
   case cl x =>
    cases h1 with
    | cl h1=>exact base h1 h2
   case sl=>simp[V.strip,asStr] at h2
   all_goals exact base h1 h2
  simp only[eqCells,Option.bind_eq_some_iff,Option.some.injEq] at h
  obtain ⟨a,h1,c,h2,d',h3,rfl⟩:=h
  subst h3
  obtain ⟨s,e1,e2⟩:=val r1 h1
  obtain ⟨t,e3,e4⟩:=val r2 h2
  rw[e1,e3,run_equalIn_string w d e s t hu,←e2,←e4]
  simp[ByteArray.toList_eq]
theorem run_part_agg {e off:Nat} {xs:Array Value} (w:World) (ha:(∃ n e',P.underlying e=some (.array n e'))∨∃ fs,P.underlying e=some (.struct fs)):(part e xs off).run P w=.ok (.agg (xs.extract off (off+P.cellsOf e))) w:=by
 rcases ha with ⟨n,e',hu⟩ | ⟨fs,hu⟩
 ·
  obtain ⟨i,hi⟩:=info_of_underlying hu
  simp[part,isAgg,run_underlying hu,run_sizeOf w hi,Program.cellsOf,hi]
 ·
  obtain ⟨i,hi⟩:=info_of_underlying hu
  simp[part,isAgg,run_underlying hu,run_sizeOf w hi,Program.cellsOf,hi]
theorem EqD.step {d e off:Nat} {sk rest:List TK} (h:EqD P d e sk) {S:Nat→Prop} {w:World} {xs ys:Array Value} {vx vy:List V} {b:Bool} (hx:Reps S w (xs.toList.drop off) vx []) (hy:Reps S w (ys.toList.drop off) vy []) (he:eqCells (sk++rest) vx vy=some b) :
  ∃ u v b1 b2,(part e xs off).run P w=.ok u w∧(part e ys off).run P w=.ok v w∧(Op.equalIn d e u v).run P w=.ok b1 w∧b=(b1&&b2)∧P.cellsOf e=sk.length∧eqCells rest (vx.drop sk.length) (vy.drop sk.length)=some b2 ∧
   Reps S w (xs.toList.drop (off+sk.length)) (vx.drop sk.length) []∧Reps S w (ys.toList.drop (off+sk.length)) (vy.drop sk.length) []:=by
 obtain ⟨b1,b2,h1,h2,h3⟩:=eqCells_append he
 have dx:=hx.drop0 (n:=sk.length)
 have dy:=hy.drop0 (n:=sk.length)
 rw[List.drop_drop] at dx dy
 have tx:=hx.take0 (n:=sk.length)
 have ty:=hy.take0 (n:=sk.length)
 rcases h with ⟨k,rfl,hs⟩ | hg
 ·
  obtain ⟨l1,l2⟩:=eqCells_len h1
  have get:∀ {zs:Array Value} {vz:List V},Reps S w (zs.toList.drop off) vz []→(vz.take 1).length=1→∃ u x,zs[off]?=some u∧vz.take 1=[x]∧Rep S w u x []:=by
   intro zs vz hz hl
   cases vz with
   | nil=>simp at hl
   | cons x vz =>
    obtain ⟨u,g1,g2⟩:=hz.get (j:=0) (by simp)
    refine ⟨u,x,?_,by simp,by simpa using g2⟩
    have:(zs.toList.drop off)[0]?=zs[off]?:=by simp
    rw[←this,g1]
  obtain ⟨u,x,e1,e2,r1⟩:=get hx l1
  obtain ⟨v,y,e3,e4,r2⟩:=get hy l2
  have h1':eqCells [k] [x] [y]=some b1:=by rw[←e2,←e4];exact h1
  exact ⟨u,v,b1,b2,run_part_plain w hs.plain e1,run_part_plain w hs.plain e3,hs.run S w u v x y b1 r1 r2 h1',h3,hs.cells,h2,dx,dy⟩
 ·
  have ex:∀ zs:Array Value,(zs.extract off (off+P.cellsOf e)).toList=(zs.toList.drop off).take sk.length:=by
   intro zs
   rw[Array.toList_extract,hg.cells]
   simp[List.extract]
  exact ⟨_,_,b1,b2,run_part_agg w hg.agg,run_part_agg w hg.agg,hg.run S w _ _ _ _ b1 (by rw[ex];exact tx) (by rw[ex];exact ty) h1,h3,hg.cells,h2,dx,dy⟩
inductive EqFs (P:Program) (d:Nat):Nat→List Field→List TK→Prop
 | nil (o:Nat):EqFs P d o [] []
 | cons {o : Nat} {f : Field} {fs : List Field} {sk sks : List TK} : f.name ≠ "_" → f.offset = o → EqD P d f.type sk → EqFs P d (o + sk.length) fs sks → EqFs P d o (f :: fs) (sk ++ sks)
theorem run_eqFields_D {d:Nat} {S:Nat→Prop} {w:World} {xs ys:Array Value} {o:Nat} {fs:List Field} {sk:List TK} (h:EqFs P d o fs sk):∀ {vx vy:List V} {b:Bool},Reps S w (xs.toList.drop o) vx []→Reps S w (ys.toList.drop o) vy []→eqCells sk vx vy=some b →
  (Op.eqFields d xs ys fs).run P w=.ok b w:=by
 induction h with
 | nil o =>
  intro vx vy b hx hy he
  cases vx <;> cases vy <;> simp[eqCells] at he
  subst he
  simp[Op.eqFields]
 | cons h1 h2 h3 h4 ih =>
  intro vx vy b hx hy he
  subst h2
  obtain ⟨u,v,b1,b2,p1,p2,p3,rfl,hc,he2,dx,dy⟩:=h3.step hx hy he
  have:=ih dx dy he2
  simp only[Op.eqFields,ne_eq,h1,not_false_eq_true,if_true,Sem.run_bind,p1,p2,p3,Result.andThen_ok]
  cases b1 with
  | false=>simp
  | true=>simpa using this
theorem eqG_struct {d t:Nat} {sk:List TK} {fs:Array Field} (hu:P.underlying t=some (.struct fs)) (hp:P.stoodInHeld t=false) (hc:P.cellsOf t=sk.length) (hf:EqFs P d 0 fs.toList sk):EqG P (d+1) t sk where
 agg:=.inr ⟨_,hu⟩
 cells:=hc
 run:=by
  intro S w xs ys vx vy b hx hy he
  have hfs:P.fieldsOf t=fs:=by simp[Program.fieldsOf,hu]
  rw[run_equalIn_struct w d t xs ys (by rw[hfs];exact hu) hp,hfs]
  exact run_eqFields_D hf (by simpa using hx) (by simpa using hy) he
theorem run_eqItems_D {d e:Nat} {S:Nat→Prop} {w:World} {xs ys:Array Value} {sk:List TK} (h:EqD P d e sk) (hc:P.cellsOf e=sk.length):∀ (m o:Nat) {vx vy:List V} {b:Bool},Reps S w (xs.toList.drop (o*sk.length)) vx []→Reps S w (ys.toList.drop (o*sk.length)) vy []→eqCells (List.replicate m sk).flatten vx vy=some b →
  (Op.eqItems d e (P.cellsOf e) xs ys ((List.range m).map fun i=>o+i)).run P w=.ok b w
 | 0,o,vx,vy,b,hx,hy,he=>by
  cases vx <;> cases vy <;> simp[eqCells] at he
  subst he
  simp[Op.eqItems]
 | m+1,o,vx,vy,b,hx,hy,he=>by
  rw[List.replicate_succ,List.flatten_cons] at he
  obtain ⟨u,v,b1,b2,p1,p2,p3,rfl,hc',he2,dx,dy⟩:=h.step hx hy he
  rw[←Nat.succ_mul] at dx dy
  have ih:=run_eqItems_D h hc m (o+1) dx dy he2
  have hr:(List.range (m+1)).map (fun i=>o+i)=o::(List.range m).map fun i=>o+1+i:=by
   rw[List.range_succ_eq_map,List.map_cons,List.map_map]
   simp only[Nat.add_zero,List.cons.injEq,true_and]
   apply List.map_congr_left
   intro i _
   simp only[Function.comp,Nat.succ_eq_add_one];omega
  rw[hr]
  rw[←hc] at p1 p2
  simp only[Op.eqItems,Sem.run_bind,p1,p2,p3,Result.andThen_ok]
  cases b1 with
  | false=>simp
  | true=>simpa using ih
theorem eqG_arr {d t e n:Nat} {sk:List TK} (hu:P.underlying t=some (.array n e)) (hi:∃ ie,P.info? e=some ie) (hc:P.cellsOf t=(List.replicate n sk).flatten.length) (h:EqD P d e sk):EqG P (d+1) t (List.replicate n sk).flatten where
 agg:=.inl ⟨_,_,hu⟩
 cells:=hc
 run:=by
  intro S w xs ys vx vy b hx hy he
  obtain ⟨ie,hi⟩:=hi
  have hce:P.cellsOf e=sk.length:=by
   rcases h with ⟨k,rfl,hs⟩ | hg
   ·
    exact hs.cells
   ·
    exact hg.cells
  rw[run_equalIn_array w d xs ys hu hi]
  have:=run_eqItems_D (xs:=xs) (ys:=ys) h hce n 0 (S:=S) (w:=w) (by simpa using hx) (by simpa using hy) he
  simpa using this
theorem eqOK_D {t:Nat} {i:TI} (h:EqG P 10000 t i.sk) (hg:P.eqGuardType P.depth t=false):EqOK P t i:=by
 refine ⟨hg,fun S w xs ys vx vy b hx hy he=>?_⟩
 show (Op.equalIn 10000 t (.agg xs) (.agg ys)).run P w=_
 exact h.run S w xs ys vx vy b hx hy he
end
end Go.Zv
namespace Go.Zv
open Go Go.RowKit
section
variable {P:Program} {G:Nat→Option (List V)} {S:Nat→Prop} {w w':World}
theorem LibBox.nodup {kd T e b:Nat} {bs:List UInt8} {O:List Nat} (h:LibBox w kd T e b bs O):(b::O).Nodup:=by
 have row:∀ {v:Value},LibRow w e b v bs O→(b::O).Nodup:=by
  rintro v (⟨_,_,rfl⟩ | ⟨g,cap,cur,_,_,rfl,hg,_⟩)
  ·
   simp
  ·
   simpa using fun h:b=g=>hg h.symm
 rcases h with ⟨_,p,v,_,_,h⟩ | ⟨_,v,lr,_,h⟩ | ⟨_,rfl,_⟩
 ·
  exact row h
 ·
  exact row h
 ·
  simp
end
end Go.Zv
namespace Go.Zv
open Go Go.RowKit
section
variable {P:Program} {w w':World}
structure RowOut (w:World) (e b:Nat) (O:List Nat) (v':Value) (bs:List UInt8) (w':World) (O':List Nat):Prop where
 row:LibRow w' e b v' bs O'
 own:∀ y∈O',y∈O∨w.heap.size≤y
 size:w.heap.size≤w'.heap.size
 keep:∀ k,k<w.heap.size→k ∉ O→w'.heap[k]?=w.heap[k]?
 same:Same w w'
end
end Go.Zv
namespace Go.Zv
open Go Go.RowKit
section
variable {P:Program} {w:World}
end
end Go.Zv
namespace Go.Zv
open Go Go.RowKit
section
variable {P:Program}
theorem grow_appendK {t u ty e K:Nat} {i:TypeInfo} {z:Value} {k:IntKind} (ht:P.underlying t=some (.slice e)) (hu:P.underlying u=some (.int k)) (hi:P.info? e=some i) (hz:i.zero=some z) (hzc:z.cells.size=K) (hsz:i.size=K) (hby:i.bytes≤65536)
  (w:World) (A:Option Addr) (n:Nat) (h0:0<n) (hn:n≤lim) :
  ∃ cap cur,(Builtin.append_ #[t,u] ty #[.slice A 0 0,.int .i64 n]).run P w=.ok (.slice (some ⟨w.heap.size,0,none⟩) n cap) (w.drew.alloc (.cells cur e))∧n≤cap∧cap≤maxLen∧cur.size=cap*K:=by
 have hlim:lim=2147483648:=rfl
 have hsrc:Src P w z i.size (.int k) (.int .i64 n) n (Builtin.zeroCells z.cells n).toList:=.inl ⟨⟨_,rfl⟩,⟨_,rfl⟩,hn,rfl⟩
 have hold:(Builtin.firstCells i.size 0 (.slice A 0 0)).run P w.drew=.ok ([]:List Value).toArray w.drew:=by
  rw[hsz]
  cases A with
  | none=>rfl
  | some a=>simp[Builtin.firstCells];rfl
 have:=(run_append (P:=P) (w:=w) (ty:=ty) (z:=z) (base:=A) (sCap:=0) ht hu hi hz (by rw[hzc,hsz]) hby (by omega) hsrc hold).2 (by omega)
 rw[Nat.zero_add] at this
 have hcap:=grownCap_ge w n 0 e
 have hcm:=grownCap_le_maxLen w n 0 e (by unfold maxLen;omega)
 refine ⟨_,_,this,hcap,hcm,?_⟩
 have h1:(Builtin.zeroCells z.cells n).toList.toArray.size=n*K:=by simp[size_zeroCells,hzc]
 rw[Array.size_append,Array.size_append,h1,size_zeroCells,List.size_toArray,hzc]
 show 0+n*K+(grownCap w n 0 e-n)*K=_
 rw[Nat.zero_add,←Nat.add_mul,Nat.add_sub_cancel' hcap]
def primGrowK (K:Nat):List V→Option (V×List V)
 | [.sl k f rows,.int .i64 n]=>match f,rows with
  | true,[]=>if k=K∧0<K∧0≤n∧n≤(lim:Int) then some (.own false K [],[.ud,.ud]) else none
  | _,_=>none
 | _=>none
theorem growK_ok {G:Nat→Option (List V)} {f e K:Nat} {args outs:List V} {res:V} (he:∀ (vs:Array Value) (w:World),(callFunc f vs).run P w=.ok (.enter f vs) w)
  (h0:∀ (A:Option Addr) (w:World),Calls P f #[.slice A 0 0,.int .i64 0] w fun ex w'=>ex=.returned (.slice A 0 0)∧w'=w)
  (hc:∀ (A:Option Addr) (n:Nat) (w:World),0<n→n≤lim→Calls P f #[.slice A 0 0,.int .i64 n] w fun ex w'=>∃ cap cur,ex=.returned (.slice (some ⟨w.heap.size,0,none⟩) 0 cap)∧w'=w.drew.alloc (.cells cur e)∧cur.size=cap*K)
  (h:primGrowK K args=some (res,outs)):Does P G f args res outs:=by
 unfold primGrowK at h
 split at h
 ·
  rename_i k f' rows n
  split at h
  ·
   split at h
   ·
    rename_i hn
    obtain ⟨rfl,hK,hn⟩:=hn
    simp only[Option.some.injEq,Prod.mk.injEq] at h
    obtain ⟨rfl,rfl⟩:=h
    refine does_calls (args:=[.sl k true [],.int .i64 n]) he fun S w vs O hG=>?_
    obtain ⟨u,v,O1,O2,rfl,r1,r2⟩:=two hG.rep
    cases r2
    have hu:∃ A,u=.slice A 0 0:=by
     generalize hf:true=f at r1
     generalize hr:([]:List (List V))=rows at r1
     cases r1 with
     | sl0 a c _ _ hf'=>rw[hf' hf.symm];exact ⟨a,rfl⟩
     | sl h1 h2=>exact absurd hr.symm h2
    obtain ⟨A,rfl⟩:=hu
    obtain ⟨m,rfl⟩:=Int.eq_ofNat_of_zero_le hn.1
    by_cases hm:m=0
    ·
     subst hm
     refine (h0 A w).mono fun e w' ⟨h1,h2⟩=>⟨_,[],h1,?_,.own0 _ _ _,by simp,by simp⟩
     rw[h2];exact Below.refl _ _
    ·
     refine (hc A m w (by omega) (by omega)).mono fun ex w' ⟨cap,cur,h1,h2,h3⟩=>⟨_,[w.heap.size],h1,?_,?_,by simp,by simp⟩
     ·
      rw[h2]
      exact (Below.refl _ w).drew.alloc (Nat.le_refl _) _
     ·
      rw[h2]
      have hh:(w.drew.alloc (.cells cur e)).heap[w.heap.size]?=some (.cells cur e (0,0)):=heap_new w.drew _
      have:=Rep.own (S:=S) (w:=w.drew.alloc (.cells cur e)) (b:=w.heap.size) (o:=0) (c:=cap) (k:=k) (n:=false) (rows:=[]) (O:=[]) hK (by simp) ⟨cur,e,0,0,hh,by omega,.inl rfl⟩ (Nat.zero_le _) (fun _=>rfl) (.nil _ _)
      exact this
   ·
    cases h
  ·
   cases h
 ·
  cases h
def primRepI:List V→Option (V×List V)
 | [.sl 1 _ rows,.int .i64 n]=>match rows with
  | [[.int .i64 x]]=>if 0≤n∧n≤(lim:Int) then some (.own false 1 (List.replicate n.toNat [.int .i64 x]),[.ud,.ud]) else none
  | _=>none
 | _=>none
theorem repI_ok {G:Nat→Option (List V)} {f e:Nat} {args outs:List V} {res:V} (he:∀ (vs:Array Value) (w:World),(callFunc f vs).run P w=.ok (.enter f vs) w)
  (hc:∀ (b o c:Nat) (x:Int) (n:Nat) (w:World),w.cell? ⟨b,o,none⟩=some (.int .i64 x)→b<w.heap.size→n≤lim→1≤c →
   Calls P f #[.slice (some ⟨b,o,none⟩) 1 c,.int .i64 n] w fun ex w'=>∃ v',ex=.returned v'∧w'.ownsRow w.heap.size e 1 v' n (List.replicate n (.int .i64 x))∧Below w.heap.size w w')
  (h:primRepI args=some (res,outs)):Does P G f args res outs:=by
 unfold primRepI at h
 split at h
 ·
  rename_i f' rows n
  split at h
  ·
   rename_i x
   split at h
   ·
    rename_i hn
    simp only[Option.some.injEq,Prod.mk.injEq] at h
    obtain ⟨rfl,rfl⟩:=h
    refine does_calls (args:=[.sl 1 f' [[.int .i64 x]],.int .i64 n]) he fun S w vs O hG=>?_
    obtain ⟨u,v,O1,O2,rfl,r1,r2⟩:=two hG.rep
    cases r2
    have hu:∃ b o c,u=.slice (some ⟨b,o,none⟩) 1 c∧1≤c∧b<w.heap.size∧w.cell? ⟨b,o,none⟩=some (.int .i64 x):=by
     rcases rowsOf_rep (rows:=[[.int .i64 x]]) r1 rfl hG.low with ⟨h1,_⟩ | ⟨_,b,o,c,h1,h2,h3,_,h5⟩
     ·
      cases h1
     ·
      refine ⟨b,o,c,h1,h2,h3,?_⟩
      have h5':Mem S w b o [.int .i64 x] []:=by simpa using h5
      obtain ⟨O1,O2,O3,v,_,hc,hr,_,_,_⟩:=h5'.at (j:=0) (by simp)
      have hr':Rep S w v (.int .i64 x) O2:=by simpa using hr
      cases hr'
      simpa using hc
    obtain ⟨b,o,c,rfl,hc1,hb,hcell⟩:=hu
    obtain ⟨m,rfl⟩:=Int.eq_ofNat_of_zero_le hn.1
    refine (hc b o c x m w hcell hb (by omega) hc1).mono fun ex w' ⟨v',h1,hrow,h3⟩=>?_
    obtain ⟨O,g1,g2,g3⟩:=own_of_row (S:=S) (rows:=List.replicate m [.int .i64 x]) (by decide) hrow (by simp) (by simp) (by
     have e1:(List.replicate m ([.int .i64 x]:List V)).flatten=List.replicate m (.int .i64 x):=by
      induction m with
      | zero=>rfl
      | succ m ih=>simp[List.replicate_succ,List.flatten_replicate_singleton]
     rw[e1]
     have:∀ m:Nat,Reps S w' (List.replicate m (.int .i64 x)) (List.replicate m (V.int .i64 x)) []:=by
      intro m
      induction m with
      | zero=>exact .nil
      | succ m ih=>simpa[List.replicate_succ] using Reps.cons (O1:=[]) (O2:=[]) (Rep.int .i64 x) ih
     exact this m) (by
     intro v hv
     rw[List.mem_replicate] at hv
     rw[hv.2];rfl)
    exact ⟨_,O,h1,h3,by simpa using g1,g2,g3⟩
   ·
    cases h
  ·
   cases h
 ·
  cases h
end
end Go.Zv
namespace Go.Zv
open Go
def arrV (n:Nat) (k:IntKind) (a:Nat→Int):List V:=(List.range n).map fun i=>.int k (a i)
def updA (a:Nat→Int) (i:Nat) (x:Int):Nat→Int:=fun j=>cond (Nat.beq j i) x (a j)
def cpyA (a b:Nat→Int) (o m o':Nat):Nat→Int:=fun j=>cond (Nat.ble o j&&Nat.blt j (o+m)) (b (j-o+o')) (a j)
def zeroA:Nat→Int:=fun _=>0
def eqA (n:Nat) (a b:Nat→Int):Bool:=(List.range n).all fun i=>a i==b i
theorem arrV_length (n:Nat) (k:IntKind) (a:Nat→Int):(arrV n k a).length=n:=by simp[arrV]
theorem arrV_get {n:Nat} {k:IntKind} {a:Nat→Int} {i:Nat} (h:i<n):(arrV n k a)[i]?=some (.int k (a i)):=by
 simp[arrV,h]
theorem arrV_getD {n:Nat} {k:IntKind} {a:Nat→Int} {i:Nat} {d:V} (h:i<n):(arrV n k a).getD i d=.int k (a i):=by
 rw[List.getD_eq_getElem?_getD,arrV_get h];rfl
theorem arrV_getElem {n:Nat} {k:IntKind} {a:Nat→Int} {i:Nat} (h:i<(arrV n k a).length):(arrV n k a)[i]=.int k (a i):=by
 simp[arrV]
theorem arrV_ext {n:Nat} {k:IntKind} {l:List V} {a:Nat→Int} (hl:l.length=n) (h:∀ i,i<n→l[i]?=some (.int k (a i))):l=arrV n k a:=by
 apply List.ext_getElem?
 intro i
 by_cases hi:i<n
 ·
  rw[h i hi,arrV_get hi]
 ·
  rw[List.getElem?_eq_none (by omega),List.getElem?_eq_none (by rw[arrV_length];omega)]
theorem setRange_len {cells cs:List V} {o:Nat} (h:o+cs.length≤cells.length):(setRange cells o cs).length=cells.length:=by
 simp[setRange];omega
theorem setRange_get {cells cs:List V} {o:Nat} (h:o+cs.length≤cells.length) (i:Nat):(setRange cells o cs)[i]?=if o≤i∧i<o+cs.length then cs[i-o]? else cells[i]?:=by
 unfold setRange
 have ht:(cells.take o).length=o:=by simp;omega
 by_cases h1:i<o
 ·
  rw[List.append_assoc,List.getElem?_append_left (by omega),List.getElem?_take_of_lt h1,if_neg (by omega)]
 ·
  by_cases h2:i<o+cs.length
  ·
   rw[List.append_assoc,List.getElem?_append_right (by omega),List.getElem?_append_left (by omega),if_pos ⟨by omega,h2⟩,ht]
  ·
   rw[List.getElem?_append_right (by simp;omega),List.getElem?_drop,if_neg (by omega)]
   congr 1
   simp;omega
theorem setRange_arrV {n:Nat} {k:IntKind} {a:Nat→Int} {o:Nat} {x:Int} (h:o<n):setRange (arrV n k a) o [.int k x]=arrV n k (updA a o x):=by
 refine arrV_ext (by rw[setRange_len (by rw[arrV_length];exact h),arrV_length]) fun i hi=>?_
 rw[setRange_get (by rw[arrV_length];exact h)]
 by_cases e:i=o
 ·
  subst e
  rw[if_pos (by simp)]
  simp[updA]
 ·
  rw[if_neg (by simp;omega),arrV_get hi]
  have:Nat.beq i o=false:=by
   cases hb:Nat.beq i o with
   | false=>rfl
   | true=>exact absurd (Nat.eq_of_beq_eq_true hb) e
  simp[updA,this]
theorem setRange_copy {n n':Nat} {k:IntKind} {a b:Nat→Int} {o m o':Nat} (h:o+m≤n) (h':o'+m≤n'):setRange (arrV n k a) o (((arrV n' k b).drop o').take m)=arrV n k (cpyA a b o m o'):=by
 have hl:(((arrV n' k b).drop o').take m).length=m:=by simp[arrV_length];omega
 refine arrV_ext (by rw[setRange_len (by rw[arrV_length,hl];exact h),arrV_length]) fun i hi=>?_
 rw[setRange_get (by rw[arrV_length,hl];exact h),hl]
 by_cases e:o≤i∧i<o+m
 ·
  rw[if_pos e,List.getElem?_take,if_pos (by omega),List.getElem?_drop,arrV_get (by omega)]
  have h1:Nat.ble o i=true:=by rw[Nat.ble_eq];exact e.1
  have h2:Nat.blt i (o+m)=true:=by rw[Nat.blt_eq];exact e.2
  simp only[cpyA,h1,h2,Bool.and_true,cond_true]
  rw[show o'+(i-o)=i-o+o' by omega]
 ·
  rw[if_neg e,arrV_get hi]
  have:(Nat.ble o i&&Nat.blt i (o+m))=false:=by
   rw[Bool.and_eq_false_iff]
   by_cases h3:o≤i
   ·
    right
    cases hb:Nat.blt i (o+m) with
    | false=>rfl
    | true=>rw[Nat.blt_eq] at hb;exact absurd ⟨h3,hb⟩ e
   ·
    left
    cases hb:Nat.ble o i with
    | false=>rfl
    | true=>rw[Nat.ble_eq] at hb;exact absurd hb h3
  simp only[cpyA,this,cond_false]
theorem setRange_copy0 {n n':Nat} {k:IntKind} {a b:Nat→Int} {o m:Nat} (h:o+m≤n) (h':m≤n'):setRange (arrV n k a) o ((arrV n' k b).take m)=arrV n k (cpyA a b o m 0):=by
 have:=setRange_copy (a:=a) (b:=b) (k:=k) (o':=0) h (by omega:0+m≤n')
 simpa using this
theorem arrV_all {n:Nat} {k:IntKind} {a:Nat→Int} {f:V→Bool} (h:∀ x,f (.int k x)=true):(arrV n k a).all f=true:=by
 simp[arrV,h]
theorem arrV_any {n:Nat} {k:IntKind} {a:Nat→Int} {f:V→Bool} (h:∀ x,f (.int k x)=false):(arrV n k a).any f=false:=by
 simp[arrV,h]
theorem arrT_all {n m o:Nat} {k:IntKind} {a:Nat→Int} {f:V→Bool} (h:∀ x,f (.int k x)=true):(((arrV n k a).drop o).take m).all f=true:=by
 rw[List.all_eq_true]
 intro x hx
 have h1:=List.mem_of_mem_drop (List.mem_of_mem_take hx)
 obtain ⟨i,_,rfl⟩:=List.mem_map.1 h1
 exact h _
theorem arrT_any {n m o:Nat} {k:IntKind} {a:Nat→Int} {f:V→Bool} (h:∀ x,f (.int k x)=false):(((arrV n k a).drop o).take m).any f=false:=by
 rw[List.any_eq_false]
 intro x hx
 have h1:=List.mem_of_mem_drop (List.mem_of_mem_take hx)
 obtain ⟨i,_,rfl⟩:=List.mem_map.1 h1
 simp[h]
theorem arrK_all {n m:Nat} {k:IntKind} {a:Nat→Int} {f:V→Bool} (h:∀ x,f (.int k x)=true):((arrV n k a).take m).all f=true:=arrT_all (o:=0) h
theorem arrK_any {n m:Nat} {k:IntKind} {a:Nat→Int} {f:V→Bool} (h:∀ x,f (.int k x)=false):((arrV n k a).take m).any f=false:=arrT_any (o:=0) h
theorem goodCells_arrT (n m o:Nat) (k:IntKind) (a:Nat→Int):goodCells (((arrV n k a).drop o).take m)=true:=arrT_all fun _=>rfl
theorem goodCells_arrK (n m:Nat) (k:IntKind) (a:Nat→Int):goodCells ((arrV n k a).take m)=true:=arrK_all fun _=>rfl
theorem anySlice_arrT (n m o:Nat) (k:IntKind) (a:Nat→Int):(((arrV n k a).drop o).take m).any isSliceB=false:=arrT_any fun _=>rfl
theorem anySlice_arrK (n m:Nat) (k:IntKind) (a:Nat→Int):((arrV n k a).take m).any isSliceB=false:=arrK_any fun _=>rfl
theorem anySlice_arrV (n:Nat) (k:IntKind) (a:Nat→Int):(arrV n k a).any isSliceB=false:=arrV_any fun _=>rfl
theorem goodCells_arrV (n:Nat) (k:IntKind) (a:Nat→Int):goodCells (arrV n k a)=true:=arrV_all fun _=>rfl
theorem goodCells_app (n:Nat) (k:IntKind) (a:Nat→Int) (t:List V):goodCells (arrV n k a++t)=goodCells t:=by
 unfold goodCells
 rw[List.all_append,show (arrV n k a).all _=true from goodCells_arrV n k a,Bool.true_and]
theorem hasOwn_arrV (n:Nat) (k:IntKind) (a:Nat→Int):hasOwn (arrV n k a)=false:=arrV_any fun _=>rfl
theorem hasOwn_app (n:Nat) (k:IntKind) (a:Nat→Int) (t:List V):hasOwn (arrV n k a++t)=hasOwn t:=by
 unfold hasOwn
 rw[List.any_append,show (arrV n k a).any _=false from hasOwn_arrV n k a,Bool.false_or]
theorem shareCells_app:∀ (xs ys:List V),shareCells (xs++ys)=shareCells xs++shareCells ys
 | [],_=>rfl
 | x::xs,ys=>by simp only[List.cons_append,shareCells,shareCells_app xs ys]
theorem shareCells_map (k:IntKind) (a:Nat→Int):∀ l:List Nat,shareCells (l.map fun i=>V.int k (a i))=l.map fun i=>V.int k (a i)
 | []=>rfl
 | i::l=>by simp only[List.map_cons,shareCells,shareCells_map k a l]
theorem shareCells_arrV (n:Nat) (k:IntKind) (a:Nat→Int):shareCells (arrV n k a)=arrV n k a:=shareCells_map k a _
theorem shareCells_arrA (n:Nat) (k:IntKind) (a:Nat→Int) (t:List V):shareCells (arrV n k a++t)=arrV n k a++shareCells t:=by
 rw[shareCells_app,shareCells_arrV]
theorem stripAll_arrV (n:Nat) (k:IntKind) (a:Nat→Int):stripAll (arrV n k a)=arrV n k a:=by
 unfold stripAll arrV
 rw[List.map_map];rfl
theorem take_arrA (n:Nat) (k:IntKind) (a:Nat→Int) (t:List V):(arrV n k a++t).take n=arrV n k a:=List.take_left' (arrV_length n k a)
theorem take_arrB {n:Nat} {k:IntKind} {a:Nat→Int} {t:List V} {m:Nat} (h:n≤m):(arrV n k a++t).take m=arrV n k a++t.take (m-n):=by
 rw[List.take_append,List.take_of_length_le (by rw[arrV_length];exact h),arrV_length]
theorem take_arrV (n:Nat) (k:IntKind) (a:Nat→Int):(arrV n k a).take n=arrV n k a:=List.take_of_length_le (by rw[arrV_length];exact Nat.le_refl _)
theorem drop_arrA {n:Nat} {k:IntKind} {a:Nat→Int} {t:List V} {m:Nat} (h:n≤m):(arrV n k a++t).drop m=t.drop (m-n):=by
 rw[List.drop_append,List.drop_of_length_le (by rw[arrV_length];exact h),arrV_length,List.nil_append]
theorem drop_arrV (n:Nat) (k:IntKind) (a:Nat→Int):(arrV n k a).drop n=[]:=List.drop_of_length_le (by rw[arrV_length];exact Nat.le_refl _)
theorem getD_arrA {n:Nat} {k:IntKind} {a:Nat→Int} {t:List V} {m:Nat} {d:V} (h:n≤m):(arrV n k a++t).getD m d=t.getD (m-n) d:=by
 rw[List.getD_eq_getElem?_getD,List.getElem?_append_right (by rw[arrV_length];exact h),arrV_length,←List.getD_eq_getElem?_getD]
theorem getD_arrAl {n:Nat} {k:IntKind} {a:Nat→Int} {t:List V} {m:Nat} {d:V} (h:m<n):(arrV n k a++t).getD m d=.int k (a m):=by
 rw[List.getD_eq_getElem?_getD,List.getElem?_append_left (by rw[arrV_length];exact h),←List.getD_eq_getElem?_getD,arrV_getD h]
theorem set_arrA {n:Nat} {k:IntKind} {a:Nat→Int} {t:List V} {m:Nat} {x:V} (h:n≤m):(arrV n k a++t).set m x=arrV n k a++t.set (m-n) x:=by
 rw[List.set_append,if_neg (by rw[arrV_length];omega),arrV_length]
theorem setRange_arrA {n:Nat} {k:IntKind} {a:Nat→Int} {t:List V} {m:Nat} {cs:List V} (h:n≤m):setRange (arrV n k a++t) m cs=arrV n k a++setRange t (m-n) cs:=by
 unfold setRange
 rw[List.take_append,List.take_of_length_le (by rw[arrV_length];exact h),arrV_length,List.drop_append,List.drop_of_length_le (by rw[arrV_length];omega),arrV_length]
 simp only[List.append_assoc,List.nil_append]
 rw[show m+cs.length-n=m-n+cs.length by omega]
theorem setRange_arr0 (n:Nat) (k:IntKind) (a b:Nat→Int) (t:List V):setRange (arrV n k a++t) 0 (arrV n k b)=arrV n k b++t:=by
 unfold setRange
 rw[List.take_zero,List.nil_append,Nat.zero_add,arrV_length,drop_arrA (Nat.le_refl _),Nat.sub_self,List.drop_zero]
theorem setRange_arrV0 (n:Nat) (k:IntKind) (a b:Nat→Int):setRange (arrV n k a) 0 (arrV n k b)=arrV n k b:=by
 have:=setRange_arr0 n k a b []
 simpa using this
theorem setRange_arrAll (n:Nat) (k:IntKind) (a b:Nat→Int) (t u:List V) (h:u.length=t.length):setRange (arrV n k a++t) 0 (arrV n k b++u)=arrV n k b++u:=by
 unfold setRange
 rw[List.take_zero,List.nil_append,Nat.zero_add,List.length_append,arrV_length,drop_arrA (by omega),List.drop_of_length_le (by omega),List.append_nil]
theorem eqCells_arrV (k:IntKind) (a b:Nat→Int):∀ l:List Nat,eqCells (List.replicate l.length (.int k)) (l.map fun i=>.int k (a i)) (l.map fun i=>.int k (b i))=some (l.all fun i=>a i==b i)
 | []=>rfl
 | i::l=>by
  simp only[List.length_cons,List.replicate_succ,List.map_cons,eqCells,V.strip,asInt,if_true,Option.bind_some,eqCells_arrV k a b l,List.all_cons]
theorem eqCells_arr (n:Nat) (k:IntKind) (a b:Nat→Int):eqCells (List.replicate n (.int k)) (arrV n k a) (arrV n k b)=some (eqA n a b):=by
 have:=eqCells_arrV k a b (List.range n)
 rwa [List.length_range] at this
theorem bldA3 (k:IntKind) (a0 a1 a2:Int):[V.int k a0,V.int k a1,V.int k a2]=arrV 3 k (updA (updA (updA zeroA 0 a0) 1 a1) 2 a2):=rfl
end Go.Zv
