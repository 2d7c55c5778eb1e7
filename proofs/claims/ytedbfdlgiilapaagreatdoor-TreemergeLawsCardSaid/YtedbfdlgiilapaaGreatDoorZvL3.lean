/- Zv: a pure interpreter of the translated code over values, and that it is right. No condition. -/
import Derived.Test.YtedbfdlgiilapaaGreatDoorZvL2
import Derived.Laws.MakeOwn
import Derived.Laws.Strings
import Derived.Lib.ConvBytes
import Derived.Laws.BytesString
set_option linter.unusedSimpArgs false
set_option linter.unusedVariables false
namespace Go.Zv
open Go
def OutV {R:Type} (E:Env) (r:R) (K:List V→Option R) (S:Nat→Prop) (who:Nat→Option Nat) (w:World) (a:Act) (dst:Option Nat) (res:Result Value):Prop :=
 ∃ u w' σ' S' who',res=.ok u w'∧K σ'=some r∧Rel E S' who' w' (a.put dst u).tmps σ'∧Step S who w S' who' w'
section
variable {R:Type} {P:Program} {E:Env} {r:R} {K:List V→Option R} {S S':Nat→Prop} {who who':Nat→Option Nat} {w w':World} {a:Act} {dst:Option Nat} {σ σ':List V}
theorem outv_put {res:Result Value} {u:Value} {v:V} {O:List Nat} (hres:res=.ok u w') (h:Rel E S' who' w' a.tmps σ') (hst:Step S who w S' who' w')
  (hr:Rep S' w' u v O) (hn:O.Nodup) (hO:∀ b∈O,(who' b=none∧¬S' b)∧(who b≠none∨w.heap.size≤b)) (hl:Link w' a.tmps σ' u v) (hK:K (put dst v σ')=some r) :
  OutV E r K S who w a dst res:=by
 cases dst with
 | none=>exact ⟨u,w',σ',S',who',hres,hK,h,hst⟩
 | some d =>
  obtain ⟨who2,h2,h3⟩:=h.put (d:=d) hr hn (fun b hb=>(hO b hb).1) hl
  refine ⟨u,w',_,S',who2,hres,hK,h2,⟨hst.size,hst.keep,hst.sub,hst.new,fun b hb=>?_,hst.out⟩⟩
  rcases h3 b hb with h4 | h4
  ·
   exact hst.own b h4
  ·
   exact (hO b h4).2
theorem outv_val {res:Result Value} {u:Value} {v:V} (hres:res=.ok u w) (h:Rel E S who w a.tmps σ) (hr:Rep S w u v []) (hl:Link w a.tmps σ u v) (hK:K (put dst v σ)=some r) :
  OutV E r K S who w a dst res :=
 outv_put hres h (Step.refl _ _ _) hr (by simp) (by simp) hl hK
theorem outv_new {res:Result Value} {u:Value} {v:V} {O:List Nat} {vs:List Value} {xs:List V} {cells:Array Value} {e:TypeId} (hres:res=.ok u (w.alloc (.cells cells e)))
  (h:Rel E S' who' w a.tmps σ') (hst:Step S who w S' who' w) (hr:Reps S' w vs xs O) (hL:Loose S' who who' O) (h0:∀ v∈vs,v.oneCell'=true) (hc:∃ l,cells.toList=vs++l)
  (hv:Mem S' (w.alloc (.cells cells e)) w.heap.size 0 xs O→(∀ k,OpenRow k (w.alloc (.cells cells e)) w.heap.size cells.size)→Rep S' (w.alloc (.cells cells e)) u v (w.heap.size::O))
  (hf:linkFree v=true) (hK:K (put dst v σ')=some r):OutV E r K S who w a dst res:=by
 obtain ⟨hm,hop,hno,hwn,hsn⟩:=alloc_sem h hr h0 cells e hc
 have hrep:=hv hm hop
 refine outv_put hres (h.grow (Grows.alloc w _)) (hst.grow (Grows.alloc w _)) hrep (by simp[hno,hL.1]) (fun b hb=>?_) (hrep.link hf) hK
 rcases List.mem_cons.1 hb with rfl | hb
 ·
  exact ⟨⟨hwn,hsn⟩,.inr (Nat.le_refl _)⟩
 ·
  obtain ⟨g1,g2,g3⟩:=hL.2 b hb
  exact ⟨⟨g1,g2⟩,.inl g3⟩
theorem run_newVar {t:Nat} {u:Value}:(newVar t u).run P w=.ok ⟨w.heap.size,0,none⟩ (w.alloc (.cells u.cells t)):=by
 simp[newVar,newRow]
theorem box_out {t:Nat} {x:Operand} (hT:∀ i,E.tys t=some i→TyOK P t i) (h:Rel E S who w a.tmps σ)
  (hs:(match E.tys t with
   | some i=>cond i.kind.isAgg
     (match opnd E σ x with
      | .agg cs=>cond (goodCells cs) (if cs.length=i.size then K (put dst (.obox (boxed i.sk cs)) σ) else none) none
      | _=>none)
     (cellVal true i.kind σ (opnd E σ x) fun c σ'=>K (put dst (.obox [c]) σ'))
   | none=>none)=some r):OutV E r K S who w a dst ((Instr.box t (a.eval x)).run P w):=by
 have hrun:(Instr.box t (a.eval x)).run P w=.ok (.pointer (some ⟨w.heap.size,0,none⟩)) (w.alloc (.cells (a.eval x).cells t)):=by
  simp only[Instr.box,Sem.run_bind,run_newVar,Result.andThen_ok,Sem.run_pure]
 obtain ⟨hrx,hlx⟩:=opnd_spec h x
 split at hs
 ·
  rename_i i hi
  cases hag:i.kind.isAgg with
  | true =>
   rw[hag] at hs
   simp only[cond_true] at hs
   split at hs
   ·
    rename_i cs hx
    rw[hx] at hrx
    cases hg:goodCells cs with
    | false=>rw[hg] at hs;cases hs
    | true =>
     rw[hg] at hs
     simp only[cond_true] at hs
     split at hs
     ·
      rename_i hlen
      cases hv:a.eval x with
      | agg us =>
       rw[hv] at hrx hrun
       cases hrx with
       | agg h0 hreps =>
        have hl:=hreps.len
        exact outv_new hrun h (Step.refl _ _ _) (boxed_reps (sk:=i.sk) hreps) ⟨by simp,by simp⟩ h0 ⟨[],by simp[Value.cells]⟩
         (fun hm hop=>.obox (by rw[boxed_len,←hl];simpa[Value.cells] using hop _) hm) rfl hs
      | _=>rw[hv] at hrx;cases hrx
     ·
      cases hs
   ·
    cases hs
  | false =>
   rw[hag] at hs
   simp only[cond_false] at hs
   obtain ⟨c,σ',S',who',O,h1,h2,h3,h4,_,_,hone,_,h5⟩:=cellVal_sem h hrx hlx hs
   have hcells:(a.eval x).cells=#[a.eval x]:=by cases hv:a.eval x <;> first | rfl | (rw[hv] at hone;cases hone)
   rw[hcells] at hrun
   exact outv_new hrun h2 h5 (vs:=[a.eval x]) (by simpa using Reps.cons h3 .nil) h4 (by simpa using hone) ⟨[],by simp⟩ (fun hm hop=>.obox (by simpa using hop _) hm) rfl h1
 ·
  cases hs
def libZero (kd:Nat) (z:Value):Prop:=(kd=0∧z.cells=#[.pointer none,.slice none 0 0])∨(kd=1∧z.cells=#[.slice none 0 0,.int .i64 0,.int .i8 0])
theorem alloc_out {t:Nat} (hT:∀ i,E.tys t=some i→TyOK P t i) (hL:∀ kd e,E.lib t=some (kd,e)→∃ ti z,P.info? t=some ti∧ti.zero=some z∧libZero kd z) (h:Rel E S who w a.tmps σ)
  (hs:(match E.lib t with
   | some (kd,e)=>K (put dst (.lib kd t e []) σ)
   | none=>match E.tys t with
    | some i=>K (put dst (.obox (boxed i.sk i.zero)) σ)
    | none=>none)=some r):OutV E r K S who w a dst ((Instr.alloc t true (.tuple #[])).run P w):=by
 split at hs
 ·
  rename_i kd e hk
  obtain ⟨ti,z,hti,hz,hlz⟩:=hL kd e hk
  have hrun:(Instr.alloc t true (.tuple #[])).run P w=.ok (.pointer (some ⟨w.heap.size,0,none⟩)) (w.alloc (.cells z.cells t)):=by
   simp only[Instr.alloc,Sem.run_bind,run_zero w hti hz,run_newVar,Result.andThen_ok,Sem.run_pure]
  refine outv_new (vs:=[]) (xs:=[]) hrun h (Step.refl _ _ _) .nil ⟨by simp,by simp⟩ (by simp) ⟨_,rfl⟩ (fun _ _=>.lib ?_) rfl hs
  have hn:(w.alloc (.cells z.cells t)).heap[w.heap.size]?=some (.cells z.cells t (0,0)):=heap_new w _
  rcases hlz with ⟨rfl,e0⟩ | ⟨rfl,e0⟩
  ·
   exact .inl ⟨rfl,_,_,by rw[hn,e0],.inl rfl,.inl ⟨rfl,rfl,rfl⟩⟩
  ·
   exact .inr (.inl ⟨rfl,_,_,by rw[hn,e0],.inl ⟨rfl,rfl,rfl⟩⟩)
 split at hs
 ·
  rename_i i hi
  obtain ⟨ti,z,hti,hsz,hz,hzero,hzs,h0⟩:=(hT i hi).info
  have hrun:(Instr.alloc t true (.tuple #[])).run P w=.ok (.pointer (some ⟨w.heap.size,0,none⟩)) (w.alloc (.cells z.cells t)):=by
   simp only[Instr.alloc,Sem.run_bind,run_zero w hti hz,run_newVar,Result.andThen_ok,Sem.run_pure]
  have hreps:Reps S w z.cells.toList (boxed i.sk i.zero) []:=by rw[hzero];exact boxed_reps (ofScalars_rep S w _)
  exact outv_new hrun h (Step.refl _ _ _) hreps ⟨by simp,by simp⟩ h0 ⟨[],by simp⟩
   (fun hm hop=>.obox (by rw[boxed_len,hzero];simpa using hop _) hm) rfl hs
 ·
  cases hs
theorem build_out {t:Nat} {parts:Array (Nat×Operand)} (hT:∀ i,E.tys t=some i→TyOK P t i) (h:Rel E S who w a.tmps σ)
  (hs:(match E.tys t with
   | some i=>match i.kind with
    | .struct fs=>fillCells (fun j=>(fs[j]?).map fun f=>(f.1,f.2.2)) false E parts.toList i.zero σ fun cs σ'=>K (put dst (.agg (canonB (flag E.nests dst) i.sk cs)) σ')
    | .arr n k _=>fillCells (fun j=>some (j*k,k)) false E parts.toList i.zero σ fun cs σ'=>K (put dst (.agg (canonB (flag E.nests dst) i.sk cs)) σ')
    | _=>none
   | none=>none)=some r):OutV E r K S who w a dst ((Instr.build t (parts.map fun (i,x)=>(i,a.eval x))).run P w):=by
 split at hs
 ·
  rename_i i hi
  have hTi:=hT i hi
  obtain ⟨ti,z,hti,hsz,hz,hzero,hzs,h0⟩:=hTi.info
  obtain ⟨d,hd,hk⟩:=hTi.under
  have hreps:Reps S w z.cells.toList i.zero []:=by rw[hzero];exact ofScalars_rep S w _
  have hparts:(parts.map fun (i,x)=>(i,a.eval x)).toList=parts.toList.map fun x=>(x.1,a.eval x.2):=by simp
  have fin:∀ {cs:List V} {σ':List V} {S':Nat→Prop} {who':Nat→Option Nat} {O:List Nat} {acc':Array Value},P.built t (parts.toList.map fun x=>(x.1,a.eval x.2))=some acc'→K (put dst (.agg (canonB (flag E.nests dst) i.sk cs)) σ')=some r →
    Rel E S' who' w a.tmps σ'→Reps S' w acc'.toList cs O→O=[]→(∀ v∈acc'.toList,v.oneCell'=true)→Step S who w S' who' w→OutV E r K S who w a dst ((Instr.build t (parts.map fun (i,x)=>(i,a.eval x))).run P w):=by
   intro cs σ' S' who' O acc' hb hK h2 h3 hO h4 h5
   subst hO
   exact outv_put (run_build w t _ acc' (by rw[hparts];exact hb)) h2 h5 (.agg h4 (h3.canonB _ _)) (by simp) (by simp) trivial hK
  split at hs
  ·
   rename_i l hkind
   cases d <;> simp only[KindOK,hkind,reduceCtorEq] at hk
   case slice e=>obtain ⟨_,_,_,_,h,_⟩:=hk;cases h
   case array n e=>obtain ⟨h,_⟩:=hk;cases h
   case struct fs =>
    obtain ⟨l',hl',e2,hfs⟩:=hk
    cases hl'
    obtain ⟨cs,σ',S',who',O,acc',g1,g2,g3,g4,g5,g6,g7,g8,g9⟩:=fill_sem _ false (who0:=who) parts.toList h hreps ⟨by simp,by simp⟩ h0 (fun _=>rfl) (fun _ h=>h) hs
    refine fin ?_ g2 g3 g4 (g7 rfl) g6 g8
    have hplaces:fs.toList.mapM (fun f=>(P.info? f.type).map fun i=>(f.offset,i.size))=some (fs.toList.map fun f=>(f.offset,P.cellsOf f.type)):=by
     have:∀ l:List Field,(∀ f∈l,∃ ti,P.info? f.type=some ti)→l.mapM (fun f=>(P.info? f.type).map fun i=>(f.offset,i.size))=some (l.map fun f=>(f.offset,P.cellsOf f.type)):=by
      intro l
      induction l with
      | nil=>intro _;rfl
      | cons f l ih =>
       intro hl
       obtain ⟨ti,hti⟩:=hl f (by simp)
       simp[List.mapM_cons,hti,ih fun f hf=>hl f (by simp[hf]),cellsOf_info hti]
     exact this _ hfs
    simp only[Program.built,hti,hd,hz,hplaces]
    rw[←g1]
    congr 1
    funext j
    subst e2
    simp only[List.getElem?_toArray,List.getElem?_map]
    cases fs.toList[j]? <;> rfl
  ·
   rename_i n k e0 hkind
   cases d <;> simp only[KindOK,hkind,reduceCtorEq] at hk
   case slice e=>obtain ⟨_,_,_,_,h,_⟩:=hk;cases h
   case struct fs=>obtain ⟨_,h,_⟩:=hk;cases h
   case array n' e =>
    obtain ⟨h1,hpos,ie,hie⟩:=hk
    cases h1
    obtain ⟨cs,σ',S',who',O,acc',g1,g2,g3,g4,g5,g6,g7,g8,g9⟩:=fill_sem _ false (who0:=who) parts.toList h hreps ⟨by simp,by simp⟩ h0 (fun _=>rfl) (fun _ h=>h) hs
    refine fin ?_ g2 g3 g4 (g7 rfl) g6 g8
    simp only[Program.built,hti,hd,hz,hie]
    rw[←g1,cellsOf_info hie]
  ·
   cases hs
 ·
  cases hs
theorem reps_map {f:Nat→Value} {g:Nat→V}:∀ l:List Nat,(∀ j∈l,Rep S w (f j) (g j) [])→Reps S w (l.map f) (l.map g) []
 | [],_=>.nil
 | j::l,h=>by simpa using Reps.cons (h j (by simp)) (reps_map l fun i hi=>h i (by simp[hi]))
theorem zeros_reps {z:Value} {ez:List V} {k n:Nat} (hez:ZCs z.cells.toList ez) (hk:z.cells.size=k) (hpos:0<k) :
  Reps S w ((Array.range n).map (fun j=>z.cells[j % z.cells.size]!)).toList ((List.range n).map fun j=>ez.getD (j % k) .ud) [] ∧
   ((∀ c∈z.cells.toList,c.oneCell'=true)→∀ v∈((Array.range n).map (fun j=>z.cells[j % z.cells.size]!)).toList,v.oneCell'=true):=by
 have e1:((Array.range n).map (fun j=>z.cells[j % z.cells.size]!)).toList=(List.range n).map fun j=>z.cells[j % k]! := by
  rw[Array.toList_map,Array.toList_range,hk]
 have hlt:∀ j,j % k<z.cells.size:=fun j=>by rw[hk];exact Nat.mod_lt _ hpos
 rw[e1]
 refine ⟨reps_map _ fun j _=>?_,fun h v hv=>?_⟩
 ·
  have:=(hez.get (j % k) (by simpa using hlt j)).rep (S:=S) (w:=w)
  rw[getElem!_pos z.cells (j % k) (hlt j)]
  simpa using this
 ·
  obtain ⟨j,_,rfl⟩:=List.mem_map.1 hv
  have:=hlt j
  rw[getElem!_pos z.cells (j % k) this]
  exact h _ (by simp)
theorem buildSlice_out {t len:Nat} {nest:Bool} {parts:Array (Nat×Operand)} (hT:∀ i,E.tys t=some i→TyOK P t i) (h:Rel E S who w a.tmps σ)
  (hs:(match E.tys t with
   | some i=>match i.kind with
    | .slice k _=>if len*k≤65536 then
      fillCells (fun j=>some (j*k,k)) nest E parts.toList ((List.range (len*k)).map fun j=>i.ez.getD (j % k) .ud) σ fun cs σ' =>
       K (put dst (.own nest k (chunks len k (stripAll cs))) σ')
     else none
    | _=>none
   | none=>none)=some r):OutV E r K S who w a dst ((Instr.buildSlice t len (parts.map fun (i,x)=>(i,a.eval x))).run P w):=by
 split at hs
 ·
  rename_i i hi
  obtain ⟨d,hd,hk⟩:=(hT i hi).under
  split at hs
  ·
   rename_i k b hkind
   split at hs
   ·
    rename_i hle
    cases d <;> simp only[KindOK,hkind,reduceCtorEq] at hk
    case array n e=>obtain ⟨h,_⟩:=hk;cases h
    case struct fs=>obtain ⟨_,h,_⟩:=hk;cases h
    case slice e =>
     obtain ⟨ie,z,hie,hz,h1,hez,hsz,hpos,h0⟩:=hk
     cases h1
     have hz0:=zeros_reps (S:=S) (w:=w) (n:=len*ie.size) hez hsz.symm hpos
     obtain ⟨cs,σ',S',who',O,acc',g1,g2,g3,g4,g5,g6,g7,g8,g9⟩:=fill_sem _ nest (who0:=who) parts.toList h hz0.1 ⟨by simp,by simp⟩ (hz0.2 h0) (fun _=>rfl) (fun _ h=>h) hs
     have hparts:(parts.map fun (i,x)=>(i,a.eval x)).toList=parts.toList.map fun x=>(x.1,a.eval x.2):=by simp
     have hrun:(Instr.buildSlice t len (parts.map fun (i,x)=>(i,a.eval x))).run P w=.ok (.slice (some ⟨w.heap.size,0,none⟩) len len) (w.alloc (.cells acc' e)):=by
      have hns:¬len*ie.size>2 ^ 24:=by omega
      by_cases h0':len=0
      ·
       subst h0'
       have g1':Instr.fill (fun j=>some (j*ie.size,ie.size)) #[] (parts.toList.map fun x=>(x.1,a.eval x.2))=some acc':=by
        rw[←g1];congr 1;simp
       simp[Instr.buildSlice,run_under w hd,run_sizeOf w hie,show Array.range 0=#[] from by simp,g1',newRow]
      ·
       have h0'':¬len*ie.size=0:=by
        intro hc
        rcases Nat.mul_eq_zero.1 hc with h | h
        ·
         exact h0' h
        ·
         omega
       simp only[Instr.buildSlice,Sem.run_bind,run_under w hd,Result.andThen_ok,run_sizeOf w hie,hns,if_false,h0'',run_zero w hie hz,Sem.run_pure]
       rw[hparts]
       simp only[g1,newRow,Sem.run_bind,run_newObj,Result.andThen_ok,Sem.run_pure,World.alloc_eq]
     have hlen:cs.length=len*ie.size:=by rw[g9];simp
     obtain ⟨c1,c2,c3⟩:=chunks_flatten (k:=ie.size) (n:=len) (cs:=stripAll cs) (by rw[strip_len];exact hlen)
     have hal:acc'.size=len*ie.size:=by have:=g4.len;rw[hlen] at this;simpa using this
     by_cases hl0:len=0
     ·
      subst hl0
      have hc0:chunks 0 ie.size (stripAll cs)=[]:=by simpa using c3
      rw[hc0] at g2
      refine outv_put hrun (g3.grow (Grows.alloc w _)) (g8.grow (Grows.alloc w _)) (.own0 _ _ _) (by simp) (by simp) trivial g2
     ·
      refine outv_new hrun g3 g8 (strip_repsO g4) g5 g6 ⟨[],by simp⟩ (fun hm hop=>?_) rfl g2
      have:=Rep.own (S:=S') (w:=w.alloc (.cells acc' e)) (b:=w.heap.size) (o:=0) (c:=len) (n:=nest) hpos c2 (by rw[Nat.zero_add,←hal];exact (hop _)) (by rw[c3];exact Nat.le_refl _) (fun hn=>g7 hn) (by rw[c1];exact hm)
      rw[c3] at this
      exact this
   ·
    cases hs
  ·
   cases hs
 ·
  cases hs
theorem replicate_flatten {k:Nat} (l:List V) (hl:l.length=k):∀ n:Nat,(List.replicate n l).flatten.length=n*k∧∀ j,j<n*k→(List.replicate n l).flatten.getD j .ud=l.getD (j % k) .ud:=by
 intro n
 have h1:(List.replicate n l).flatten.length=n*k:=by rw[flatten_length (k:=k) (fun r hr=>by rw[List.eq_of_mem_replicate hr];exact hl)];simp
 refine ⟨h1,fun j hj=>?_⟩
 have hk:0<k:=by
  rcases Nat.eq_zero_or_pos k with h | h
  ·
   subst h;simp at hj
  ·
   exact h
 have hd:j / k<n:=Nat.div_lt_of_lt_mul (by rw[Nat.mul_comm];exact hj)
 have:=flatten_getD (rows:=List.replicate n l) (k:=k) (i:=j / k) (j:=j % k) (fun r hr=>by rw[List.eq_of_mem_replicate hr];exact hl) (by simpa using hd) (Nat.mod_lt _ hk)
 rw[show j / k*k+j % k=j by rw[Nat.mul_comm];exact Nat.div_add_mod j k] at this
 rw[this]
 simp[List.getD_eq_getElem?_getD,List.getElem?_replicate,hd]
theorem rows_flat {k:Nat} (l:List V) (hl:l.length=k) (n:Nat):((List.range (n*k)).map fun j=>l.getD (j % k) .ud)=(List.replicate n l).flatten:=by
 obtain ⟨f1,f2⟩:=replicate_flatten l hl n
 apply List.ext_getElem?
 intro j
 by_cases hj:j<n*k
 ·
  have:=f2 j hj
  rw[List.getElem?_map,List.getElem?_range hj,List.getElem?_eq_getElem (by rw[f1];exact hj)]
  rw[List.getD_eq_getElem?_getD,List.getElem?_eq_getElem (by rw[f1];exact hj)] at this
  simpa using this.symm
 ·
  rw[List.getElem?_eq_none (by simp;omega),List.getElem?_eq_none (by rw[f1];omega)]
theorem makeSlice_out {t:Nat} {nest:Bool} {l c:Operand} (hT:∀ i,E.tys t=some i→TyOK P t i) (h:Rel E S who w a.tmps σ)
  (hs:(match E.tys t,opnd E σ l,opnd E σ c with
   | some i,.int _ x,.int _ y=>match i.kind with
    | .slice k b=>if 0≤x∧x≤y∧y≤lim∧b≤65536 then K (put dst (.own nest k (List.replicate x.toNat i.ez)) σ) else none
    | _=>none
   | _,_,_=>none)=some r):OutV E r K S who w a dst ((Instr.makeSlice t (a.eval l) (a.eval c)).run P w):=by
 obtain ⟨hrl,_⟩:=opnd_spec h l
 obtain ⟨hrc,_⟩:=opnd_spec h c
 split at hs
 ·
  rename_i i kx x ky y hi hl hc
  rw[hl] at hrl
  rw[hc] at hrc
  generalize hvl:a.eval l=vl at *
  generalize hvc:a.eval c=vc at *
  cases hrl with
  | int =>
  cases hrc with
  | int =>
  obtain ⟨d,hd,hk⟩:=(hT i hi).under
  split at hs
  ·
   rename_i k b hkind
   split at hs
   ·
    rename_i hle
    obtain ⟨hx0,hxy,hyl,hb⟩:=hle
    cases d <;> simp only[KindOK,hkind,reduceCtorEq] at hk
    case array n e=>obtain ⟨h,_⟩:=hk;cases h
    case struct fs=>obtain ⟨_,h,_⟩:=hk;cases h
    case slice e =>
     obtain ⟨ie,z,hie,hz,h1,hez,hsz,hpos,h0⟩:=hk
     cases h1
     have hlim:(lim:Int)=2147483648:=rfl
     rw[hlim] at hyl
     have wx:IntKind.i64.wrap x=x:=by simp[IntKind.wrap,IntKind.bits,IntKind.signed];omega
     have wy:IntKind.i64.wrap y=y:=by simp[IntKind.wrap,IntKind.bits,IntKind.signed];omega
     have hby:(ie.bytes:Int)*y≤2 ^ 48:=by
      have:(ie.bytes:Int)*y≤65536*2147483648:=Int.mul_le_mul (by omega) hyl (by omega) (by omega)
      omega
     have hrun:(Instr.makeSlice t (.int kx x) (.int ky y)).run P w=.ok (.slice (some ⟨w.heap.size,0,none⟩) x.toNat y.toNat) (w.alloc (.cells ((Array.range (y.toNat*ie.size)).map (z.cells[· % z.cells.size]!)) e)):=by
      have:=run_make (P:=P) w t e ie z hd hie hz kx ky x y hx0 hxy (by simpa using hby) (by omega)
      rw[this]
      rfl
     have hez':i.ez.length=ie.size:=by rw[hez.len];simp[hsz]
     have hz0:=zeros_reps (S:=S) (w:=w) (n:=y.toNat*ie.size) hez hsz.symm hpos
     have hz1:=zeros_reps (S:=S) (w:=w) (n:=x.toNat*ie.size) hez hsz.symm hpos
     have hflat:=rows_flat i.ez hez' x.toNat
     by_cases hx:x.toNat=0∧y.toNat=0
     ·
      rw[hx.1,hx.2] at hrun
      rw[hx.1] at hs
      exact outv_put hrun (h.grow (Grows.alloc w _)) ((Step.refl _ _ _).grow (Grows.alloc w _)) (.own0 _ _ _) (by simp) (by simp) trivial hs
     ·
      have hpre:∃ l,((Array.range (y.toNat*ie.size)).map (fun j=>z.cells[j % z.cells.size]!)).toList=((Array.range (x.toNat*ie.size)).map (fun j=>z.cells[j % z.cells.size]!)).toList++l:=by
       refine ⟨((List.range (y.toNat*ie.size)).drop (x.toNat*ie.size)).map (fun j=>z.cells[j % z.cells.size]!),?_⟩
       have hle:x.toNat*ie.size≤y.toNat*ie.size:=Nat.mul_le_mul_right _ (by omega)
       simp only[Array.toList_map,Array.toList_range,←List.map_append]
       congr 1
       conv=>lhs;rw[←List.take_append_drop (x.toNat*ie.size) (List.range (y.toNat*ie.size))]
       congr 1
       rw[List.take_range,Nat.min_eq_left hle]
      refine outv_new hrun h (Step.refl _ _ _) hz1.1 ⟨by simp,by simp⟩ (hz1.2 h0) hpre (fun hm hop=>?_) rfl hs
      rw[hflat] at hm
      have:=Rep.own (S:=S) (w:=w.alloc (.cells ((Array.range (y.toNat*ie.size)).map (z.cells[· % z.cells.size]!)) e)) (b:=w.heap.size) (o:=0) (c:=y.toNat) (n:=nest) (k:=ie.size) (rows:=List.replicate x.toNat i.ez) hpos
       (fun r hr=>by rw[List.eq_of_mem_replicate hr];exact hez') (by simpa using hop _) (by simp;omega) (fun _=>rfl) hm
      simpa using this
   ·
    cases hs
  ·
   cases hs
 ·
  cases hs
end
end Go.Zv
namespace Go.Zv
open Go
def EqOK (P:Program) (t:Nat) (i:TI):Prop :=
 P.eqGuardType P.depth t=false∧∀ (S:Nat→Prop) (w:World) (xs ys:Array Value) (vx vy:List V) (b:Bool),Reps S w xs.toList vx []→Reps S w ys.toList vy []→eqCells i.sk vx vy=some b →
  (Op.equal t (.agg xs) (.agg ys)).run P w=.ok b w
structure EnvOK (P:Program) (E:Env):Prop where
 ty:∀ t i,E.tys t=some i→TyOK P t i
 eq:∀ t i,E.tys t=some i→E.eqs t=true→EqOK P t i
 u8:∀ t,E.u8s t=true→∃ e ie,P.underlying t=some (.slice e)∧P.underlying e=some (.int .u8)∧P.info? e=some ie∧ie.size=1
 lib:∀ t kd e,E.lib t=some (kd,e)→∃ ti z,P.info? t=some ti∧ti.zero=some z∧libZero kd z
section
variable {R:Type} {P:Program} {E:Env} {r:R} {K:List V→Option R} {S S':Nat→Prop} {who who':Nat→Option Nat} {w w':World} {a:Act} {dst:Option Nat} {σ σ':List V}
theorem nilTo_rep {n sh:Bool} {ty:Option TI} {u:Value} {v:V} (h:Rep S w u v []):Rep S w u (nilTo n sh ty v) []:=by
 unfold nilTo
 split
 ·
  split
  ·
   cases h
   cases sh with
   | true=>exact .sl0 _ _ _ _ (by simp)
   | false=>exact .own0 _ _ _
  ·
   exact h
 ·
  exact h
theorem nilTo_link {n sh:Bool} {ty:Option TI} {u:Value} {v:V} {tm:Array Value} (h:Link w tm σ u v):Link w tm σ u (nilTo n sh ty v):=by
 unfold nilTo
 split
 ·
  split
  ·
   cases sh <;> trivial
  ·
   trivial
 ·
  exact h
theorem move_out {n sh:Bool} {ty:Option TI} {x:Operand} (h:Rel E S who w a.tmps σ) (hs:(match tupOf σ x with
  | some (t,vs)=>K (put dst (.tup vs) (setPlace σ t [] .ud))
  | none=>K (put dst (nilTo n sh ty (opnd E σ x)) σ))=some r):OutV E r K S who w a dst (.ok (a.eval x) w):=by
 cases e:tupOf σ x with
 | none =>
  rw[e] at hs
  exact outv_val rfl h (nilTo_rep (opnd_spec h x).1) (nilTo_link (opnd_spec h x).2) hs
 | some tv =>
  obtain ⟨t,vs⟩:=tv
  rw[e] at hs
  unfold tupOf at e
  split at e
  ·
   rename_i t'
   split at e
   ·
    rename_i v l hg
    simp only[Option.some.injEq,Prod.mk.injEq] at e
    obtain ⟨rfl,rfl⟩:=e
    have hf:Follow w (a.tmps.getD t' undef) (gt σ t') [] (a.tmps.getD t' undef) (gt σ t'):=.nil _ _
    obtain ⟨OX,who',g1,g2,g3,g4,g5⟩:=take_sem h hf (by rw[hg];simp)
    rw[hg] at g1
    exact outv_put rfl g4 g5 g1 g2 (fun b hb=>⟨(g3 b hb).2,.inl (g3 b hb).1⟩) trivial hs
   ·
    cases e
  ·
   cases e
theorem assign_out {n sh:Bool} {ty:Option TI} {x:Operand} (h:Rel E S who w a.tmps σ)
  (hs:(match opnd E σ x with
   | .ref r p=>match kindOf ty with
    | .slice k _=>cond sh
      (share k σ (.ref r p) fun f rows σ'=>K (put dst (.sl k f rows) σ'))
      (place k σ r p (fun n rows=>K (put dst (.own n k rows) (setPlace σ r p .ud))) (fun f rows=>K (put dst (.sl k f rows) σ)))
    | _=>none
   | v=>K (put dst (nilTo n sh ty v) σ))=some r):OutV E r K S who w a dst (.ok (a.eval x) w):=by
 obtain ⟨hr,hl⟩:=opnd_spec h x
 split at hs
 ·
  rename_i r0 p hx
  rw[hx] at hr hl
  split at hs
  ·
   rename_i k b _
   cases sh with
   | true =>
    simp only[cond_true] at hs
    obtain ⟨f,rows,σ',S',who',h1,h2,h3,h4⟩:=share_sem h hr hl hs
    exact outv_put rfl h2 h4 h3 (by simp) (by simp) trivial h1
   | false =>
    simp only[cond_false] at hs
    rcases place_sem hl hs with ⟨n,rows,X,hK,hf,hX⟩ | ⟨f,rows,hK,hf⟩
    ·
     obtain ⟨OX,who',h1,h2,h3,h4,h5⟩:=take_sem h hf (by rcases hX with rfl | ⟨rfl,_⟩ <;> simp)
     have hrep:Rep S w (a.eval x) (.own n k rows) OX:=by
      rcases hX with rfl | ⟨rfl,rfl,rfl⟩
      ·
       exact h1
      ·
       have:∀ {u:Value} {O:List Nat},Rep S w u .nilsl O→Rep S w u (.own false k []) O:=fun h=>by cases h;exact .own0 _ _ _
       exact this h1
     exact outv_put rfl h4 h5 hrep h2 (fun b hb=>⟨⟨(h3 b hb).2.1,(h3 b hb).2.2⟩,.inl (h3 b hb).1⟩) trivial hK
    ·
     obtain ⟨O,hX,_⟩:=hf.rep h
     exact outv_val (v:=.sl k f rows) rfl h ((hX.plain rfl (by simp)) ▸ hX) trivial hK
  ·
   cases hs
 ·
  exact outv_val rfl h (nilTo_rep hr) (nilTo_link hl) hs
theorem kind_some {t:Nat} {k:TK} (hk:kindOf (E.tys t)=k) (hne:k≠.other):∃ i,E.tys t=some i∧i.kind=k:=by
 unfold kindOf at hk
 split at hk
 ·
  rename_i i hi;exact ⟨i,hi,hk⟩
 ·
  exact absurd hk.symm hne
theorem kind_bool {t:Nat} (hE:EnvOK P E) (hk:kindOf (E.tys t)=.bool):P.underlying t=some .bool:=by
 obtain ⟨i,hi,hk⟩:=kind_some hk (by simp)
 obtain ⟨d,hd,h⟩:=(hE.ty t i hi).under
 cases d <;> try (simp[KindOK,hk] at h;done)
 exact hd
theorem kind_str {t:Nat} (hE:EnvOK P E) (hk:kindOf (E.tys t)=.str):P.underlying t=some .string:=by
 obtain ⟨i,hi,hk⟩:=kind_some hk (by simp)
 obtain ⟨d,hd,h⟩:=(hE.ty t i hi).under
 cases d <;> try (simp[KindOK,hk] at h;done)
 exact hd
theorem kind_int {t:Nat} {k:IntKind} (hE:EnvOK P E) (hk:kindOf (E.tys t)=.int k):P.underlying t=some (.int k):=by
 obtain ⟨i,hi,hk⟩:=kind_some hk (by simp)
 obtain ⟨d,hd,h⟩:=(hE.ty t i hi).under
 cases d <;> try (simp[KindOK,hk] at h;done)
 simp only[KindOK,hk,TK.int.injEq] at h
 subst h;exact hd
theorem kind_ptr {t:Nat} (hE:EnvOK P E) (hk:kindOf (E.tys t)=.ptr):∃ e,P.underlying t=some (.pointer e):=by
 obtain ⟨i,hi,hk⟩:=kind_some hk (by simp)
 obtain ⟨d,hd,h⟩:=(hE.ty t i hi).under
 cases d <;> try (simp[KindOK,hk] at h;done)
 exact ⟨_,hd⟩
theorem kind_slice {t k b:Nat} (hE:EnvOK P E) (hk:kindOf (E.tys t)=.slice k b) :
  ∃ i e ie z,E.tys t=some i∧P.underlying t=some (.slice e)∧P.info? e=some ie∧ie.zero=some z∧ie.size=k∧ie.bytes=b∧ZCs z.cells.toList i.ez∧ie.size=z.cells.size∧0<k∧∀ c∈z.cells.toList,c.oneCell'=true:=by
 obtain ⟨i,hi,hk⟩:=kind_some hk (by simp)
 obtain ⟨d,hd,h⟩:=(hE.ty t i hi).under
 cases d <;> try (simp[KindOK,hk] at h;done)
 simp only[KindOK,hk] at h
 obtain ⟨ie,z,h1,h2,h3,h4,h5,h6,h7⟩:=h
 cases h3
 exact ⟨i,_,ie,z,hi,hd,h1,h2,rfl,rfl,h4,h5,h6,h7⟩
theorem kind_arr {t n k e:Nat} (hE:EnvOK P E) (hk:kindOf (E.tys t)=.arr n k e):P.underlying t=some (.array n e)∧P.cellsOf e=k∧0<k∧∃ ie,P.info? e=some ie:=by
 obtain ⟨i,hi,hk⟩:=kind_some hk (by simp)
 obtain ⟨d,hd,h⟩:=(hE.ty t i hi).under
 cases d <;> try (simp[KindOK,hk] at h;done)
 simp only[KindOK,hk] at h
 obtain ⟨h1,h2,h3⟩:=h
 cases h1
 exact ⟨hd,rfl,h2,h3⟩
theorem kind_struct {t:Nat} {l:List (Nat×Nat×Nat)} (hE:EnvOK P E) (hk:kindOf (E.tys t)=.struct l) :
  ∃ fs,P.underlying t=some (.struct fs)∧l=fs.toList.map (fun f=>(f.offset,f.type,P.cellsOf f.type))∧∀ f∈fs.toList,∃ ti,P.info? f.type=some ti:=by
 obtain ⟨i,hi,hk⟩:=kind_some hk (by simp)
 obtain ⟨d,hd,h⟩:=(hE.ty t i hi).under
 cases d <;> try (simp[KindOK,hk] at h;done)
 simp only[KindOK,hk] at h
 obtain ⟨l',h1,h2,h3⟩:=h
 cases h1
 exact ⟨_,hd,h2,h3⟩
theorem eqGuard_other {op:BinOp} {t:Nat} {ux uy:Value} {ox oy:Operand} (h1:¬(ux=.nilIface∧uy=.nilIface)) (h2:∀ xs ys,¬(ux=.agg xs∧uy=.agg ys)) :
  (eqGuard op t ox oy ux uy).run P w=.ok () w:=by
 unfold eqGuard
 cases ux <;> cases uy <;> first
  | exact absurd ⟨rfl,rfl⟩ h1
  | exact absurd ⟨rfl,rfl⟩ (h2 _ _)
  | (cases op <;> rfl)
theorem evBin_sem {op:BinOp} {t:Nat} {x y:V} {ux uy:Value} {ox oy:Operand} {G:V→Option R} (hE:EnvOK P E) (hrx:Rep S w ux x []) (hry:Rep S w uy y []) (hs:evBin E op t x y G=some r) :
  ∃ v u,G v=some r∧linkFree v=true∧Rep S w u v []∧(do eqGuard op t ox oy ux uy;binOp op t ux uy:Sem Value).run P w=.ok u w:=by
 unfold evBin at hs
 split at hs
 ·
  -- whole numbers
  rename_i k n k' n'
  cases hrx
  cases hry
  have hg:(eqGuard op t ox oy (.int k n) (.int k' n')).run P w=.ok () w:=eqGuard_other (by simp) (by simp)
  have fin:∀ v u,G v=some r→linkFree v=true→Rep S w u v []→(binOp op t (.int k n) (.int k' n')).run P w=.ok u w →
    ∃ v u,G v=some r∧linkFree v=true∧Rep S w u v []∧(do eqGuard op t ox oy (.int k n) (.int k' n');binOp op t (.int k n) (.int k' n'):Sem Value).run P w=.ok u w:=fun v u h1 h2 h3 h4 =>
   ⟨v,u,h1,h2,h3,by simp only[Sem.run_bind,hg,Result.andThen_ok,h4]⟩
  split at hs
  ·
   split at hs
   ·
    cases hs
   ·
    rename_i hb
    exact fin _ _ hs rfl (.int _ _) (by simp[binOp,Op.shift,hb])
  ·
   split at hs
   ·
    cases hs
   ·
    rename_i hb
    exact fin _ _ hs rfl (.int _ _) (by simp[binOp,Op.shift,hb])
  ·
   split at hs
   ·
    rename_i hk
    subst hk
    cases op <;> dsimp only at hs
    case add=>exact fin _ _ hs rfl (.int _ _) (by simp[binOp,Op.intArith])
    case sub=>exact fin _ _ hs rfl (.int _ _) (by simp[binOp,Op.intArith])
    case mul=>exact fin _ _ hs rfl (.int _ _) (by simp[binOp,Op.intArith])
    case quo =>
     split at hs
     ·
      cases hs
     ·
      rename_i hb;exact fin _ _ hs rfl (.int _ _) (by simp[binOp,Op.intDiv,hb])
    case rem =>
     split at hs
     ·
      cases hs
     ·
      rename_i hb;exact fin _ _ hs rfl (.int _ _) (by simp[binOp,Op.intDiv,hb])
    case and=>exact fin _ _ hs rfl (.int _ _) (by simp[binOp,Op.intBits,bitsOf])
    case or=>exact fin _ _ hs rfl (.int _ _) (by simp[binOp,Op.intBits,bitsOf])
    case xor=>exact fin _ _ hs rfl (.int _ _) (by simp[binOp,Op.intBits,bitsOf])
    case andNot=>exact fin _ _ hs rfl (.int _ _) (by simp[binOp,Op.intBits,bitsOf])
    case eql=>exact fin _ _ hs rfl (.bool _) (by simp[binOp,Op.intCmp])
    case neq=>exact fin _ _ hs rfl (.bool _) (by simp[binOp,Op.intCmp])
    case lss=>exact fin _ _ hs rfl (.bool _) (by simp[binOp,Op.intCmp])
    case leq=>exact fin _ _ hs rfl (.bool _) (by simp[binOp,Op.intCmp])
    case gtr=>exact fin _ _ hs rfl (.bool _) (by simp[binOp,Op.intCmp])
    case geq=>exact fin _ _ hs rfl (.bool _) (by simp[binOp,Op.intCmp])
    all_goals cases hs
   ·
    cases hs
 ·
  -- strings
  rename_i s s'
  cases hrx with
  | str s =>
  cases hry with
  | str s' =>
  have hg:(eqGuard op t ox oy (.string s) (.string s')).run P w=.ok () w:=eqGuard_other (by simp) (by simp)
  have fin:∀ v u,G v=some r→linkFree v=true→Rep S w u v []→(Op.stringOp op s s').run P w=.ok u w→op≠.shl→op≠.shr →
    ∃ v u,G v=some r∧linkFree v=true∧Rep S w u v []∧(do eqGuard op t ox oy (.string s) (.string s');binOp op t (.string s) (.string s'):Sem Value).run P w=.ok u w:=fun v u h1 h2 h3 h4 n1 n2=>by
   have hb:binOp op t (.string s) (.string s')=Op.stringOp op s s':=by cases op <;> first | rfl | exact absurd rfl n1 | exact absurd rfl n2
   exact ⟨v,u,h1,h2,h3,by simp only[Sem.run_bind,hg,Result.andThen_ok,hb,h4]⟩
  have e1:s.toList=s.data.toList:=ByteArray.toList_eq s
  have e2:s'.toList=s'.data.toList:=ByteArray.toList_eq s'
  cases op <;> dsimp only at hs
  case add =>
   split at hs
   ·
    rename_i hle
    have l1:s.data.toList.length=s.size:=by cases s;rfl
    have l2:s'.data.toList.length=s'.size:=by cases s';rfl
    rw[l1,l2] at hle
    have hle':s.size+s'.size≤4611686018427387904:=hle
    have hn:¬(((s.size+s'.size:Nat):Int)>IntKind.i64.max):=by
     have:IntKind.i64.max=9223372036854775807:=by decide
     rw[this];omega
    have ea:(s++s').data.toList=s.data.toList++s'.data.toList:=by simp
    have:=Rep.str (S:=S) (w:=w) (s++s')
    rw[ea] at this
    exact fin _ _ hs rfl this (by simp only[Op.stringOp,hn,if_false,Sem.run_pure]) (by simp) (by simp)
   ·
    cases hs
  case eql=>exact fin _ _ hs rfl (.bool _) (by simp[Op.stringOp,e1,e2]) (by simp) (by simp)
  case neq=>exact fin _ _ hs rfl (.bool _) (by simp[Op.stringOp,e1,e2]) (by simp) (by simp)
  case lss=>exact fin _ _ hs rfl (.bool _) (by simp[Op.stringOp,e1,e2]) (by simp) (by simp)
  case leq=>exact fin _ _ hs rfl (.bool _) (by simp[Op.stringOp,e1,e2]) (by simp) (by simp)
  case gtr=>exact fin _ _ hs rfl (.bool _) (by simp[Op.stringOp,e1,e2]) (by simp) (by simp)
  case geq=>exact fin _ _ hs rfl (.bool _) (by simp[Op.stringOp,e1,e2]) (by simp) (by simp)
  all_goals cases hs
 ·
  -- bools
  rename_i x y
  cases hrx
  cases hry
  have hg:(eqGuard op t ox oy (.bool x) (.bool y)).run P w=.ok () w:=eqGuard_other (by simp) (by simp)
  split at hs
  ·
   rename_i hk
   have hd:=kind_bool hE hk
   have heq:(Op.equal t (.bool x) (.bool y)).run P w=.ok (x==y) w:=by
    obtain ⟨dd,hdd⟩:∃ d,Op.maxDepth=d+1:=⟨9999,rfl⟩
    rw[Op.equal,hdd]
    simp only[Op.equalIn,Sem.run_bind,run_under w hd,Result.andThen_ok,Sem.run_pure]
   split at hs
   ·
    exact ⟨_,_,hs,rfl,.bool _,by simp only[Sem.run_bind,hg,Result.andThen_ok,binOp,heq,Sem.run_pure]⟩
   ·
    exact ⟨_,_,hs,rfl,.bool _,by simp only[Sem.run_bind,hg,Result.andThen_ok,binOp,heq,Sem.run_pure]⟩
   ·
    cases hs
  ·
   cases hs
 ·
  -- aggregates
  cases hrx with
  | agg g0 hx =>
  cases hry with
  | agg g1 hy =>
  rename_i xs ys
  split at hs
  ·
   rename_i i hi
   cases he:E.eqs t with
   | false=>rw[he] at hs;cases hs
   | true =>
    rw[he] at hs
    simp only[cond_true] at hs
    obtain ⟨e1,e2⟩:=hE.eq t i hi he
    have hg:∀ {op:BinOp} {xs ys:Array Value},(eqGuard op t ox oy (.agg xs) (.agg ys)).run P w=.ok () w:=fun {op xs ys}=>by
     unfold eqGuard
     cases op <;> simp[e1]
    split at hs
    ·
     cases hb:eqCells i.sk _ _ with
     | none=>rw[hb] at hs;cases hs
     | some b =>
      rw[hb] at hs
      exact ⟨_,_,hs,rfl,.bool _,by simp only[Sem.run_bind,hg,Result.andThen_ok,binOp,e2 S w _ _ _ _ b hx hy hb,Sem.run_pure]⟩
    ·
     cases hb:eqCells i.sk _ _ with
     | none=>rw[hb] at hs;cases hs
     | some b =>
      rw[hb] at hs
      exact ⟨_,_,hs,rfl,.bool _,by simp only[Sem.run_bind,hg,Result.andThen_ok,binOp,e2 S w _ _ _ _ b hx hy hb,Sem.run_pure]⟩
    ·
     cases hs
  ·
   cases hs
 ·
  -- nil pointers
  cases hrx
  cases hry
  have hg:(eqGuard op t ox oy (.pointer none) (.pointer none)).run P w=.ok () w:=eqGuard_other (by simp) (by simp)
  split at hs
  ·
   rename_i hk
   obtain ⟨e,hd⟩:=kind_ptr hE hk
   have heq:(Op.equal t (.pointer none) (.pointer none)).run P w=.ok true w:=by
    obtain ⟨dd,hdd⟩:∃ d,Op.maxDepth=d+1:=⟨9999,rfl⟩
    rw[Op.equal,hdd]
    simp only[Op.equalIn,Sem.run_bind,run_under w hd,Result.andThen_ok,Sem.run_pure];rfl
   split at hs
   ·
    exact ⟨_,_,hs,rfl,.bool _,by simp only[Sem.run_bind,hg,Result.andThen_ok,binOp,heq,Sem.run_pure]⟩
   ·
    exact ⟨_,_,hs,rfl,.bool _,by simp only[Sem.run_bind,hg,Result.andThen_ok,binOp,heq,Sem.run_pure];rfl⟩
   ·
    cases hs
  ·
   cases hs
 ·
  cases hry
  cases hrx with
  | iptr h1 h2 h3 =>
  have hg:∀ {p:Option Addr},(eqGuard op t ox oy (.pointer p) (.pointer none)).run P w=.ok () w:=eqGuard_other (by simp) (by simp)
  split at hs
  ·
   rename_i hk
   obtain ⟨e,hd⟩:=kind_ptr hE hk
   have heq:∀ {p:Addr},(Op.equal t (.pointer (some p)) (.pointer none)).run P w=.ok false w:=fun {p}=>by
    obtain ⟨dd,hdd⟩:∃ d,Op.maxDepth=d+1:=⟨9999,rfl⟩
    rw[Op.equal,hdd]
    simp only[Op.equalIn,Sem.run_bind,run_under w hd,Result.andThen_ok,Sem.run_pure]
   split at hs
   ·
    exact ⟨_,_,hs,rfl,.bool _,by simp only[Sem.run_bind,hg,Result.andThen_ok,binOp,heq,Sem.run_pure]⟩
   ·
    exact ⟨_,_,hs,rfl,.bool _,by simp only[Sem.run_bind,hg,Result.andThen_ok,binOp,heq,Sem.run_pure];rfl⟩
   ·
    cases hs
  ·
   cases hs
 ·
  cases hrx
  cases hry with
  | iptr h1 h2 h3 =>
  have hg:∀ {p:Option Addr},(eqGuard op t ox oy (.pointer none) (.pointer p)).run P w=.ok () w:=eqGuard_other (by simp) (by simp)
  split at hs
  ·
   rename_i hk
   obtain ⟨e,hd⟩:=kind_ptr hE hk
   have heq:∀ {p:Addr},(Op.equal t (.pointer none) (.pointer (some p))).run P w=.ok false w:=fun {p}=>by
    obtain ⟨dd,hdd⟩:∃ d,Op.maxDepth=d+1:=⟨9999,rfl⟩
    rw[Op.equal,hdd]
    simp only[Op.equalIn,Sem.run_bind,run_under w hd,Result.andThen_ok,Sem.run_pure];rfl
   split at hs
   ·
    exact ⟨_,_,hs,rfl,.bool _,by simp only[Sem.run_bind,hg,Result.andThen_ok,binOp,heq,Sem.run_pure]⟩
   ·
    exact ⟨_,_,hs,rfl,.bool _,by simp only[Sem.run_bind,hg,Result.andThen_ok,binOp,heq,Sem.run_pure];rfl⟩
   ·
    cases hs
  ·
   cases hs
 ·
  cases hs
end
end Go.Zv
namespace Go.Zv
open Go
section
variable {R:Type} {P:Program} {E:Env} {r:R} {K:List V→Option R} {S S':Nat→Prop} {who who':Nat→Option Nat} {w w':World} {a:Act} {dst:Option Nat} {σ σ':List V}
theorem bump_snoc (q:Path) (i j n:Nat):bump (q++[(i,j)]) n=q++[(i,j+n)]:=by
 induction q with
 | nil=>rfl
 | cons a q ih =>
  cases q with
  | nil=>rfl
  | cons b q=>simpa[bump] using ih
theorem ptr_bump {tm:Array Value} {r0:Nat} {p:Path} {b o n:Nat} (hl:Link w tm σ (.pointer (some ⟨b,o,none⟩)) (.ptr r0 p)):Link w tm σ (.pointer (some ⟨b,o+n,none⟩)) (.ptr r0 (bump p n)):=by
 obtain ⟨q,i,j,c,X,b',o',e,hf,hb,hu⟩:=hl
 subst e
 cases hu
 exact ⟨q,i,j+n,c,X,b,o',bump_snoc _ _ _ _,hf,hb,by rw[Nat.add_assoc]⟩
theorem ptr_val {tm:Array Value} {u:Value} {r0:Nat} {p:Path} (hl:Link w tm σ u (.ptr r0 p)):∃ b o,u=.pointer (some ⟨b,o,none⟩):=by
 obtain ⟨q,i,j,c,X,b',o',e,hf,hb,hu⟩:=hl
 exact ⟨_,_,hu⟩
theorem fieldAddr_out {t f:Nat} {x:Operand} (hE:EnvOK P E) (h:Rel E S who w a.tmps σ)
  (hs:(match kindOf (E.tys t) with
   | .struct fs=>match fs[f]?,opnd E σ x with
    | some (off,_,size),.ptr r p=>if size=0 then none else K (put dst (.ptr r (bump p off)) σ)
    | some (off,_,size),.iptr c i=>if size=0 then none else K (put dst (.iptr c (i+off)) σ)
    | _,_=>none
   | _=>none)=some r):OutV E r K S who w a dst ((Instr.fieldAt t (a.eval x) f).run P w):=by
 obtain ⟨hr,hl⟩:=opnd_spec h x
 split at hs
 ·
  rename_i fs hk
  obtain ⟨F,hd,hfs,hinfo⟩:=kind_struct hE hk
  have hfield:∀ {off ft size:Nat},fs[f]?=some (off,ft,size)→∃ fl,F[f]?=some fl∧fl.offset=off∧∃ ti,P.info? fl.type=some ti∧ti.size=size:=by
   intro off ft size he
   rw[hfs,List.getElem?_map] at he
   cases hF:F.toList[f]? with
   | none=>rw[hF] at he;cases he
   | some fl =>
    rw[hF] at he
    simp only[Option.map_some,Option.some.injEq,Prod.mk.injEq] at he
    obtain ⟨e1,e2,e3⟩:=he
    obtain ⟨ti,hti⟩:=hinfo fl (List.mem_of_getElem? hF)
    exact ⟨fl,by simpa using hF,e1,ti,hti,by rw[←e3,cellsOf_info hti]⟩
  have hrun:∀ {off ft size b o:Nat},fs[f]?=some (off,ft,size)→¬size=0→(Instr.fieldAt t (.pointer (some ⟨b,o,none⟩)) f).run P w=.ok (.pointer (some ⟨b,o+off,none⟩)) w:=by
   intro off ft size b o he hsz
   obtain ⟨fl,h1,h2,ti,h3,h4⟩:=hfield he
   simp only[Instr.fieldAt,Sem.run_bind,run_under w hd,Result.andThen_ok,h1,Instr.sureAddr,Sem.run_pure,fieldPlace,run_sizeOf w h3,h4,hsz,if_false,h2,add_none]
  split at hs
  ·
   rename_i off ft size r0 p he hx
   split at hs
   ·
    cases hs
   ·
    rename_i hsz
    rw[hx] at hr hl
    obtain ⟨b,o,hv⟩:=ptr_val hl
    rw[hv] at hl ⊢
    exact outv_val (hrun he hsz) h (.ptr _ _ _) (ptr_bump hl) hs
  ·
   rename_i off ft size c i he hx
   split at hs
   ·
    cases hs
   ·
    rename_i hsz
    rw[hx] at hr
    generalize a.eval x=u at *
    cases hr with
    | iptr h1 h2 h3 =>
     subst h2
     exact outv_val (hrun he hsz) h (.iptr h1 (by rw[Nat.add_assoc]) h3) trivial hs
  ·
   cases hs
 ·
  cases hs
theorem idx_sem {x:V} {u:Value} {i:Int} (h:Rep S w u x []) (hi:idxOf x=some i):∃ k,u=.int k i:=by
 cases x <;> simp[idxOf] at hi
 subst hi
 cases h
 exact ⟨_,rfl⟩
theorem indexAddr_out {t:Nat} {x ix:Operand} (hE:EnvOK P E) (h:Rel E S who w a.tmps σ)
  (hs:(match idxOf (opnd E σ ix) with
   | none=>none
   | some i=>match kindOf (E.tys t),opnd E σ x with
    | .arr n k _,.ptr r p=>if 0≤i∧i<n then K (put dst (.ptr r (bump p (i.toNat*k))) σ) else none
    | .arr n k _,.iptr c j=>if 0≤i∧i<n then K (put dst (.iptr c (j+i.toNat*k)) σ) else none
    | .slice k _,.sl k' _ rows=>if k'=k then (if 0≤i∧i<rows.length then K (put dst (.iptr (rows.getD i.toNat []) 0) σ) else none) else none
    | .slice k _,.ref r p=>place k σ r p
      (fun _ rows=>if 0≤i∧i<rows.length then K (put dst (.ptr r (p++[(i.toNat,0)])) σ) else none)
      (fun _ rows=>if 0≤i∧i<rows.length then K (put dst (.iptr (rows.getD i.toNat []) 0) σ) else none)
    | _,_=>none)=some r):OutV E r K S who w a dst ((Instr.indexAt t (a.eval x) (a.eval ix)).run P w):=by
 obtain ⟨hr,hl⟩:=opnd_spec h x
 obtain ⟨hri,_⟩:=opnd_spec h ix
 split at hs
 ·
  cases hs
 rename_i i hi
 obtain ⟨ki,hvi⟩:=idx_sem hri hi
 rw[hvi]
 have imm:∀ {k bb:Nat} {f:Bool} {rows:List (List V)} {O:List Nat},kindOf (E.tys t)=.slice k bb→Rep S w (a.eval x) (.sl k f rows) O→0≤i∧i<rows.length→K (put dst (.iptr (rows.getD i.toNat []) 0) σ)=some r →
   OutV E r K S who w a dst ((Instr.indexAt t (a.eval x) (.int ki i)).run P w):=by
  intro k bb f rows O hk hrs hir hK
  obtain ⟨ti,e,ie,z,_,hd,hie,_,hsz,_,_,_,hpos,_⟩:=kind_slice hE hk
  generalize a.eval x=u at *
  cases hrs with
  | sl0=>simp at hir;omega
  | @sl b o c _ _ _ h1 h2 h3 h4 h5 h6 =>
   have hlt:i.toNat<rows.length:=by omega
   have hfl:=flat_lt (j:=k-1) (k:=k) hlt (by omega)
   obtain ⟨O1,O2,O3,e',_,m2,_⟩:=h6.sub (i.toNat*k) k (by rw[flatten_length h3];omega)
   have he:(rows.flatten.drop (i.toNat*k)).take k=rows.getD i.toNat []:=by
    apply List.ext_getElem?
    intro j
    by_cases hj:j<k
    ·
     have:=flatten_getD h3 hlt hj
     simp only[List.getD_eq_getElem?_getD] at this ⊢
     rw[List.getElem?_take_of_lt hj,List.getElem?_drop]
     have l1:i.toNat*k+j<rows.flatten.length:=by rw[flatten_length h3];exact flat_lt hlt hj
     have l2:j<(rows[i.toNat]?.getD []).length:=by
      have:=h3 _ (getD_mem hlt)
      rw[List.getD_eq_getElem?_getD] at this;omega
     rw[List.getElem?_eq_getElem l1,List.getElem?_eq_getElem l2] at this ⊢
     simpa using this
    ·
     have:=h3 _ (getD_mem hlt)
     rw[List.getElem?_eq_none (by simp;omega),List.getElem?_eq_none (by omega)]
   have hO2:O2=[]:=by simp at e';simp[e']
   subst hO2
   rw[he] at m2
   refine outv_val (u:=.pointer (some ⟨b,o+i.toNat*k,none⟩)) ?_ h (.iptr h4 (by simp) m2) trivial hK
   simp only[Instr.indexAt,asIntOf,Sem.run_bind,Sem.run_pure,Result.andThen_ok,run_under w hd]
   simp[hir.1,hir.2,run_sizeOf w hie,hsz,add_none]
 split at hs
 ·
  rename_i n k e r0 p hk hx
  split at hs
  ·
   rename_i hir
   obtain ⟨hd,hc,hpos,ie,hie⟩:=kind_arr hE hk
   rw[hx] at hr hl
   obtain ⟨b,o,hv⟩:=ptr_val hl
   rw[hv] at hl ⊢
   refine outv_val (u:=.pointer (some ⟨b,o+i.toNat*k,none⟩)) ?_ h (.ptr _ _ _) (ptr_bump hl) hs
   rw[cellsOf_info hie] at hc
   simp only[Instr.indexAt,asIntOf,Sem.run_bind,Sem.run_pure,Result.andThen_ok,run_under w hd,Instr.sureAddr]
   simp[hir.1,hir.2,run_sizeOf w hie,hc,add_none]
  ·
   cases hs
 ·
  rename_i n k e c j hk hx
  split at hs
  ·
   rename_i hir
   obtain ⟨hd,hc,hpos,ie,hie⟩:=kind_arr hE hk
   rw[hx] at hr
   generalize a.eval x=u at *
   cases hr with
   | iptr h1 h2 h3 =>
    subst h2
    refine outv_val (u:=.pointer (some ⟨_,_+i.toNat*k,none⟩)) ?_ h (.iptr h1 (by rw[Nat.add_assoc]) h3) trivial hs
    rw[cellsOf_info hie] at hc
    simp only[Instr.indexAt,asIntOf,Sem.run_bind,Sem.run_pure,Result.andThen_ok,run_under w hd,Instr.sureAddr]
    simp[hir.1,hir.2,run_sizeOf w hie,hc,add_none]
  ·
   cases hs
 ·
  rename_i k bb k' f rows hk hx
  split at hs
  ·
   rename_i e;subst e
   split at hs
   ·
    rename_i hir
    rw[hx] at hr
    exact imm hk hr hir hs
   ·
    cases hs
  ·
   cases hs
 ·
  rename_i k bb r0 p hk hx
  rw[hx] at hr hl
  rcases place_sem hl hs with ⟨n,rows,X,hK,hf,hX⟩ | ⟨f,rows,hK,hf⟩
  ·
   split at hK
   ·
    rename_i hir
    obtain ⟨ti,e,ie,z,_,hd,hie,_,hsz,_,_,_,hpos,_⟩:=kind_slice hE hk
    rcases hX with rfl | ⟨rfl,rfl,rfl⟩
    ·
     obtain ⟨O,hO,_⟩:=hf.rep h
     generalize hu:a.eval x=u at *
     cases hO with
     | own0=>simp at hir;omega
     | @own b o c _ _ _ O h1 h2 h3 h4 h5 h6 =>
      refine outv_val (u:=.pointer (some ⟨b,o+i.toNat*k,none⟩)) ?_ h (.ptr _ _ _) ?_ hK
      ·
       simp only[Instr.indexAt,asIntOf,Sem.run_bind,Sem.run_pure,Result.andThen_ok,run_under w hd]
       simp[hir.1,hir.2,run_sizeOf w hie,hsz,add_none]
      ·
       exact ⟨p,i.toNat,0,_,_,b,o+i.toNat*k,rfl,hf,.own (by omega),rfl⟩
    ·
     simp at hir;omega
   ·
    cases hK
  ·
   split at hK
   ·
    rename_i hir
    obtain ⟨O,hO,_⟩:=hf.rep h
    exact imm hk hO hir hK
   ·
    cases hK
 ·
  cases hs
theorem part_one {t:Nat} {i:TI} (hT:TyOK P t i) (ha:i.kind.isAgg=false) {cs:Array Value} {o:Nat} {v:Value} (hv:cs[o]?=some v):(part t cs o).run P w=.ok v w:=by
 simp only[part,Sem.run_bind,run_isAgg w hT,Result.andThen_ok,ha,Bool.false_eq_true,if_false,hv,Sem.run_pure]
theorem part_agg {t:Nat} {i:TI} (hT:TyOK P t i) (ha:i.kind.isAgg=true) {cs:Array Value} {o:Nat}:(part t cs o).run P w=.ok (.agg (cs.extract o (o+i.size))) w:=by
 obtain ⟨ti,z,hi,hs,_⟩:=hT.info
 simp only[part,Sem.run_bind,run_isAgg w hT,Result.andThen_ok,ha,if_true,run_sizeOf w hi,Sem.run_pure,hs]
theorem Reps.sub {us:List Value} {xs:List V} (h:Reps S w us xs []) (o n:Nat):Reps S w ((us.drop o).take n) ((xs.drop o).take n) []:=by
 have hd:∀ {us:List Value} {xs:List V} (o:Nat),Reps S w us xs []→Reps S w (us.drop o) (xs.drop o) []:=by
  intro us xs o
  induction o generalizing us xs with
  | zero=>exact fun h=>h
  | succ o ih =>
   intro h
   cases h':xs with
   | nil=>subst h';cases h;exact .nil
   | cons x xs' =>
    subst h'
    generalize hO:([]:List Nat)=O at h
    cases h with
    | cons h1 h2 =>
     obtain ⟨rfl,rfl⟩:=List.append_eq_nil_iff.1 hO.symm
     exact ih h2
 have ht:∀ {us:List Value} {xs:List V} (n:Nat),Reps S w us xs []→Reps S w (us.take n) (xs.take n) []:=by
  intro us xs n
  induction n generalizing us xs with
  | zero=>intro _;simpa using Reps.nil
  | succ n ih =>
   intro h
   cases h':xs with
   | nil=>subst h';cases h;exact .nil
   | cons x xs' =>
    subst h'
    generalize hO:([]:List Nat)=O at h
    cases h with
    | cons h1 h2 =>
     obtain ⟨rfl,rfl⟩:=List.append_eq_nil_iff.1 hO.symm
     simpa using Reps.cons h1 (ih h2)
 exact ht n (hd o h)
theorem Reps.get {us:List Value} {xs:List V} (h:Reps S w us xs []) {j:Nat} (hj:j<xs.length):∃ v,us[j]?=some v∧Rep S w v (xs.getD j .ud) []:=by
 have:=h.sub j 1
 cases hx:xs.drop j with
 | nil=>rw[List.drop_eq_nil_iff] at hx;omega
 | cons x l =>
  rw[hx] at this
  have hg:xs.getD j .ud=x:=by
   have:xs[j]?=some x:=by
    have:=congrArg List.head? hx
    simpa[List.head?_drop] using this
   rw[List.getD_eq_getElem?_getD,this];rfl
  generalize hO:([]:List Nat)=O at this
  simp only[List.take_succ_cons,List.take_zero] at this
  generalize hus:(us.drop j).take 1=ul at this
  cases this with
  | @cons v _ _ _ _ _ h1 h2 =>
   obtain ⟨rfl,rfl⟩:=List.append_eq_nil_iff.1 hO.symm
   refine ⟨v,?_,by rw[hg];exact h1⟩
   have:=congrArg List.head? hus
   simpa[List.head?_take,List.head?_drop] using this
theorem partOne_sem {kd : TK} {c : V} {u : Value} {G : V → Option R} (hs : (match c with
      | .cl x=>coerce kd x G
      | c=>coerce kd c G)=some r) (hr:Rep S w u c []):∃ v,G v=some r∧linkFree v=true∧Rep S w u v []:=by
 cases c
 case cl x =>
  cases hr with
  | cl hr =>
   obtain ⟨v,h1,h2,h3⟩:=coerce_sem hs
   exact ⟨v,h1,h2,h3 hr⟩
 all_goals
  obtain ⟨v,h1,h2,h3⟩:=coerce_sem hs
  exact ⟨v,h1,h2,h3 hr⟩
end
end Go.Zv
namespace Go.Zv
open Go
section
variable {R:Type} {P:Program} {E:Env} {r:R} {K:List V→Option R} {S S':Nat→Prop} {who who':Nat→Option Nat} {w w':World} {a:Act} {dst:Option Nat} {σ σ':List V}
theorem part_out {ft off:Nat} {us:Array Value} {cs:List V} {i:TI} (hT:TyOK P ft i) (h:Rel E S who w a.tmps σ) (h0:∀ c∈us.toList,c.oneCell'=true) (hreps:Reps S w us.toList cs [])
  (hs : cond i.kind.isAgg (K (put dst (.agg ((cs.drop off).take i.size)) σ))
        (match cs.getD off .ud with
         | .cl x=>coerce i.kind x fun v=>K (put dst v σ)
         | c=>coerce i.kind c fun v=>K (put dst v σ))=some r):OutV E r K S who w a dst ((part ft us off).run P w):=by
 cases hag:i.kind.isAgg with
 | true =>
  rw[hag] at hs
  simp only[cond_true] at hs
  refine outv_val (part_agg hT hag) h (.agg ?_ ?_) trivial hs
  ·
   intro c hc
   refine h0 c ?_
   simp only[Array.toList_extract,List.extract_eq_drop_take'] at hc
   exact List.mem_of_mem_take (List.mem_of_mem_drop hc)
  ·
   have:=hreps.sub off i.size
   simpa[Array.toList_extract,List.extract_eq_drop_take'] using this
 | false =>
  rw[hag] at hs
  simp only[cond_false] at hs
  by_cases hlt:off<cs.length
  ·
   obtain ⟨v,hv,hrv⟩:=hreps.get hlt
   obtain ⟨v',h1,h2,h3⟩:=partOne_sem hs hrv
   exact outv_val (part_one hT hag (by simpa using hv)) h h3 (h3.link h2) h1
  ·
   rw[List.getD_eq_getElem?_getD,List.getElem?_eq_none (by omega)] at hs
   have:∀ {k:TK} {G:V→Option R},coerce k .ud G=none:=by
    intro k G
    cases k <;> rfl
   simp[this] at hs
theorem field_out {t f:Nat} {x:Operand} (hE:EnvOK P E) (h:Rel E S who w a.tmps σ)
  (hs:(match kindOf (E.tys t),opnd E σ x with
   | .struct fs,.agg cs=>match fs[f]? with
    | some (off,ft,size)=>cond (kindOf (E.tys ft)).isAgg (K (put dst (.agg ((cs.drop off).take size)) σ))
      (match cs.getD off .ud with
       | .cl x=>coerce (kindOf (E.tys ft)) x fun v=>K (put dst v σ)
       | c=>coerce (kindOf (E.tys ft)) c fun v=>K (put dst v σ))
    | none=>none
   | _,_=>none)=some r):OutV E r K S who w a dst ((Instr.field t (a.eval x) f).run P w):=by
 obtain ⟨hr,hl⟩:=opnd_spec h x
 split at hs
 ·
  rename_i fs cs hk hx
  rw[hx] at hr
  split at hs
  ·
   rename_i off ft size he
   obtain ⟨F,hd,hfs,hinfo⟩:=kind_struct hE hk
   rw[hfs,List.getElem?_map] at he
   cases hF:F.toList[f]? with
   | none=>rw[hF] at he;cases he
   | some fl =>
    rw[hF] at he
    simp only[Option.map_some,Option.some.injEq,Prod.mk.injEq] at he
    obtain ⟨rfl,rfl,rfl⟩:=he
    have hi:∃ i,E.tys fl.type=some i:=by
     cases e:E.tys fl.type with
     | some i=>exact ⟨i,rfl⟩
     | none =>
      rw[e] at hs
      simp only[kindOf,TK.isAgg,cond_false] at hs
      split at hs <;> cases hs
    obtain ⟨i,hi⟩:=hi
    have hT:=hE.ty _ _ hi
    obtain ⟨ti,z,hti,hsz,_⟩:=hT.info
    rw[hi,cellsOf_info hti,hsz] at hs
    simp only[kindOf] at hs
    generalize a.eval x=u at *
    cases hr with
    | @agg us _ h0 hreps =>
     have hg:F[f]?=some fl:=by simpa using hF
     have hrun:(Instr.field t (.agg us) f).run P w=(part fl.type us fl.offset).run P w:=by
      simp only[Instr.field,Sem.run_bind,run_under w hd,Result.andThen_ok,hg,asAgg,Sem.run_pure]
     rw[hrun]
     exact part_out hT h h0 hreps hs
  ·
   cases hs
 ·
  cases hs
theorem byte_getD {s:ByteArray} {i:Nat} (h:i<s.data.toList.length):s[i]?=some (s.data.toList.getD i 0):=by
 have h':i<s.size:=by simpa using h
 rw[getElem?_pos s i h',List.getD_eq_getElem?_getD,List.getElem?_eq_getElem h]
 rfl
theorem index_out {t:Nat} {x ix:Operand} (hE:EnvOK P E) (h:Rel E S who w a.tmps σ)
  (hs:(match idxOf (opnd E σ ix) with
  | none=>none
  | some i=>match kindOf (E.tys t),opnd E σ x with
   | .str,.str s=>if 0≤i∧i<s.length then K (put dst (.int .u8 (s.getD i.toNat 0).toNat) σ) else none
   | .arr n k e,.agg cs=>if 0≤i∧i<n then
     cond (kindOf (E.tys e)).isAgg (K (put dst (.agg ((cs.drop (i.toNat*k)).take k)) σ))
      (match cs.getD i.toNat .ud with
       | .cl x=>coerce (kindOf (E.tys e)) x fun v=>K (put dst v σ)
       | c=>coerce (kindOf (E.tys e)) c fun v=>K (put dst v σ))
    else none
   | _,_=>none)=some r):OutV E r K S who w a dst ((Instr.index t (a.eval x) (a.eval ix)).run P w):=by
 obtain ⟨hr,hl⟩:=opnd_spec h x
 obtain ⟨hri,_⟩:=opnd_spec h ix
 split at hs
 ·
  cases hs
 rename_i i hi
 obtain ⟨ki,hvi⟩:=idx_sem hri hi
 rw[hvi]
 split at hs
 ·
  rename_i s hk hx
  split at hs
  ·
   rename_i hir
   rw[hx] at hr
   have hd:=kind_str hE hk
   generalize a.eval x=u at *
   cases hr with
   | str s =>
    have hlt:i.toNat<s.data.toList.length:=by omega
    refine outv_val ?_ h (.int _ _) trivial hs
    simp only[Instr.index,asIntOf,Sem.run_bind,Sem.run_pure,Result.andThen_ok,run_under w hd,hir.1,if_true,byte_getD hlt]
  ·
   cases hs
 ·
  rename_i n k e cs hk hx
  split at hs
  ·
   rename_i hir
   rw[hx] at hr
   obtain ⟨hd,hc,hpos,ie,hie⟩:=kind_arr hE hk
   have hi':∃ i,E.tys e=some i:=by
    cases e':E.tys e with
    | some i=>exact ⟨i,rfl⟩
    | none =>
     rw[e'] at hs
     simp only[kindOf,TK.isAgg,cond_false] at hs
     split at hs <;> cases hs
   obtain ⟨ei,hei⟩:=hi'
   have hT:=hE.ty _ _ hei
   obtain ⟨ti,z,hti,hsz,_⟩:=hT.info
   rw[hie] at hti;cases hti
   rw[cellsOf_info hie] at hc
   generalize a.eval x=u at *
   cases hr with
   | @agg us _ h0 hreps =>
    have hrun:(Instr.index t (.agg us) (.int ki i)).run P w=(part e us (i.toNat*k)).run P w:=by
     simp only[Instr.index,asIntOf,Sem.run_bind,Sem.run_pure,Result.andThen_ok,run_under w hd]
     rw[if_pos hir]
     simp only[Sem.run_bind,run_sizeOf w hie,Result.andThen_ok,hc]
    rw[hrun]
    rw[hei] at hs
    simp only[kindOf] at hs
    refine part_out hT h h0 hreps ?_
    cases hag:ei.kind.isAgg with
    | true =>
     rw[hag] at hs
     rw[←hsz,hc]
     exact hs
    | false =>
     rw[hag] at hs
     have hk1:k=1:=by rw[←hc,hsz,hT.one hag]
     subst hk1
     rw[Nat.mul_one]
     exact hs
  ·
   cases hs
 ·
  cases hs
theorem unOp_out {op:UnOp} {x:Operand} (h:Rel E S who w a.tmps σ)
  (hs:(match op,opnd E σ x with
  | .not,.bool b=>K (put dst (.bool (!b)) σ)
  | .neg,.int k n=>K (put dst (.int k (k.wrap (0-n))) σ)
  | .xor,.int k n=>K (put dst (.int k (bitsOf .xor k (if k.signed then -1 else k.max) n)) σ)
  | _,_=>none)=some r):OutV E r K S who w a dst ((Op.unary op (a.eval x)).run P w):=by
 obtain ⟨hr,hl⟩:=opnd_spec h x
 split at hs
 ·
  rename_i b hx
  rw[hx] at hr
  generalize a.eval x=u at *
  cases hr
  exact outv_val rfl h (.bool _) trivial hs
 ·
  rename_i k n hx
  rw[hx] at hr
  generalize a.eval x=u at *
  cases hr
  exact outv_val (by simp[Op.unary,Op.intArith]) h (.int _ _) trivial hs
 ·
  rename_i k n hx
  rw[hx] at hr
  generalize a.eval x=u at *
  cases hr
  exact outv_val (by simp[Op.unary,Op.intBits,bitsOf]) h (.int _ _) trivial hs
 ·
  cases hs
theorem load_out {t:Nat} {x:Operand} (hE:EnvOK P E) (h:Rel E S who w a.tmps σ) (hs:load (E.tys t) σ (opnd E σ x) (fun v σ'=>K (put dst v σ'))=some r) :
  OutV E r K S who w a dst ((Instr.loadAt t (a.eval x)).run P w):=by
 obtain ⟨hr,hl⟩:=opnd_spec h x
 obtain ⟨v,σ',S',who',u',h1,h2,h3,h4,h5,h6⟩:=load_sem (hE.ty t) h hr hl hs
 exact outv_put h1 h3 h6 h4 (by simp) (by simp) h5 h2
theorem tup_take {tm:Array Value} (h:Rel E S who w tm σ) {t i:Nat} {vs:List V} (ht:gt σ t=.tup vs) (hi:i<vs.length) :
  ∃ cs O who',tm.getD t undef=.tuple cs∧Rep S w (cs.toList.getD i undef) (vs.getD i .ud) O∧i<cs.size∧O.Nodup∧(∀ b∈O,who b≠none∧who' b=none∧¬S b) ∧
   Rel E S who' w tm (σ.set t (.tup (vs.set i .ud)))∧Step S who w S who' w:=by
 obtain ⟨OX,hO,hn,ho⟩:=h.rep t
 rw[ht] at hO
 generalize hu:tm.getD t undef=u at hO
 cases hO with
 | @tup cs _ _ hreps =>
  have key:∀ {us:List Value} {xs:List V} {O:List Nat} {i:Nat},Reps S w us xs O→i<xs.length →
    ∃ A B C,O=A++B++C∧i<us.length∧Rep S w (us.getD i undef) (xs.getD i .ud) B∧Reps S w us (xs.set i .ud) (A++C):=by
   intro us xs
   induction xs generalizing us with
   | nil=>intro _ _ _ hi;simp at hi
   | cons x xs ih =>
    intro O i hr hi
    cases hr with
    | @cons v _ us' _ O1 O2 h1 h2 =>
     cases i with
     | zero=>exact ⟨[],O1,O2,by simp,by simp,by simpa using h1,by simpa using Reps.cons (.ud v) h2⟩
     | succ i =>
      obtain ⟨A,B,C,e,hl,h3,h4⟩:=ih h2 (by simpa using hi)
      exact ⟨O1++A,B,C,by simp[e],by simpa using hl,by simpa using h3,by simpa using Reps.cons h1 h4⟩
  obtain ⟨A,B,C,e,hl,h1,h2⟩:=key hreps hi
  have hns:∀ b∈OX,¬S b:=fun b hb hs=>by have:=h.sep b hs;rw[ho b hb] at this;cases this
  have hlt:t<σ.length:=by
   rcases Nat.lt_or_ge t σ.length with h1 | h1
   ·
    exact h1
   ·
    rw[gt_len h1] at ht;cases ht
  subst e
  have hroot:∀ rr,SameRoot tm tm σ (σ.set t (.tup (vs.set i .ud))) rr:=by
   intro rr
   refine ⟨rfl,?_⟩
   rw[gt_set]
   by_cases hrr:t=rr∧rr<σ.length
   ·
    rw[if_pos hrr]
    exact .inr ⟨fun h=>h.elim,by rw[←hrr.1,ht];rfl⟩
   ·
    rw[if_neg hrr];exact .inl rfl
  refine ⟨cs,B,fun b=>if b∈B then none else who b,rfl,h1,by simpa using hl,?_,?_,?_,?_⟩
  ·
   have:=hn;simp only[List.nodup_append] at this;exact this.1.2.1
  ·
   intro b hb
   exact ⟨by rw[ho b (by simp[hb])];simp,by simp[hb],hns b (by simp[hb])⟩
  ·
   refine ⟨by rw[List.length_set];exact h.size,fun j=>?_,fun b hb=>?_,h.low,fun b j hb=>?_,fun j=>?_,h.glob⟩
   ·
    rw[gt_set]
    by_cases hj:t=j∧j<σ.length
    ·
     rw[if_pos hj]
     obtain ⟨rfl,hj⟩:=hj
     have hnd:=hn
     simp only[List.nodup_append,List.mem_append] at hnd
     refine ⟨A++C,by rw[hu];exact .tup h2,?_,fun b hb=>?_⟩
     ·
      rw[List.nodup_append]
      exact ⟨hnd.1.1,hnd.2.1,fun a ha c hc=>hnd.2.2 a (.inl ha) c hc⟩
     ·
      have:b ∉ B:=fun hB=>by
       rcases List.mem_append.1 hb with h1 | h1
       ·
        exact hnd.1.2.2 b h1 b hB rfl
       ·
        exact hnd.2.2 b (.inr hB) b h1 rfl
      simp only[this,if_false]
      exact ho b (by rcases List.mem_append.1 hb with h1 | h1 <;> simp[h1])
    ·
     rw[if_neg hj]
     obtain ⟨P,hP,hnP,hoP⟩:=h.rep j
     refine ⟨P,hP,hnP,fun b hb=>?_⟩
     have:b ∉ B:=fun hB=>by
      have h1:=ho b (by simp[hB])
      rw[hoP b hb] at h1
      have e:j=t:=by simpa using h1
      subst e
      exact hj ⟨rfl,hlt⟩
     simp only[this,if_false]
     exact hoP b hb
   ·
    have:=h.sep b hb
    simp[this]
   ·
    split at hb
    ·
     cases hb
    ·
     exact h.lowO b _ hb
   ·
    rw[gt_set]
    by_cases hj:t=j∧j<σ.length
    ·
     rw[if_pos hj];trivial
    ·
     rw[if_neg hj];exact (h.link j).congr fun rr _=>hroot rr
  ·
   refine ⟨Nat.le_refl _,fun _ _ _=>rfl,fun _ h=>h,fun _ h=>.inl h,fun b hb=>.inl fun hc=>?_,Same.refl _⟩
   apply hb
   simp[hc]
theorem simple_cont {v:V} (h:simple v=true):Cont v=false∧(∀ a l,v≠.tup (a::l))∧linkFree v=true:=by
 cases v
 case tup vs =>
  cases vs with
  | nil=>exact ⟨rfl,by simp,rfl⟩
  | cons=>cases h
 all_goals first | (cases h;done) | (refine ⟨rfl,by simp,?_⟩;first | rfl | exact h)
theorem extract_out {i:Nat} {x:Operand} (h:Rel E S who w a.tmps σ)
  (hs:(match x with
  | .tmp t=>match gt σ t with
   | .tup vs=>match vs.getD i .ud with
    | .own n k rows=>K (put dst (.own n k rows) (σ.set t (.tup (vs.set i .ud))))
    | v=>cond (simple v) (K (put dst v σ)) none
   | _=>none
  | _=>none)=some r):OutV E r K S who w a dst ((Instr.extract (a.eval x) i).run P w):=by
 split at hs
 ·
  rename_i t
  have hev:a.eval (.tmp t)=a.tmps.getD t undef:=rfl
  split at hs
  ·
   rename_i vs ht
   have hi:i<vs.length:=by
    rcases Nat.lt_or_ge i vs.length with h1 | h1
    ·
     exact h1
    ·
     rw[List.getD_eq_getElem?_getD,List.getElem?_eq_none (by omega)] at hs
     simp[simple] at hs
   obtain ⟨cs,O,who',hu,hrep,hlt,hn,hO,hrel,hst⟩:=tup_take h ht hi
   have hrun:(Instr.extract (a.eval (.tmp t)) i).run P w=.ok (cs.toList.getD i undef) w:=by
    rw[hev,hu]
    have:cs[i]?=some (cs.toList.getD i undef):=by
     rw[Array.getElem?_eq_getElem hlt,List.getD_eq_getElem?_getD]
     simp[hlt]
    simp only[Instr.extract,this,Sem.run_pure]
   split at hs
   ·
    rename_i n k rows hx
    rw[hx] at hrep
    exact outv_put hrun hrel hst hrep hn (fun b hb=>⟨⟨(hO b hb).2.1,(hO b hb).2.2⟩,.inl (hO b hb).1⟩) trivial hs
   ·
    rename_i v _ hx
    cases hsi:simple (vs.getD i .ud) with
    | false=>rw[hsi] at hs;cases hs
    | true =>
     rw[hsi] at hs
     simp only[cond_true] at hs
     obtain ⟨h1,h2,h3⟩:=simple_cont hsi
     have:=hrep.plain h1 h2
     subst this
     exact outv_val hrun h hrep (hrep.link h3) hs
  ·
   cases hs
 ·
  cases hs
theorem pick_out {c x y:Operand} (h:Rel E S who w a.tmps σ)
  (hs:(match opnd E σ c with
  | .bool b=>if b=true then K (put dst (opnd E σ x) σ) else K (put dst (opnd E σ y) σ)
  | _=>none)=some r):OutV E r K S who w a dst ((do pure (if ←Go.asBool (a.eval c) then a.eval x else a.eval y):Sem Value).run P w):=by
 obtain ⟨hr,_⟩:=opnd_spec h c
 split at hs
 ·
  rename_i b hx
  rw[hx] at hr
  generalize a.eval c=u at *
  cases hr
  cases b with
  | true=>exact outv_val rfl h (opnd_spec h x).1 (opnd_spec h x).2 hs
  | false=>exact outv_val rfl h (opnd_spec h y).1 (opnd_spec h y).2 hs
 ·
  cases hs
end
end Go.Zv
namespace Go.Zv
open Go
section
variable {R:Type} {P:Program} {E:Env} {r:R} {K:List V→Option R} {S S':Nat→Prop} {who who':Nat→Option Nat} {w w':World} {a:Act} {dst:Option Nat} {σ σ':List V}
theorem asBytes_sem:∀ {rows:List (List V)} {s:List UInt8},asBytes rows=some s→(∀ r∈rows,r.length=1) →
  ∃ ns:List Int,rows.flatten=ns.map (V.int .u8)∧s=ns.map (fun n=>UInt8.ofNat n.toNat)∧rows.length=ns.length
 | [],s,h,_=>by cases h;exact ⟨[],rfl,rfl,rfl⟩
 | r::rows,s,h,hl=>by
  unfold asBytes at h
  cases e:asInt .u8 (r.getD 0 .ud) with
  | none=>rw[e] at h;cases h
  | some n =>
   rw[e] at h
   simp only[Option.bind_some] at h
   cases e2:asBytes rows with
   | none=>rw[e2] at h;cases h
   | some s' =>
    rw[e2] at h
    cases h
    obtain ⟨ns,h1,h2,h3⟩:=asBytes_sem e2 fun r hr=>hl r (by simp[hr])
    have hr1:=hl r (by simp)
    match r,hr1 with
    | [x],_ =>
     have hx:x=.int .u8 n:=by
      simp only[List.getD_cons_zero] at e
      unfold asInt at e
      split at e
      ·
       split at e
       ·
        rename_i hk;subst hk;cases e;rfl
       ·
        cases e
      ·
       cases e
     subst hx
     exact ⟨n::ns,by simp[h1],by simp[h2],by simp[h3]⟩
theorem Mem.ints {b:Nat}:∀ {o:Nat} {ns:List Int} {O:List Nat},Mem S w b o (ns.map (V.int .u8)) O→∀ j v,(ns.map (Value.int .u8))[j]?=some v→w.cell? ⟨b,o+j,none⟩=some v
 | _,[],_,_,_,_,h=>by simp at h
 | o,n::ns,_,.cons h1 h0 h2 h3,j,v,h=>by
  cases j with
  | zero =>
   simp only[List.map_cons,List.getElem?_cons_zero,Option.some.injEq] at h
   subst h
   cases h2
   exact h1
  | succ j =>
   have:=Mem.ints h3 j v (by simpa using h)
   rw[Nat.add_assoc,Nat.add_comm 1 j] at this
   exact this
theorem run_bytes_str {s:Nat} {u:Value} {rows:List (List V)} {bs:List UInt8} {src dst:Nat} (hE:EnvOK P E) (hu8:E.u8s src=true) (hd:P.underlying dst=some .string) (hR:RowsIn S w u 1 rows) (hb:asBytes rows=some bs) :
  (convert src dst u).run P w=.ok (.string ⟨bs.toArray⟩) w:=by
 obtain ⟨A,c,rfl,hl,hA⟩:=hR
 obtain ⟨e,ie,h1,h2,h3,h4⟩:=hE.u8 _ hu8
 obtain ⟨ns,g1,g2,g3⟩:=asBytes_sem hb hl
 rw[run_convert_bytes_string w src dst e A rows.length c h1 h2 hd]
 have fin:∀ ns:List Int,ns.foldl (fun r n=>r.push (UInt8.ofNat n.toNat)) ByteArray.empty=⟨(ns.map fun n=>UInt8.ofNat n.toNat).toArray⟩:=by
  have:∀ (ns:List Int) (r:ByteArray),ns.foldl (fun r n=>r.push (UInt8.ofNat n.toNat)) r=⟨r.data++(ns.map fun n=>UInt8.ofNat n.toNat).toArray⟩:=by
   intro ns
   induction ns with
   | nil=>intro r;simp
   | cons n ns ih =>
    intro r
    rw[List.foldl_cons,ih]
    simp[ByteArray.push,Array.append_assoc]
  intro ns
  rw[this]
  have he0:ByteArray.empty.data=#[]:=rfl
  simp[he0]
 by_cases hr:rows=[]
 ·
  subst hr
  have:ns=[]:=List.eq_nil_of_length_eq_zero (by simpa using g3.symm)
  subst this
  subst g2
  cases A with
  | none=>rfl
  | some a =>
   rw[show ([]:List (List V)).length=0 from rfl,run_bytesToString w a 0 c [] (by simpa using run_loadCells_list (P:=P) w a [] (by simp)),fin]
 ·
  obtain ⟨_,b,o,rfl,hm⟩:=hA hr
  rw[g1] at hm
  rw[run_bytesToString w _ _ c ns (by
   have:=run_loadCells_list (P:=P) w ⟨b,o,none⟩ (ns.map (Value.int .u8)) (fun j v hj=>by rw[add_none];exact hm.ints j v hj)
   rw[g3]
   simpa using this),fin,g2]
theorem bytesV_reps:∀ s:List UInt8,Reps S w (s.map fun b=>Value.int .u8 b.toNat) (bytesV s).flatten []
 | []=>.nil
 | b::s=>by simpa[bytesV] using Reps.cons (.int .u8 b.toNat) (bytesV_reps s)
theorem convert_out {src d:Nat} {x:Operand} (hE:EnvOK P E) (h:Rel E S who w a.tmps σ) (hs:evConvert E src d σ (opnd E σ x) (fun v σ'=>K (put dst v σ'))=some r) :
  OutV E r K S who w a dst ((convert src d (a.eval x)).run P w):=by
 obtain ⟨hr,hl⟩:=opnd_spec h x
 unfold evConvert at hs
 split at hs
 ·
  cases hs
 rename_i si hsi
 obtain ⟨sd,hsd,_⟩:=(hE.ty _ _ hsi).under
 split at hs
 ·
  -- an owned slice of bytes, marked
  rename_i k bb r0 hk hx
  cases hc:(Nat.beq src d&&E.u8s d) with
  | false=>rw[hc] at hs;cases hs
  | true =>
   rw[hc] at hs
   simp only[cond_true] at hs
   rw[Bool.and_eq_true] at hc
   have hsd:src=d:=Nat.eq_of_beq_eq_true hc.1
   subst hsd
   obtain ⟨e,ie,h1,h2,h3,h4⟩:=hE.u8 _ hc.2
   split at hs
   ·
    rename_i n k' rows hg
    split at hs
    ·
     cases hs
    ·
     rename_i row rows
     split at hs
     ·
      rename_i hkk;subst hkk
      rw[hx] at hl
      have hu:a.eval x=a.tmps.getD r0 undef:=by
       rcases hl with ⟨_,hl⟩ | ⟨q,i,j,c,X,b,o,e,_⟩
       ·
        exact hl (by rw[hg];trivial)
       ·
        simp at e
      have hf:Follow w (a.tmps.getD r0 undef) (gt σ r0) [] (a.tmps.getD r0 undef) (gt σ r0):=.nil _ _
      obtain ⟨OX,who',g1,g2,g3,g4,g5⟩:=take_sem h hf (by rw[hg];simp)
      rw[hu]
      rw[hg] at g1
      generalize a.tmps.getD r0 undef=u at g1 ⊢
      generalize hrows:row::rows=rs at g1 hs
      cases g1 with
      | own0=>simp at hrows
      | @own b o c _ _ _ O m1 m2 m3 m4 m5 m6 =>
       obtain ⟨cs,t,lo,hi,q1,q2,q3⟩:=m3
       have hk1:k'=1:=by
        obtain ⟨ti,e',ie',z',_,hd',hie',_,hsz',_⟩:=kind_slice hE hk
        rw[h1] at hd';cases hd'
        rw[h3] at hie';cases hie'
        omega
       obtain ⟨w2,hw2,lo',hi',q4,q5,q6⟩:∃ w2,(markStringish ⟨b,o,none⟩).run P w=.ok () w2∧∃ lo' hi',w2.heap[b]?=some (.cells cs t (lo',hi'))∧(lo'=hi'∨(k'=1∧cs.size≤lo')) ∧
         (w2.heap.size=w.heap.size∧(∀ b',b'≠b→w2.heap[b']?=w.heap[b']?)∧Same w w2):=by
        refine ⟨w.freeze ⟨b,cs.size,none⟩ 1,?_,?_⟩
        ·
         simp only[markStringish,Sem.run_bind,run_shape,Result.andThen_ok,World.shape?,q1,run_freeze]
        ·
         have hb:b<w.heap.size:=lt_of_some q1
         have hz:(w.freeze ⟨b,cs.size,none⟩ 1).heap.size=w.heap.size:=by simp[World.freeze]
         have ho:∀ b',b'≠b→(w.freeze ⟨b,cs.size,none⟩ 1).heap[b']?=w.heap[b']?:=fun b' hne=>by
          simp[World.freeze,Array.getElem?_modify,Ne.symm hne]
         have hget:(w.freeze ⟨b,cs.size,none⟩ 1).heap[b]?=some (.cells cs t (if lo==hi then (cs.size,cs.size+1) else (min lo cs.size,max hi (cs.size+1)))):=by
          simp[World.freeze,Array.getElem?_modify,q1]
         by_cases hlh:lo=hi
         ·
          subst hlh
          exact ⟨_,_,by simpa using hget,.inr ⟨hk1,Nat.le_refl _⟩,hz,ho,⟨rfl,rfl,rfl⟩⟩
         ·
          rcases q3 with q3 | ⟨_,q3⟩
          ·
           exact absurd q3 hlh
          ·
           have hne:(lo==hi)=false:=by simpa using hlh
           rw[hne] at hget
           exact ⟨_,_,hget,.inr ⟨hk1,by show cs.size≤min lo cs.size;omega⟩,hz,ho,⟨rfl,rfl,rfl⟩⟩
       have hwb:who b≠none:=(g3 b (by simp)).1
       have hsb:∀ b',S b'→w2.heap[b']?=w.heap[b']?:=fun b' hb'=>q6.2.1 b' fun e=>(g3 b (by simp)).2.2 (e ▸ hb')
       have hrel:Rel E S who' w2 a.tmps (setPlace σ r0 [] .ud) :=
        g4.world hsb (fun b' hb'=>q6.2.1 b' fun e=>hb' (e ▸ (g3 b (by simp)).2.1)) (Nat.le_of_eq q6.1.symm) (fun _ h=>h) g4.sep (fun b' hb'=>by rw[q6.1];exact g4.low b' hb')
       have hst:Step S who w S who' w2:=⟨Nat.le_of_eq q6.1.symm,fun b' _ hn=>q6.2.1 b' (fun e=>hwb (e ▸ hn)),fun _ h=>h,fun _ h=>.inl h,fun b' hb'=>(g5.own b' hb').imp id fun h=>h,q6.2.2⟩
       have hO:∀ b'∈O,b'≠b:=fun b' hb' e=>by simp only[List.nodup_cons] at g2;exact g2.1 (e ▸ hb')
       have hrep:Rep S w2 (.slice (some ⟨b,o,none⟩) rs.length c) (.own n k' rs) (b::O) :=
        .own m1 m2 ⟨cs,t,lo',hi',q4,q2,q5⟩ m4 m5 (m6.other (fun _ h=>h) hsb (fun j _=>by simp[World.cell?,q4,q1]) fun b' hb'=>q6.2.1 b' (hO b' hb'))
       refine outv_put (u:=.slice (some ⟨b,o,none⟩) rs.length c) ?_ hrel hst hrep g2 (fun b' hb'=>⟨⟨(g3 b' hb').2.1,(g3 b' hb').2.2⟩,.inl (g3 b' hb').1⟩) trivial hs
       simp[convert,run_under w h1,run_under w h2,hw2]
     ·
      cases hs
   ·
    cases hs
 ·
  -- whole numbers
  rename_i k kk n hk hx
  rw[hx] at hr
  have hd:=kind_int hE hk
  generalize a.eval x=u at *
  cases hr
  refine outv_val ?_ h (.int _ _) trivial hs
  simp[convert,run_under w hsd,run_under w hd,Conv.intToInt]
 ·
  rename_i bs hk hx
  rw[hx] at hr
  have hd:=kind_str hE hk
  generalize a.eval x=u at *
  cases hr with
  | str s =>
   refine outv_val (u:=.string s) ?_ h (.str s) trivial hs
   simp[convert,run_under w hsd,run_under w hd]
 ·
  rename_i kk n hk hx
  rw[hx] at hr
  have hd:=kind_str hE hk
  generalize a.eval x=u at *
  cases hr
  refine outv_val (u:=.string (Utf8.encode n)) ?_ h (.str _) trivial hs
  simp[convert,run_under w hsd,run_under w hd,Conv.intToString]
 ·
  rename_i kk bb bs hk hx
  cases hu8:E.u8s d with
  | false=>rw[hu8] at hs;cases hs
  | true =>
   rw[hu8] at hs
   simp only[cond_true] at hs
   obtain ⟨e,ie,h1,h2,h3,h4⟩:=hE.u8 _ hu8
   rw[hx] at hr
   generalize a.eval x=u at *
   cases hr with
   | str s =>
    have hrun:=Lib.run_convert_string_bytes (P:=P) w src d e s hsd h1 h2
    have hg:Grows w (Lib.bytesWorld w e s):=⟨by rw[Lib.bytesWorld_size];omega,fun b hb=>Lib.bytesWorld_at_old w e s b hb,⟨rfl,rfl,rfl⟩⟩
    have hnew:who w.heap.size=none:=by
     cases e:who w.heap.size with
     | none=>rfl
     | some x=>have:=h.lowO _ x e;omega
    have hcap:=grownCap_ge w s.size 0 e
    have hsz:(Lib.bytesCells w e s).size=grownCap w s.size 0 e:=by
     have:s.data.size=s.size:=rfl
     simp only[Lib.bytesCells,Array.size_append,Array.size_map,Array.size_replicate,this];omega
    have hlen:(bytesV s.data.toList).length=s.size:=by simp[bytesV]
    have hm:Mem S (Lib.bytesWorld w e s) w.heap.size 0 (bytesV s.data.toList).flatten []:=by
     refine Mem.fresh (bytesV_reps s.data.toList) (by intro v hv;obtain ⟨b,_,rfl⟩:=List.mem_map.1 hv;rfl) fun j hj=>?_
     have hj':j<s.size:=by simpa using hj
     rw[Nat.zero_add,Lib.bytesWorld_cell w e s j hj']
     simp only[List.getD_eq_getElem?_getD,List.getElem?_map]
     rw[List.getElem?_eq_getElem (by simpa using hj)]
     rfl
    have hrep:Rep S (Lib.bytesWorld w e s) (.slice (some ⟨w.heap.size,0,none⟩) s.size (grownCap w s.size 0 e)) (.own false 1 (bytesV s.data.toList)) [w.heap.size]:=by
     have:=Rep.own (S:=S) (w:=Lib.bytesWorld w e s) (b:=w.heap.size) (o:=0) (c:=grownCap w s.size 0 e) (n:=false) (rows:=bytesV s.data.toList) (k:=1) (by omega)
      (by intro r hr;obtain ⟨b,_,rfl⟩:=List.mem_map.1 hr;rfl) ⟨_,_,_,_,Lib.bytesWorld_at_new w e s,by rw[hsz];omega,.inr ⟨rfl,Nat.le_refl _⟩⟩ (by rw[hlen];exact hcap) (fun _=>rfl) hm
     rw[hlen] at this
     exact this
    exact outv_put hrun (h.grow hg) ((Step.refl _ _ _).grow hg) hrep (by simp) (fun b hb=>by
     rw[List.mem_singleton] at hb;subst hb
     exact ⟨⟨hnew,fun hs=>absurd (h.low _ hs) (by omega)⟩,.inr (Nat.le_refl _)⟩) trivial hs
 ·
  rename_i hk _ _
  cases hu8:E.u8s src with
  | false=>rw[hu8] at hs;cases hs
  | true =>
   rw[hu8] at hs
   simp only[cond_true] at hs
   obtain ⟨rows,g1,g2⟩:=reads_sem h hr hl hs
   cases e:asBytes rows with
   | none=>rw[e] at g1;cases g1
   | some bs =>
    rw[e] at g1
    simp only[Option.bind_some] at g1
    exact outv_val (v:=.str bs) (run_bytes_str (s:=0) hE hu8 (kind_str hE hk) g2 e) h (by simpa using Rep.str (S:=S) (w:=w) ⟨bs.toArray⟩) trivial g1
 ·
  cases hs
theorem convert_str_same {src d:Nat} {x:Operand} {K2:V→List V→Option R} (hE:EnvOK P E) (h:Rel E S who w a.tmps σ) (hk:kindOf (E.tys d)=.str) (hs:evConvert E src d σ (opnd E σ x) K2=some r) :
  ∃ u,(convert src d (a.eval x)).run P w=.ok u w:=by
 obtain ⟨hr,hl⟩:=opnd_spec h x
 unfold evConvert at hs
 split at hs
 ·
  cases hs
 rename_i si hsi
 obtain ⟨sd,hsd,_⟩:=(hE.ty _ _ hsi).under
 have hd:=kind_str hE hk
 split at hs
 ·
  rename_i hk' _;rw[hk] at hk';cases hk'
 ·
  rename_i hk' _;rw[hk] at hk';cases hk'
 ·
  rename_i bs _ hx
  rw[hx] at hr
  generalize a.eval x=u at *
  cases hr with
  | str s=>exact ⟨.string s,by simp[convert,run_under w hsd,run_under w hd]⟩
 ·
  rename_i kk n _ hx
  rw[hx] at hr
  generalize a.eval x=u at *
  cases hr
  exact ⟨.string (Utf8.encode n),by simp[convert,run_under w hsd,run_under w hd,Conv.intToString]⟩
 ·
  rename_i hk' _;rw[hk] at hk';cases hk'
 ·
  cases hu8:E.u8s src with
  | false=>rw[hu8] at hs;cases hs
  | true =>
   rw[hu8] at hs
   simp only[cond_true] at hs
   obtain ⟨rows,g1,g2⟩:=reads_sem h hr hl hs
   cases e:asBytes rows with
   | none=>rw[e] at g1;cases g1
   | some bs=>exact ⟨_,run_bytes_str (s:=0) hE hu8 hd g2 e⟩
 ·
  cases hs
end
end Go.Zv
namespace Go.Zv
open Go
section
variable {R:Type} {P:Program} {E:Env} {r:R} {K:List V→Option R} {S S':Nat→Prop} {who who':Nat→Option Nat} {w w':World} {a:Act} {dst:Option Nat} {σ σ':List V}
theorem strip_mem:∀ {b o:Nat} {cs:List V} {O:List Nat},Mem S w b o cs O→O=[]→Mem S w b o (stripAll cs) []
 | _,_,_,_,.nil _ _,_=>.nil _ _
 | _,_,c::cs,_,.cons h0 h9 h1 h2,hO=>by
  obtain ⟨rfl,rfl⟩:=List.append_eq_nil_iff.1 hO
  have:∀ {u:Value} {c:V},Rep S w u c []→Rep S w u c.strip []:=by
   intro u c h1
   exact h1.strip
  simpa[stripAll] using Mem.cons h0 h9 (this h1) (strip_mem h2 rfl)
theorem freezeBox_sem {tm:Array Value} (h:Rel E S who w tm σ) {r0:Nat} {cells:List V} (hg:gt σ r0=.obox cells) (hgood:goodCells (shareCells cells)=true) :
  ∃ b S' who',tm.getD r0 undef=.pointer (some ⟨b,0,none⟩)∧S' b∧Mem S' w b 0 (stripAll (shareCells cells)) [] ∧
   Rel E S' who' w tm ((drop r0 0 σ).set r0 (.iptr (stripAll (shareCells cells)) 0))∧Step S who w S' who' w:=by
 have hf:Follow w (tm.getD r0 undef) (gt σ r0) [] (tm.getD r0 undef) (gt σ r0):=.nil _ _
 have hlt:r0<σ.length:=hf.lt (by rw[hg];simp)
 obtain ⟨OX,h1,h2,h3,h4⟩:=h.turn hf
 have hlow:∀ b∈OX,b<w.heap.size:=h1.low
 rw[hg] at h1
 generalize hu:tm.getD r0 undef=u at *
 cases h1 with
 | @obox b _ O m1 m2 =>
  rw[shareCells_eq] at hgood ⊢
  have hm:Mem (fun b'=>S b'∨b'∈b::O) w b 0 (stripAll (cells.map shareCell)) []:=strip_mem (share_mem (fun _ h=>.inl h) m2 (fun b' hb'=>.inr (by simp[hb'])) hgood) rfl
  have:=h4 false 0 (fun b'=>S b'∨b'∈b::O) w (.iptr (stripAll (cells.map shareCell)) 0) [] (.inl rfl) (fun _ h=>.inl h) (fun _ _=>rfl) (fun _ _ _=>rfl) (Nat.le_refl _)
   (.iptr (.inr (by simp)) rfl hm) (by simp) (by simp) (by simp)
   (fun b' hb'=>⟨hb'.imp (h.sep b') id,by simp,hb'.elim (h.low b') (hlow b')⟩) (fun h=>h.elim) trivial hlt
  refine ⟨b,_,_,rfl,.inr (by simp),hm,this,⟨Nat.le_refl _,fun _ _ _=>rfl,fun _ h=>.inl h,fun b' hb'=>hb'.imp id fun hb'=>.inl (by rw[h3 b' hb'];simp),fun b' hb'=>.inl ?_,Same.refl _⟩⟩
  intro hn
  apply hb'
  simp only[List.not_mem_nil,if_false]
  split
  ·
   rfl
  ·
   exact hn
theorem caps_sem (mb:Bool) {G:List V→List V→Option R}:∀ (l:List (Value×V)) {S:Nat→Prop} {who:Nat→Option Nat} {σ:List V} {tm:Array Value} (acc:List (Value×V)),
  Rel E S who w tm σ→(∀ y∈l,Rep S w y.1 y.2 []∧∀ rr q,y.2=.ptr rr q→mb=true→Link1 w tm σ y.1 y.2)→(∀ y∈l,∀ rr,y.2=.ptr rr [(0,0)]→mb=false→∀ cells,gt σ rr=.obox cells→y.1=tm.getD rr undef) →
  (∀ y∈acc,Rep S w y.1 y.2 []∧Link1 w tm σ y.1 y.2∧(mb=false→isIptr y.2=true))→evCaps mb (l.map (·.2)) (acc.map (·.2)) σ G=some r →
  ∃ (res:List (Value×V)) (σ':List V) (S':Nat→Prop) (who':Nat→Option Nat),res.map (·.1)=acc.reverse.map (·.1)++l.map (·.1)∧G (res.map (·.2)) σ'=some r∧Rel E S' who' w tm σ'∧Step S who w S' who' w ∧
   ∀ y∈res,Rep S' w y.1 y.2 []∧Link1 w tm σ' y.1 y.2
 | [],S,who,σ,tm,acc,h,_,_,hacc,hs=>⟨acc.reverse,σ,S,who,by simp,by simpa[evCaps] using hs,h,Step.refl _ _ _,fun y hy=>⟨(hacc y (by simpa using hy)).1,(hacc y (by simpa using hy)).2.1⟩⟩
 | (u,x)::l,S,who,σ,tm,acc,h,hl,hl2,hacc,hs=>by
  simp only[List.map_cons,evCaps] at hs
  split at hs
  ·
   rename_i c o
   obtain ⟨res,σ',S',who',e1,e2,e3,e4,e5⟩:=caps_sem mb l ((u,.iptr c o)::acc) h (fun y hy=>hl y (by simp[hy])) (fun y hy=>hl2 y (by simp[hy])) (fun y hy=>by
    rcases List.mem_cons.1 hy with rfl | hy
    ·
     exact ⟨(hl _ (by simp)).1,trivial,fun _=>rfl⟩
    ·
     exact hacc y hy) hs
   exact ⟨res,σ',S',who',by simpa using e1,e2,e3,e4,e5⟩
  ·
   rename_i r0
   cases mb with
   | true =>
    simp only[cond_true] at hs
    obtain ⟨res,σ',S',who',e1,e2,e3,e4,e5⟩:=caps_sem true l ((u,.ptr r0 [(0,0)])::acc) h (fun y hy=>hl y (by simp[hy])) (fun y hy=>hl2 y (by simp[hy])) (fun y hy=>by
     rcases List.mem_cons.1 hy with rfl | hy
     ·
      exact ⟨(hl _ (by simp)).1,(hl _ (by simp)).2 _ _ rfl rfl,fun h=>by cases h⟩
     ·
      exact hacc y hy) hs
    exact ⟨res,σ',S',who',by simpa using e1,e2,e3,e4,e5⟩
   | false =>
    simp only[cond_false] at hs
    split at hs
    ·
     rename_i cells hg
     unfold sharedBox at hs
     cases hgood:goodCells (shareCells cells) with
     | false=>simp[hgood] at hs
     | true =>
      simp only[hgood,cond_true] at hs
      obtain ⟨b,S1,who1,g1,g2,g3,g4,g5⟩:=freezeBox_sem h hg hgood
      have hsub:∀ {y:Value×V},Rep S w y.1 y.2 []→Rep S1 w y.1 y.2 []:=fun hr=>hr.mono g5.sub (fun _ _=>rfl) (by simp)
      have hu:u=tm.getD r0 undef:=hl2 (u,.ptr r0 [(0,0)]) (by simp) r0 rfl rfl _ hg
      obtain ⟨res,σ',S',who',e1,e2,e3,e4,e5⟩:=caps_sem false l ((u,.iptr (stripAll (shareCells cells)) 0)::acc) g4 (fun y hy=>⟨hsub (hl y (by simp[hy])).1,fun _ _ _ h=>by cases h⟩)
       (fun y hy rr e hn cells' hc=>hl2 y (by simp[hy]) rr e hn cells' (by
        rw[gt_set,gt_drop] at hc
        split at hc
        ·
         cases hc
        ·
         cases e3:stale r0 0 (gt σ rr) with
         | true=>rw[e3] at hc;cases hc
         | false=>rw[e3] at hc;exact hc)) (fun y hy=>by
       rcases List.mem_cons.1 hy with rfl | hy
       ·
        exact ⟨by rw[hu,g1];exact .iptr g2 rfl g3,trivial,fun _=>rfl⟩
       ·
        refine ⟨hsub (hacc y hy).1,?_,(hacc y hy).2.2⟩
        have:=(hacc y hy).2.2 rfl
        cases e:y.2 <;> rw[e] at this <;> first | trivial | cases this) hs
      exact ⟨res,σ',S',who',by simpa using e1,e2,e3,g5.trans e4,e5⟩
    ·
     cases hs
  ·
   cases hs
theorem makeFunc_out {f:Fn} {first caps:Array Operand} {nest:Bool} (h:Rel E S who w a.tmps σ)
  (hs:(match f with
  | .func g=>if first.size=0 then evCaps nest (caps.toList.map (opnd E σ)) [] σ fun cs σ'=>K (put dst (.fn g cs) σ') else none
  | _=>none)=some r):OutV E r K S who w a dst ((Instr.makeFunc f (first.map a.eval) (caps.map a.eval)).run P w):=by
 split at hs
 ·
  rename_i g
  split at hs
  ·
   rename_i h0
   have hfirst:first.map a.eval=#[]:=by
    apply Array.eq_empty_of_size_eq_zero
    simpa using h0
   have hmap:caps.toList.map (opnd E σ)=(caps.toList.map fun x=>(a.eval x,opnd E σ x)).map (·.2):=by simp
   rw[hmap] at hs
   obtain ⟨res,σ',S',who',e1,e2,e3,e4,e5⟩:=caps_sem nest _ [] h (fun y hy=>by
    obtain ⟨x,_,rfl⟩:=List.mem_map.1 hy
    obtain ⟨h1,h2⟩:=opnd_spec h x
    refine ⟨h1,fun rr q e _=>?_⟩
    simp only at e
    rw[e] at h2 ⊢
    exact h2) (fun y hy rr e hn cells hc=>by
    obtain ⟨x,_,rfl⟩:=List.mem_map.1 hy
    obtain ⟨_,h2⟩:=opnd_spec h x
    simp only at e ⊢
    rw[e] at h2
    obtain ⟨q,i,j,c,X,b,o,e2,hf,hb,hu⟩:=h2
    have hq:q=[]∧i=0∧j=0:=by
     cases q with
     | nil=>simp at e2;exact ⟨rfl,e2.1.symm,e2.2.symm⟩
     | cons z q=>simp at e2
    obtain ⟨rfl,rfl,rfl⟩:=hq
    rw[hc] at hf
    generalize a.tmps.getD rr undef=c0 at hf ⊢
    generalize hq:([]:Path)=q0 at hf
    cases hf with
    | nil=>cases hb with
     | box=>exact hu
    | _=>cases hq) (by simp) hs
   have hvals:(caps.map a.eval).toList=res.map (·.1):=by rw[e1];simp
   have hreps:∀ l:List (Value×V),(∀ y∈l,Rep S' w y.1 y.2 [])→Reps S' w (l.map (·.1)) (l.map (·.2)) []:=by
    intro l
    induction l with
    | nil=>intro _;exact .nil
    | cons y l ih=>intro hy;simpa using Reps.cons (hy y (by simp)) (ih fun z hz=>hy z (by simp[hz]))
   refine outv_put (u:=.func (.func g) #[] (caps.map a.eval)) (v:=.fn g (res.map (·.2))) ?_ e3 e4 (.fn (by rw[hvals];exact hreps res fun y hy=>(e5 y hy).1)) (by simp) (by simp) ?_ e2
   ·
    simp[Instr.makeFunc,hfirst]
   ·
    refine ⟨_,rfl,?_,fun i=>?_⟩
    ·
     have:=congrArg List.length hvals
     simpa using this
    ·
     by_cases hi:i<res.length
     ·
      have g1:(res.map (·.2)).getD i .ud=(res[i]).2:=by simp[List.getD_eq_getElem?_getD,List.getElem?_map,List.getElem?_eq_getElem hi]
      have g2:(caps.map a.eval).getD i undef=(res[i]).1:=by
       rw[Array.getD_eq_getD_getElem?,←Array.getElem?_toList,hvals]
       simp[List.getElem?_map,List.getElem?_eq_getElem hi]
      rw[g1,g2]
      exact (e5 _ (List.getElem_mem hi)).2
     ·
      rw[List.getD_eq_getElem?_getD,List.getElem?_eq_none (by simp;omega)];trivial
  ·
   cases hs
 ·
  cases hs
end
end Go.Zv
namespace Go.Zv
open Go
section
variable {R:Type} {P:Program} {E:Env} {r:R} {K:List V→Option R} {S S':Nat→Prop} {who who':Nat→Option Nat} {w w':World} {a:Act} {dst:Option Nat} {σ σ':List V}
theorem flatten_take {k:Nat}:∀ {rows:List (List V)} (h:Nat),(∀ r∈rows,r.length=k)→(rows.take h).flatten=rows.flatten.take (h*k)
 | [],h,_=>by simp
 | row::rows,0,_=>by simp
 | row::rows,h+1,hl=>by
  have h1:=hl row (by simp)
  have e:(h+1)*k=k+h*k:=by rw[Nat.succ_mul,Nat.add_comm]
  rw[List.take_succ_cons,List.flatten_cons,List.flatten_cons,flatten_take h fun r hr=>hl r (by simp[hr]),List.take_append,e,List.take_of_length_le (l:=row) (by omega),h1,Nat.add_sub_cancel_left]
theorem flatten_drop {k:Nat}:∀ {rows:List (List V)} (h:Nat),(∀ r∈rows,r.length=k)→(rows.drop h).flatten=rows.flatten.drop (h*k)
 | [],h,_=>by simp
 | row::rows,0,_=>by simp
 | row::rows,h+1,hl=>by
  have h1:=hl row (by simp)
  have e:(h+1)*k=k+h*k:=by rw[Nat.succ_mul,Nat.add_comm]
  rw[List.drop_succ_cons,List.flatten_cons,flatten_drop h fun r hr=>hl r (by simp[hr]),List.drop_append,e,List.drop_eq_nil_of_le (as:=row) (by omega),h1,Nat.add_sub_cancel_left,List.nil_append]
theorem bounds_run {isSlice:Bool} {len cap:Nat} {lo hi mx:Option Value} {l h m:Nat} (hm:mx=none∧m=cap∨∃ k,mx=some (.int k m)∧m≤cap) (hh:hi=none∧h=len∧mx=none∨∃ k,hi=some (.int k h)∧h≤m)
  (hl:lo=none∧l=0∨∃ k,lo=some (.int k l)∧l≤h):(Instr.sliceBounds isSlice len cap lo hi mx).run P w=.ok (l,h,m) w:=by
 have one:∀ {i y:Nat} (k:IntKind) (c:BoundsCode) (w:World),i≤y→(Instr.sliceBound (.int k i) y c).run P w=.ok i w:=fun {i y} k c w hle=>by
  have:(0:Int)≤i∧(i:Int)≤y:=⟨by omega,by omega⟩
  simp only[Instr.sliceBound,asIntOf,Sem.run_bind,Sem.run_pure,Result.andThen_ok,this,and_self,if_true,Int.toNat_natCast]
 unfold Instr.sliceBounds
 rcases hm with ⟨rfl,rfl⟩ | ⟨km,rfl,hm⟩ <;> rcases hh with ⟨rfl,rfl,hx⟩ | ⟨kh,rfl,hh⟩ <;> rcases hl with ⟨rfl,rfl⟩ | ⟨kl,rfl,hl⟩ <;> first
  | cases hx
  | rfl
  | skip
 all_goals first
  | (simp[one km _ w hm,one kh _ w hh,one kl _ w hl];done)
  | (simp[one km _ w hm,one kh _ w hh];done)
  | (simp[one kh _ w hh,one kl _ w hl];done)
  | (simp[one kh _ w hh];done)
  | (simp[one kl _ w hl];done)
  | (simp;done)
theorem bnd_sem {o:Option Operand} {d:Int} {G:Int→Option R} (h:Rel E S who w a.tmps σ) (hs:bnd (o.map (opnd E σ)) d G=some r) :
  ∃ i,G i=some r∧(o.map a.eval=none∧i=d∨∃ k,o.map a.eval=some (.int k i)):=by
 cases o with
 | none=>exact ⟨d,hs,.inl ⟨rfl,rfl⟩⟩
 | some x =>
  simp only[bnd,Option.map_some] at hs
  cases e:idxOf (opnd E σ x) with
  | none=>rw[e] at hs;cases hs
  | some i =>
   rw[e] at hs
   obtain ⟨k,hk⟩:=idx_sem (opnd_spec h x).1 e
   exact ⟨i,hs,.inr ⟨k,by rw[Option.map_some,hk]⟩⟩
theorem cutRows {k l hh m:Nat} {f:Bool} {rows:List (List V)} {A:Option Addr} (hl:l≤hh) (hh':hh≤rows.length) (hm:hh≤m) (hf:f=true→m=hh) (hu:∀ r∈rows,r.length=k)
  (hA:rows≠[]→0<k∧∃ b o,A=some ⟨b,o,none⟩∧S b∧Mem S w b o rows.flatten []) :
  Rep S w (.slice (if m=l then A else A.map (·.add (l*k))) (hh-l) (m-l)) (.sl k f ((rows.take hh).drop l)) []:=by
 by_cases he:l=hh
 ·
  subst he
  have:(rows.take l).drop l=[]:=by simp
  rw[this,Nat.sub_self]
  exact .sl0 _ _ _ _ (fun h=>by rw[hf h];omega)
 ·
  have hlt:l<hh:=by omega
  have hne:rows≠[]:=by intro e;subst e;simp at hh';omega
  obtain ⟨hk,b,o,rfl,hb,hmem⟩:=hA hne
  have hml:¬m=l:=by omega
  rw[if_neg hml]
  simp only[Option.map_some,add_none]
  have hlen:((rows.take hh).drop l).length=hh-l:=by simp;omega
  obtain ⟨O1,O2,O3,e,_,m2,_⟩:=hmem.sub (l*k) ((hh-l)*k) (by
   rw[flatten_length hu,←Nat.add_mul]
   exact Nat.mul_le_mul_right _ (by omega))
  have:O2=[]:=by simp at e;simp[e]
  subst this
  have hflat:((rows.take hh).drop l).flatten=(rows.flatten.drop (l*k)).take ((hh-l)*k):=by
   rw[flatten_drop l (fun r hr=>hu r (List.mem_of_mem_take hr)),flatten_take hh hu,List.drop_take,←Nat.sub_mul]
  have:=Rep.sl (S:=S) (w:=w) (b:=b) (o:=o+l*k) (c:=m-l) (f:=f) hk (rows:=(rows.take hh).drop l) (by intro e;rw[e] at hlen;simp at hlen;omega)
   (fun r hr=>hu r (List.mem_of_mem_take (List.mem_of_mem_drop hr))) hb ⟨by omega,fun h=>by rw[hlen,hf h]⟩ (by rw[hflat];exact m2)
  rw[hlen] at this
  exact this
theorem cutAt_sem {k cap:Nat} {isSlice:Bool} {rows:List (List V)} {lo hi mx:Option Operand} {A:Option Addr} {G:V→List V→Option R} (h:Rel E S who w a.tmps σ) (hs:cutAt k rows (lo.map (opnd E σ)) (hi.map (opnd E σ)) (mx.map (opnd E σ)) σ' G=some r)
  (hu:∀ r∈rows,r.length=k) (hcap:rows.length≤cap) (hA:rows≠[]→0<k∧∃ b o,A=some ⟨b,o,none⟩∧S' b∧Mem S' w b o rows.flatten []) :
  ∃ v l hh m,G v σ'=some r∧linkFree v=true∧(Instr.sliceBounds isSlice rows.length cap (lo.map a.eval) (hi.map a.eval) (mx.map a.eval)).run P w=.ok (l,hh,m) w ∧
   Rep S' w (.slice (if m=l then A else A.map (·.add (l*k))) (hh-l) (m-l)) v []:=by
 unfold cutAt at hs
 obtain ⟨ih,hs,eh⟩:=bnd_sem h hs
 obtain ⟨il,hs,el⟩:=bnd_sem h hs
 split at hs
 ·
  rename_i hh
  split at hs
  ·
   rename_i hl
   obtain ⟨nh,rfl⟩:=Int.eq_ofNat_of_zero_le hh.1
   obtain ⟨nl,rfl⟩:=Int.eq_ofNat_of_zero_le hl.1
   simp only[Int.toNat_natCast] at hs
   have h1:nh≤rows.length:=by omega
   have h2:nl≤nh:=by omega
   have el':lo.map a.eval=none∧nl=0∨∃ k,lo.map a.eval=some (.int k nl)∧nl≤nh:=by
    rcases el with ⟨e1,e2⟩ | ⟨k,e1⟩
    ·
     exact .inl ⟨e1,by omega⟩
    ·
     exact .inr ⟨k,e1,h2⟩
   cases mx with
   | none =>
    simp only[Option.map_none] at hs ⊢
    refine ⟨_,nl,nh,cap,hs,rfl,bounds_run (.inl ⟨rfl,rfl⟩) ?_ el',cutRows h2 h1 (by omega) (by simp) hu hA⟩
    rcases eh with ⟨e1,e2⟩ | ⟨k,e1⟩
    ·
     exact .inl ⟨e1,by omega,rfl⟩
    ·
     exact .inr ⟨k,e1,by omega⟩
   | some mo =>
    simp only[Option.map_some] at hs ⊢
    cases hi with
    | none=>simp at hs
    | some ho =>
     simp only[Option.map_some] at hs
     cases e:idxOf (opnd E σ mo) with
     | none=>rw[e] at hs;cases hs
     | some im =>
      rw[e] at hs
      simp only[Option.bind_some] at hs
      split at hs
      ·
       rename_i hm
       subst hm
       obtain ⟨km,hkm⟩:=idx_sem (opnd_spec h mo).1 e
       refine ⟨_,nl,nh,nh,hs,rfl,bounds_run (.inr ⟨km,by rw[hkm],by omega⟩) ?_ el',cutRows h2 h1 (by omega) (fun _=>rfl) hu hA⟩
       rcases eh with ⟨e1,e2⟩ | ⟨k,e1⟩
       ·
        cases e1
       ·
        exact .inr ⟨k,e1,Nat.le_refl _⟩
      ·
       cases hs
  ·
   cases hs
 ·
  cases hs
theorem slice_out {t:Nat} {nest:Bool} {x:Operand} {lo hi mx:Option Operand} (hE:EnvOK P E) (h:Rel E S who w a.tmps σ)
  (hs:evSlice E nest (E.tys t) (opnd E σ x) (lo.map (opnd E σ)) (hi.map (opnd E σ)) (mx.map (opnd E σ)) σ (fun v σ'=>K (put dst v σ'))=some r) :
  OutV E r K S who w a dst ((Instr.sliceAt t (a.eval x) (lo.map a.eval) (hi.map a.eval) (mx.map a.eval)).run P w):=by
 obtain ⟨hr,hl⟩:=opnd_spec h x
 have hp:Rep S w (a.eval x) (opnd E σ x) []:=hr
 unfold evSlice at hs
 split at hs
 ·
  -- strings
  rename_i bs hk hx
  rw[hx] at hr
  have hd:=kind_str hE hk
  cases mx with
  | some _=>simp at hs
  | none =>
   simp only[Option.map_none] at hs ⊢
   generalize hu:a.eval x=u at *
   cases hr with
   | str s =>
    obtain ⟨ih,hs,eh⟩:=bnd_sem h hs
    obtain ⟨il,hs,el⟩:=bnd_sem h hs
    split at hs
    ·
     rename_i hh
     split at hs
     ·
      rename_i hl'
      obtain ⟨nh,rfl⟩:=Int.eq_ofNat_of_zero_le hh.1
      obtain ⟨nl,rfl⟩:=Int.eq_ofNat_of_zero_le hl'.1
      have hsz:s.data.toList.length=s.size:=by simp
      have hb:(Instr.sliceBounds false s.size s.size (lo.map a.eval) (hi.map a.eval) none).run P w=.ok (nl,nh,s.size) w:=by
       refine bounds_run (.inl ⟨rfl,rfl⟩) ?_ ?_
       ·
        rcases eh with ⟨e1,e2⟩ | ⟨k,e1⟩
        ·
         exact .inl ⟨e1,by omega,rfl⟩
        ·
         exact .inr ⟨k,e1,by omega⟩
       ·
        rcases el with ⟨e1,e2⟩ | ⟨k,e1⟩
        ·
         exact .inl ⟨e1,by omega⟩
        ·
         exact .inr ⟨k,e1,by omega⟩
      simp only[Int.toNat_natCast] at hs
      refine outv_val (u:=.string (s.extract nl nh)) (v:=.str ((s.data.toList.take nh).drop nl)) ?_ h ?_ trivial hs
      ·
       simp[Instr.sliceAt,Instr.slice,run_under w hd,hb]
      ·
       have:=Rep.str (S:=S) (w:=w) (s.extract nl nh)
       have e:(s.extract nl nh).data.toList=(s.data.toList.take nh).drop nl:=by
        rw[ByteArray.data_extract,Array.toList_extract,List.extract_eq_drop_take',List.drop_take]
       rwa [e] at this
     ·
      cases hs
    ·
     cases hs
 ·
  -- slices
  rename_i k bb hk
  obtain ⟨ti,e,ie,z,_,hd,hie,_,hsz,_⟩:=kind_slice hE hk
  obtain ⟨f,rows,σ',S',who',hs,h1,h2,h3⟩:=share_sem h hr hl hs
  have hA:∃ A c,a.eval x=.slice A rows.length c∧(∀ r∈rows,r.length=k)∧rows.length≤c∧(rows≠[]→0<k∧∃ b o,A=some ⟨b,o,none⟩∧S' b∧Mem S' w b o rows.flatten []):=by
   generalize a.eval x=u at *
   cases h2 with
   | sl0 A c _ _ _=>exact ⟨A,c,rfl,by simp,by simp,fun h=>absurd rfl h⟩
   | sl g1 g2 g3 g4 g5 g6=>exact ⟨_,_,rfl,g3,g5.1,fun _=>⟨g1,_,_,rfl,g4,g6⟩⟩
  obtain ⟨A,c,hu,hun,hcap,hA⟩:=hA
  obtain ⟨v,l,hh,m,g1,g2,g3,g4⟩:=cutAt_sem (P:=P) (isSlice:=true) h hs hun hcap hA
  refine outv_put ?_ h1 h3 g4 (by simp) (by simp) (g4.link g2) g1
  rw[hu]
  simp[Instr.sliceAt,Instr.slice,run_under w hd,g3,run_sizeOf w hie,hsz]
 ·
  -- arrays that are immutable
  rename_i n k e cells off hk hx
  obtain ⟨hd,hc,hpos,ie,hie⟩:=kind_arr hE hk
  rw[cellsOf_info hie] at hc
  split at hs
  ·
   rename_i hle
   rw[hx] at hr
   generalize hu:a.eval x=u at *
   cases hr with
   | @iptr b o _ ad _ hSb ha hm =>
    subst ha
    obtain ⟨O1,O2,O3,e',_,m2,_⟩:=hm.sub off (n*k) hle
    have:O2=[]:=by simp at e';simp[e']
    subst this
    obtain ⟨c1,c2,c3⟩:=chunks_flatten (k:=k) (n:=n) (cs:=(cells.drop off).take (n*k)) (by simp;omega)
    obtain ⟨v,l,hh,m,g1,g2,g3,g4⟩:=cutAt_sem (P:=P) (isSlice:=false) (A:=some ⟨b,o+off,none⟩) (cap:=n) h hs c2 (by rw[c3];exact Nat.le_refl _) (fun _=>⟨hpos,b,o+off,rfl,hSb,by rw[c1];exact m2⟩)
    rw[c3] at g3
    refine outv_val ?_ h g4 (g4.link g2) g1
    simp only[Instr.sliceAt,Sem.run_bind,run_under w hd,Result.andThen_ok,Instr.sureAddr,Sem.run_pure,g3,run_sizeOf w hie,hc,Option.map_some]
    congr 2
    split <;> rfl
  ·
   cases hs
 ·
  -- arrays in a box
  rename_i n k e r0 off hk hx
  obtain ⟨hd,hc,hpos,ie,hie⟩:=kind_arr hE hk
  rw[cellsOf_info hie] at hc
  rw[hx] at hl
  obtain ⟨q,i,j,c,X,b,o,e2,hf,hb,hu⟩:=hl
  have hq:q=[]∧i=0∧j=off:=by
   cases q with
   | nil=>simp at e2;exact ⟨rfl,e2.1.symm,e2.2.symm⟩
   | cons z q=>simp at e2
  obtain ⟨rfl,rfl,rfl⟩:=hq
  split at hs
  ·
   rename_i cells hg
   obtain ⟨rfl,rfl⟩:o=0∧c=.pointer (some ⟨b,0,none⟩):=by
    have hX:=hf.get
    simp only[getP] at hX
    rw[hg] at hX
    subst hX
    cases hb with
    | box=>exact ⟨rfl,rfl⟩
   have hc0:a.tmps.getD r0 undef=.pointer (some ⟨b,0,none⟩):=by
    generalize a.tmps.getD r0 undef=c0 at hf ⊢
    generalize gt σ r0=g0 at hf
    generalize hq:([]:Path)=q0 at hf
    cases hf with
    | nil=>rfl
    | _=>cases hq
   rw[Nat.zero_add] at hu
   cases nest with
   | true =>
    simp only[cond_true] at hs
    cases mx with
    | some _=>simp at hs
    | none =>
     simp only[Option.map_none] at hs ⊢
     obtain ⟨ih,hs,eh⟩:=bnd_sem h hs
     obtain ⟨il,hs,el⟩:=bnd_sem h hs
     split at hs
     ·
      rename_i hh
      split at hs
      ·
       rename_i hl'
       split at hs
       ·
        rename_i hk1;subst hk1
        obtain ⟨nh,rfl⟩:=Int.eq_ofNat_of_zero_le hh.1
        obtain ⟨nl,rfl⟩:=Int.eq_ofNat_of_zero_le hl'.1
        have hb':(Instr.sliceBounds false n n (lo.map a.eval) (hi.map a.eval) none).run P w=.ok (nl,nh,n) w:=by
         refine bounds_run (.inl ⟨rfl,rfl⟩) ?_ ?_
         ·
          rcases eh with ⟨e1,e2⟩ | ⟨k,e1⟩
          ·
           exact .inl ⟨e1,by omega,rfl⟩
          ·
           exact .inr ⟨k,e1,by omega⟩
         ·
          rcases el with ⟨e1,e2⟩ | ⟨k,e1⟩
          ·
           exact .inl ⟨e1,by omega⟩
          ·
           exact .inr ⟨k,e1,by omega⟩
        have hne:¬n=nl:=by omega
        simp only[Int.toNat_natCast] at hs
        refine outv_val (u:=.slice (some ⟨b,j+nl,none⟩) (nh-nl) (n-nl)) ?_ h (.bsl _ _ _ _) ?_ hs
        ·
         rw[hu]
         simp[Instr.sliceAt,run_under w hd,Instr.sureAddr,hb',run_sizeOf w hie,hc,hne,add_none]
        ·
         refine ⟨[],0,j+nl,_,.obox cells,b,0,n-nl,rfl,by rw[hg,hc0];exact .nil _ _,.box,?_⟩
         rw[Nat.zero_add]
         congr 1
         omega
       ·
        cases hs
      ·
       cases hs
     ·
      cases hs
   | false =>
    simp only[cond_false] at hs
    cases hgood:goodCells (shareCells cells) with
    | false=>rw[hgood] at hs;cases hs
    | true =>
     rw[hgood] at hs
     simp only[cond_true] at hs
     split at hs
     ·
      rename_i hle
      obtain ⟨b',S',who',g1,g2,g3,g4,g5⟩:=freezeBox_sem h hg hgood
      rw[hc0] at g1
      cases g1
      have hlen:(stripAll (shareCells cells)).length=cells.length:=by rw[strip_len,shareCells_eq];simp
      obtain ⟨O1,O2,O3,e',_,m2,_⟩:=g3.sub j (n*k) (by rw[hlen];exact hle)
      have:O2=[]:=by simp at e';simp[e']
      subst this
      rw[Nat.zero_add] at m2
      obtain ⟨c1,c2,c3⟩:=chunks_flatten (k:=k) (n:=n) (cs:=((stripAll (shareCells cells)).drop j).take (n*k)) (by simp only[List.length_take,List.length_drop,hlen];omega)
      obtain ⟨v,l,hh,m,g6,g7,g8,g9⟩:=cutAt_sem (P:=P) (isSlice:=false) (A:=some ⟨b,j,none⟩) (cap:=n) h hs c2 (by rw[c3];exact Nat.le_refl _) (fun _=>⟨hpos,b,j,rfl,g2,by rw[c1];exact m2⟩)
      rw[c3] at g8
      refine outv_put ?_ g4 g5 g9 (by simp) (by simp) (g9.link g7) g6
      rw[hu]
      simp only[Instr.sliceAt,Sem.run_bind,run_under w hd,Result.andThen_ok,Instr.sureAddr,Sem.run_pure,g8,run_sizeOf w hie,hc,Option.map_some]
      congr 2
      split <;> rfl
     ·
      cases hs
  ·
   cases hs
 ·
  cases hs
end
end Go.Zv
