/- Zv: a pure interpreter of the translated code over values, and that it is right. No condition. -/
import Derived.Test.YtedbfdlgiilapaaGreatDoorZvL3
set_option linter.unusedSimpArgs false
set_option linter.unusedVariables false
namespace Go.Zv
open Go
section
variable {R:Type} {P:Program} {E:Env} {r:R} {K:List V→Option R} {S S':Nat→Prop} {who who':Nat→Option Nat} {w w':World} {a:Act} {dst:Option Nat} {σ σ':List V}
theorem slen_sem {k:Nat} {v:V} {u:Value} {tm:Array Value} {G:Nat→Option R} (h:Rel E S who w tm σ) (hr:Rep S w u v []) (hl:Link w tm σ u v) (hs:slen k σ v G=some r) :
  ∃ n A c,G n=some r∧u=.slice A n c:=by
 unfold slen at hs
 split at hs
 ·
  split at hs
  ·
   cases hr <;> exact ⟨_,_,_,hs,rfl⟩
  ·
   cases hs
 ·
  cases hr;exact ⟨_,_,_,hs,rfl⟩
 ·
  rcases place_sem hl hs with ⟨n,rows,X,hK,hf,hX⟩ | ⟨f,rows,hK,hf⟩
  ·
   obtain ⟨O,hO,_⟩:=hf.rep h
   rcases hX with rfl | ⟨rfl,_,rfl⟩
   ·
    cases hO <;> exact ⟨_,_,_,hK,rfl⟩
   ·
    cases hO;exact ⟨_,_,_,hK,rfl⟩
  ·
   obtain ⟨O,hO,_⟩:=hf.rep h
   cases hO <;> exact ⟨_,_,_,hK,rfl⟩
 ·
  cases hs
theorem len_out {t ty:Nat} {ats:List Nat} {x:Operand} (hE:EnvOK P E) (h:Rel E S who w a.tmps σ)
  (hs:(match kindOf (E.tys t) with
  | .arr n _ _=>K (put dst (.int .i64 n) σ)
  | .str=>(asStr (opnd E σ x)).bind fun s=>K (put dst (.int .i64 s.length) σ)
  | .slice k _=>slen k σ (opnd E σ x) fun n=>K (put dst (.int .i64 n) σ)
  | _=>none)=some r):OutV E r K S who w a dst ((Builtin.len_ (t::ats).toArray ty #[a.eval x]).run P w):=by
 obtain ⟨hr,hl⟩:=opnd_spec h x
 split at hs
 ·
  rename_i n k e hk
  obtain ⟨hd,hc,hpos,ie,hie⟩:=kind_arr hE hk
  refine outv_val ?_ h (.int .i64 n) trivial hs
  simp[Builtin.len_,run_under w hd,goInt]
 ·
  rename_i hk
  have hd:=kind_str hE hk
  cases e:asStr (opnd E σ x) with
  | none=>rw[e] at hs;cases hs
  | some s =>
   rw[e] at hs
   simp only[Option.bind_some] at hs
   unfold asStr at e
   split at e
   ·
    rename_i s' hx
    cases e
    rw[hx] at hr
    generalize a.eval x=u at *
    cases hr with
    | str s =>
     refine outv_val (u:=goInt s.size) (v:=.int .i64 s.data.toList.length) ?_ h (by have:=Rep.int (S:=S) (w:=w) .i64 s.size;simpa[goInt] using this) trivial hs
     simp[Builtin.len_,run_under w hd]
   ·
    cases e
 ·
  rename_i k b hk
  obtain ⟨ti,e,ie,z,_,hd,_⟩:=kind_slice hE hk
  obtain ⟨n,A,c,hK,hu⟩:=slen_sem h hr hl hs
  rw[hu]
  refine outv_val (u:=goInt n) ?_ h (.int .i64 n) trivial hK
  simp[Builtin.len_,run_under w hd]
 ·
  cases hs
theorem minmax_sem (mx:Bool):∀ {l:List Operand} {v v':V} {u:Value},Rel E S who w a.tmps σ→Rep S w u v []→minmax mx v (l.map (opnd E σ))=some v' →
  ∃ k n,v'=.int k n∧((l.map a.eval).foldlM (cond mx Builtin.max2 Builtin.min2) u).run P w=.ok (.int k n) w
 | [],v,v',u,_,hr,hs=>by
  cases v <;> simp[minmax] at hs
  subst hs
  cases hr
  exact ⟨_,_,rfl,rfl⟩
 | x::l,v,v',u,h,hr,hs=>by
  simp only[List.map_cons] at hs
  unfold minmax at hs
  split at hs
  ·
   rename_i he;cases he
  ·
   rename_i k n k' b rest he
   simp only[List.cons.injEq] at he
   obtain ⟨he,rfl⟩:=he
   split at hs
   ·
    rename_i hk;subst hk
    have hrx:=(opnd_spec h x).1
    rw[he] at hrx
    cases hr
    generalize hu:a.eval x=ux at hrx
    cases hrx
    obtain ⟨k2,n2,e1,e2⟩:=minmax_sem mx (l:=l) h (.int k _) hs
    refine ⟨k2,n2,e1,?_⟩
    rw[List.map_cons,List.foldlM_cons,Sem.run_bind,hu]
    cases mx with
    | true=>simpa[Builtin.max2] using e2
    | false=>simpa[Builtin.min2] using e2
   ·
    cases hs
  ·
   cases hs
theorem min_out {ats:Array Nat} {ty:Nat} {x:Operand} {rest:List Operand} (h:Rel E S who w a.tmps σ) (hs:((minmax false (opnd E σ x) (rest.map (opnd E σ))).bind fun v=>K (put dst v σ))=some r) :
  OutV E r K S who w a dst ((Builtin.min_ ats ty ((x::rest).map a.eval).toArray).run P w):=by
 cases e:minmax false (opnd E σ x) (rest.map (opnd E σ)) with
 | none=>rw[e] at hs;cases hs
 | some v =>
  rw[e] at hs
  obtain ⟨k,n,rfl,h2⟩:=minmax_sem (P:=P) false h (opnd_spec h x).1 e
  exact outv_val (u:=.int k n) (by simpa[Builtin.min_] using h2) h (.int _ _) trivial hs
theorem max_out {ats:Array Nat} {ty:Nat} {x:Operand} {rest:List Operand} (h:Rel E S who w a.tmps σ) (hs:((minmax true (opnd E σ x) (rest.map (opnd E σ))).bind fun v=>K (put dst v σ))=some r) :
  OutV E r K S who w a dst ((Builtin.max_ ats ty ((x::rest).map a.eval).toArray).run P w):=by
 cases e:minmax true (opnd E σ x) (rest.map (opnd E σ)) with
 | none=>rw[e] at hs;cases hs
 | some v =>
  rw[e] at hs
  obtain ⟨k,n,rfl,h2⟩:=minmax_sem (P:=P) true h (opnd_spec h x).1 e
  exact outv_val (u:=.int k n) (by simpa[Builtin.max_] using h2) h (.int _ _) trivial hs
theorem Mem.vals {b:Nat}:∀ {o:Nat} {xs:List V} {O:List Nat},Mem S w b o xs O →
  ∃ vs:List Value,Reps S w vs xs O∧(∀ v∈vs,v.oneCell'=true)∧∀ j v,vs[j]?=some v→w.cell? ⟨b,o+j,none⟩=some v
 | _,_,_,.nil _ _=>⟨[],.nil,by simp,by simp⟩
 | o,_,_,.cons (v:=v) h1 h0 h2 h3=>by
  obtain ⟨vs,g1,g2,g3⟩:=Mem.vals h3
  refine ⟨v::vs,.cons h2 g1,by simpa[h0] using g2,fun j v' hj=>?_⟩
  cases j with
  | zero=>simp at hj;subst hj;exact h1
  | succ j =>
   have:=g3 j v' (by simpa using hj)
   rw[Nat.add_assoc,Nat.add_comm 1 j] at this
   exact this
theorem goodCells_noOwn:∀ {us:List Value} {cs:List V} {O:List Nat},Reps S w us cs O→goodCells cs=true→O=[]
 | _,_,_,.nil,_=>rfl
 | _,_,_,.cons h1 h2,hg=>by
  simp only[goodCells,List.all_cons,Bool.and_eq_true] at hg
  obtain ⟨p1,p2⟩:=goodCell_plain (by simp only[goodCells,List.all_cons,List.all_nil,Bool.and_true];exact hg.1)
  rw[h1.plain p1 p2,goodCells_noOwn h2 (by simpa[goodCells] using hg.2)]
  rfl
theorem copyTo_sem {r0 o b ob m:Nat} {cells cs:List V} {vs:List Value} {O:List Nat} {G:List V→Option R} (h:Rel E S who w a.tmps σ) (hg:gt σ r0=.obox cells) (hu:a.tmps.getD r0 undef=.pointer (some ⟨b,0,none⟩))
  (hv:Reps S w vs cs O) (h0:∀ v∈vs,v.oneCell'=true) (hs:copyTo σ r0 o m cells cs G=some r) :
  cs.length=m∧∃ σ' who' w',(storeCells ⟨b,o,none⟩ vs 0).run P w=.ok () w'∧G σ'=some r∧Rel E S who' w' a.tmps σ'∧Step S who w S who' w':=by
 unfold copyTo at hs
 cases hgood:goodCells cs with
 | false=>rw[hgood] at hs;cases hs
 | true =>
  rw[hgood] at hs
  simp only[cond_true] at hs
  split at hs
  ·
   rename_i hle
   have hO:=goodCells_noOwn hv hgood
   subst hO
   have hf:Follow w (a.tmps.getD r0 undef) (gt σ r0) [] (.pointer (some ⟨b,0,none⟩)) (.obox cells):=by rw[hg,hu];exact .nil _ _
   obtain ⟨w',who',h1,h2,h3,h4,h5,h6⟩:=poke_sem (P:=P) h hf (Base.box (b:=b) (cells:=cells)) hv (by simp) (by simp) h0 (j:=o) (by simp only[rowLen];omega) (fun _ _ _ e _=>by cases e) (sl:=cs.any isSliceB) (fun e y hy hs=>by
    rw[List.any_eq_false] at e
    exact e y hy (isSliceB_iff.2 hs))
   refine ⟨hle.1,_,who',w',by simpa using h1,hs,by simpa[withCells,setP] using h2,⟨h4,fun b' _ hn=>h5 b' hn,fun _ h=>h,fun _ h=>.inl h,fun b' hb'=>.inl ((h3 b' hb').resolve_right (by simp)),h6⟩⟩
  ·
   cases hs
theorem copyTo_len {r0 o m:Nat} {cells cs:List V} {G:List V→Option R} (hs:copyTo σ r0 o m cells cs G=some r):cs.length=m:=by
 unfold copyTo at hs
 cases hgood:goodCells cs with
 | false=>rw[hgood] at hs;cases hs
 | true =>
  rw[hgood] at hs
  simp only[cond_true] at hs
  split at hs
  ·
   rename_i h;exact h.1
  ·
   cases hs
theorem box_at {tm:Array Value} {r0 j n:Nat} {u:Value} {cells:List V} (hl:Link1 w tm σ u (.bsl r0 [(0,j)] n)) (hg:gt σ r0=.obox cells) :
  ∃ b m,tm.getD r0 undef=.pointer (some ⟨b,0,none⟩)∧u=.slice (some ⟨b,j,none⟩) n m:=by
 obtain ⟨q,i,j',c,X,b,o,m,e2,hf,hb,hu⟩:=hl
 have hq:q=[]∧i=0∧j'=j:=by
  cases q with
  | nil=>simp at e2;exact ⟨rfl,e2.1.symm,e2.2.symm⟩
  | cons z q=>simp at e2
 obtain ⟨rfl,rfl,rfl⟩:=hq
 rw[hg] at hf
 generalize tm.getD r0 undef=c0 at hf ⊢
 generalize hq:([]:Path)=q0 at hf
 cases hf with
 | nil=>cases hb with
  | box=>exact ⟨b,m,rfl,by simpa using hu⟩
 | _=>cases hq
theorem copy_out {t ty:Nat} {ats:List Nat} {x y:Operand} (hE:EnvOK P E) (h:Rel E S who w a.tmps σ)
  (hs:(match kindOf (E.tys t),opnd E σ x with
  | .slice k _,.bsl r p n=>if k=1 then (match p with
   | [(0,o)]=>match gt σ r with
    | .obox cells=>match opnd E σ y with
     | .bsl r' p' n'=>match p' with
      | [(0,o')]=>match gt σ r' with
       | .obox cells'=>copyTo σ r o (min n' n) cells ((cells'.drop o').take (min n' n)) fun σ'=>K (put dst (.int .i64 (min n' n:Nat)) σ')
       | _=>none
      | _=>none
     | v=>reads 1 σ v fun rows=>copyTo σ r o (min rows.length n) cells (rows.take (min rows.length n)).flatten fun σ'=>K (put dst (.int .i64 (min rows.length n:Nat)) σ')
    | _=>none
   | _=>none) else none
  | _,_=>none)=some r):OutV E r K S who w a dst ((Builtin.copy_ (t::ats).toArray ty #[a.eval x,a.eval y]).run P w):=by
 obtain ⟨hrx,hlx⟩:=opnd_spec h x
 obtain ⟨hry,hly⟩:=opnd_spec h y
 split at hs
 ·
  rename_i k bb r0 p n hk hx
  split at hs
  ·
   rename_i hk1;subst hk1
   obtain ⟨ti,e,ie,z,_,hd,hie,_,hsz,_⟩:=kind_slice hE hk
   split at hs
   ·
    rename_i o
    split at hs
    ·
     rename_i cells hg
     rw[hx] at hlx
     obtain ⟨b,mc,hu,hux⟩:=box_at hlx hg
     rw[hux]
     have fin:∀ {m:Nat} {cs:List V} {vs:List Value} {O:List Nat} {sl:Nat} {A:Option Addr} {c:Nat},a.eval y=.slice A sl c→m=min sl n→Reps S w vs cs O→(∀ v∈vs,v.oneCell'=true) →
       (Builtin.firstCells 1 m (a.eval y)).run P w=.ok vs.toArray w→copyTo σ r0 o m cells cs (fun σ'=>K (put dst (.int .i64 (m:Nat)) σ'))=some r →
       OutV E r K S who w a dst ((Builtin.copy_ (t::ats).toArray ty #[.slice (some ⟨b,o,none⟩) n mc,a.eval y]).run P w):=by
      intro m cs vs O sl A c hy hm hv h0 hfc hs
      obtain ⟨_,σ',who',w',h1,h2,h3,h4⟩:=copyTo_sem (P:=P) (ob:=0) h hg hu hv h0 hs
      refine outv_put (u:=goInt m) (v:=.int .i64 m) ?_ h3 h4 (.int _ _) (by simp) (by simp) trivial h2
      have hmn:Nat.min sl n=m:=hm.symm
      rw[hy] at hfc
      simp[Builtin.copy_,run_under w hd,run_sizeOf w hie,hsz,hy,Builtin.lenOf,hmn,hfc,h1]
     split at hs
     ·
      rename_i r1 p1 n1 hy
      split at hs
      ·
       rename_i o1
       split at hs
       ·
        rename_i cells1 hg1
        rw[hy] at hly
        obtain ⟨b1,m1,hu1,huy⟩:=box_at hly hg1
        have hm1:∃ O,Mem S w b1 0 cells1 O:=by
         obtain ⟨O,hO,_⟩:=h.rep r1
         rw[hg1,hu1] at hO
         cases hO with
         | obox _ hm=>exact ⟨_,hm⟩
        obtain ⟨O,hm1⟩:=hm1
        have hlen:=copyTo_len hs
        by_cases hm0:min n1 n=0
        ·
         have e0:(cells1.drop o1).take (min n1 n)=[]:=by rw[hm0];rfl
         rw[e0] at hs
         refine fin huy rfl (vs:=[]) .nil (by simp) ?_ hs
         rw[huy,hm0]
         simp[Builtin.firstCells];rfl
        ·
         have hle:o1+min n1 n≤cells1.length:=by
          rw[List.length_take,List.length_drop] at hlen;omega
         obtain ⟨O1,O2,O3,e',_,m2,_⟩:=hm1.sub o1 (min n1 n) hle
         rw[Nat.zero_add] at m2
         obtain ⟨vs,g1,g2,g3⟩:=m2.vals
         refine fin huy rfl g1 g2 ?_ hs
         rw[huy]
         have hvl:vs.length=min n1 n*1:=by rw[g1.len,hlen];omega
         exact run_firstCells_some w 1 _ ⟨b1,o1,none⟩ _ _ vs hvl fun j v hj=>by rw[add_none];exact g3 j v hj
       ·
        cases hs
      ·
       cases hs
     ·
      rename_i hnb
      obtain ⟨rows,hs,A,c,hu2,hun,hA⟩:=reads_sem h hry hly hs
      by_cases hr0:rows=[]
      ·
       subst hr0
       refine fin hu2 rfl (vs:=[]) .nil (by simp) ?_ hs
       rw[hu2]
       cases A with
       | none=>rfl
       | some ad=>simp[Builtin.firstCells];rfl
      ·
       obtain ⟨_,b1,o1,rfl,hm1⟩:=hA hr0
       obtain ⟨O1,O2,O3,e',_,m2,_⟩:=hm1.sub 0 (min rows.length n*1) (by rw[flatten_length hun];omega)
       have:O2=[]:=by simp at e';simp[e']
       subst this
       rw[Nat.add_zero,List.drop_zero] at m2
       obtain ⟨vs,g1,g2,g3⟩:=m2.vals
       have hfl:(rows.take (min rows.length n)).flatten=rows.flatten.take (min rows.length n*1):=flatten_take _ hun
       refine fin hu2 rfl (by rw[hfl];exact g1) g2 ?_ hs
       rw[hu2]
       have hvl:vs.length=min rows.length n*1:=by
        rw[g1.len,List.length_take,flatten_length hun];omega
       exact run_firstCells_some w 1 _ ⟨b1,o1,none⟩ _ _ vs hvl fun j v hj=>by rw[add_none];exact g3 j v hj
    ·
     cases hs
   ·
    cases hs
  ·
   cases hs
 ·
  cases hs
end
end Go.Zv
namespace Go.Zv
open Go
section
variable {R:Type} {P:Program} {E:Env} {r:R} {K:List V→Option R} {S S':Nat→Prop} {who who':Nat→Option Nat} {w w':World} {a:Act} {dst:Option Nat} {σ σ':List V}
def Src (P:Program) (w:World) (z:Value) (size:Nat) (d:TypeDesc) (uy:Value) (n:Nat) (news:List Value):Prop :=
 ((∃ k,d=.int k)∧(∃ k,uy=.int k n)∧n≤lim∧news=(Builtin.zeroCells z.cells n).toList) ∨
  ((∀ k,d≠.int k)∧(∀ w,(Builtin.lenOf uy).run P w=.ok n w)∧(Builtin.firstCells size n uy).run P w=.ok news.toArray w∧(Builtin.firstCells size n uy).run P w.drew=.ok news.toArray w.drew)
theorem run_append {t u ty e n sLen sCap:Nat} {i:TypeInfo} {z:Value} {d:TypeDesc} {base:Option Addr} {uy:Value} {news olds:List Value} (ht:P.underlying t=some (.slice e)) (hu:P.underlying u=some d) (hi:P.info? e=some i) (hz:i.zero=some z)
  (hzs:z.cells.size=i.size) (hb:i.bytes≤65536) (hn:sLen+n≤lim) (hsrc:Src P w z i.size d uy n news)
  (hold:(Builtin.firstCells i.size sLen (.slice base sLen sCap)).run P w.drew=.ok olds.toArray w.drew) :
  (sLen+n≤sCap→∀ w',(match base with
   | some ad=>(storeCells (ad.add (sLen*i.size)) news).run P w
   | none=>.ok () w)=.ok () w'→(Builtin.append_ #[t,u] ty #[.slice base sLen sCap,uy]).run P w=.ok (.slice base (sLen+n) sCap) w') ∧
  (¬sLen+n≤sCap→(Builtin.append_ #[t,u] ty #[.slice base sLen sCap,uy]).run P w =
   .ok (.slice (some ⟨w.heap.size,0,none⟩) (sLen+n) (grownCap w (sLen+n) sCap e)) (w.drew.alloc (.cells (olds.toArray++news.toArray++Builtin.zeroCells z.cells (grownCap w (sLen+n) sCap e-(sLen+n))) e))):=by
 have hlim:lim=2147483648:=rfl
 have h63:¬(9223372036854775807<((sLen:Int)+(n:Int))):=by omega
 have hzero:n*i.size=0→Builtin.zeroCells z.cells n=#[]:=fun h=>by
  simp[Builtin.zeroCells,hzs,h]
 have hfit:¬sLen+n≤sCap→¬(281474976710656<Builtin.nextslicecap (sLen+n) sCap*i.bytes):=fun hg=>by
  have h1:(sLen+n)*i.bytes≤lim*65536:=Nat.mul_le_mul hn hb
  have:=growslice_fits (need:=sLen+n) (old:=sCap) (bytes:=i.bytes) (by omega) (by rw[hlim] at h1;omega)
  omega
 rcases hsrc with ⟨⟨kd,rfl⟩,⟨ky,rfl⟩,hnl,rfl⟩ | ⟨hd,hlen,hfc,hfc2⟩
 ·
  have hw:IntKind.i64.wrap (n:Int)=n:=by simp[IntKind.wrap,IntKind.bits,IntKind.signed];omega
  have hby:¬(281474976710656<(n:Int)*(i.bytes:Int)):=by
   have h1:n*i.bytes≤lim*65536:=Nat.mul_le_mul hnl hb
   rw[hlim] at h1
   have:((n*i.bytes:Nat):Int)=(n:Int)*(i.bytes:Int):=by push_cast;rfl
   omega
  have hn0:¬((n:Int)<0):=by omega
  have hai:∀ w:World,(Go.asInt (.int ky n)).run P w=.ok (n:Int) w:=fun _=>rfl
  have happ:∀ w:World,((if n*i.size=0 then pure #[] else do pure (Builtin.zeroCells (←zeroValue e).cells n)):Sem (Array Value)).run P w=.ok (Builtin.zeroCells z.cells n) w:=fun w=>by
   by_cases h0:n*i.size=0
   ·
    rw[if_pos h0,hzero h0];rfl
   ·
    rw[if_neg h0];simp[run_zero w hi hz]
  refine ⟨fun hle w' hst=>?_,fun hg=>?_⟩
  ·
   by_cases h0:n*i.size=0
   ·
    rw[hzero h0] at hst
    cases base with
    | none=>simp[Builtin.append_,run_underlying ht,run_underlying hu,sizeOf,typeInfo,zeroValue,hi,hz,hai,hw,hn0,hby,hle,h0];simpa using hst
    | some ad =>
     have hst':(storeCells (ad.add (sLen*i.size)) []).run P w=.ok () w':=by simpa using hst
     simp[Builtin.append_,run_underlying ht,run_underlying hu,sizeOf,typeInfo,zeroValue,hi,hz,hai,hw,hn0,hby,hle,h0,hst']
   ·
    cases base with
    | none=>simp[Builtin.append_,run_underlying ht,run_underlying hu,sizeOf,typeInfo,zeroValue,hi,hz,hai,hw,hn0,hby,hle,h0];simpa using hst
    | some ad=>simp[Builtin.append_,run_underlying ht,run_underlying hu,sizeOf,typeInfo,zeroValue,hi,hz,hai,hw,hn0,hby,hle,h0,hst]
  ·
   have hf:=hfit hg
   by_cases h0:n*i.size=0
   ·
    have hz0:=hzero h0
    simp[Builtin.append_,run_underlying ht,run_underlying hu,sizeOf,typeInfo,zeroValue,hi,hz,hai,hw,hn0,hby,hg,h0,h63,hf,Question.forced,hold,newRow,grownCap,hz0]
   ·
    simp[Builtin.append_,run_underlying ht,run_underlying hu,sizeOf,typeInfo,zeroValue,hi,hz,hai,hw,hn0,hby,hg,h0,h63,hf,Question.forced,hold,newRow,grownCap]
 ·
  have hd':(d matches .int _)=false:=by
   cases d <;> first | rfl | exact absurd rfl (hd _)
  refine ⟨fun hle w' hst=>?_,fun hg=>?_⟩
  ·
   cases base with
   | none=>simp[Builtin.append_,run_underlying ht,run_underlying hu,sizeOf,typeInfo,hi,hd',hlen,hle,hfc];simpa using hst
   | some ad=>simp[Builtin.append_,run_underlying ht,run_underlying hu,sizeOf,typeInfo,hi,hd',hlen,hle,hfc,hst]
  ·
   have hf:=hfit hg
   simp[Builtin.append_,run_underlying ht,run_underlying hu,sizeOf,typeInfo,zeroValue,hi,hz,hd',hlen,hg,h63,hf,Question.forced,hold,hfc2,newRow,grownCap]
   congr 2
   apply Array.ext'
   simp[List.append_assoc]
theorem src_slice {z:Value} {k n:Nat} {d:TypeDesc} {A:Option Addr} {c:Nat} {rows:List (List V)} {O:List Nat} (hd:∀ kk,d≠.int kk) (hun:∀ r∈rows,r.length=k) (hA:rows≠[]→∃ b o,A=some ⟨b,o,none⟩∧Mem S w b o rows.flatten O) (hO:rows=[]→O=[]) :
  ∃ news,Src P w z k d (.slice A rows.length c) rows.length news∧Reps S w news rows.flatten O∧(∀ v∈news,v.oneCell'=true) ∧
   ((Builtin.firstCells k rows.length (.slice A rows.length c)).run P w=.ok news.toArray w∧(Builtin.firstCells k rows.length (.slice A rows.length c)).run P w.drew=.ok news.toArray w.drew):=by
 by_cases hr:rows=[]
 ·
  subst hr
  have h0:∀ w:World,(Builtin.firstCells k 0 (.slice A 0 c)).run P w=.ok #[] w:=fun w=>by
   cases A with
   | none=>rfl
   | some ad=>simp[Builtin.firstCells];rfl
  rw[hO rfl]
  exact ⟨[],.inr ⟨hd,fun _=>rfl,h0 w,h0 w.drew⟩,.nil,by simp,h0 w,h0 w.drew⟩
 ·
  obtain ⟨b,o,rfl,hm⟩:=hA hr
  obtain ⟨vs,g1,g2,g3⟩:=hm.vals
  have hvl:vs.length=rows.length*k:=by rw[g1.len,flatten_length hun]
  have h1:=run_firstCells_some (P:=P) w k rows.length ⟨b,o,none⟩ rows.length c vs hvl fun j v hj=>by rw[add_none];exact g3 j v hj
  have h2:=run_firstCells_some (P:=P) w.drew k rows.length ⟨b,o,none⟩ rows.length c vs hvl fun j v hj=>by rw[add_none];exact g3 j v hj
  exact ⟨vs,.inr ⟨hd,fun _=>rfl,h1,h2⟩,g1,g2,h1,h2⟩
def SrcOut (E:Env) (P:Program) (r:R) (G:List (List V)→List V→Option R) (S:Nat→Prop) (who:Nat→Option Nat) (w:World) (tm:Array Value) (z:Value) (k u:Nat) (uy:Value) (nest:Bool):Prop :=
 ∃ rows σ' S' who' O news d,G rows σ'=some r∧P.underlying u=some d∧Src P w z k d uy rows.length news∧Rel E S' who' w tm σ'∧Step S who w S' who' w∧(∀ r∈rows,r.length=k) ∧
  Reps S' w news rows.flatten O∧(∀ v∈news,v.oneCell'=true)∧Loose S' who who' O∧(nest=false→O=[])
theorem appendSrc_sem {k u:Nat} {ez:List V} {nest:Bool} {z:Value} {y:Operand} {G:List (List V)→List V→Option R} (hE:EnvOK P E) (h:Rel E S who w a.tmps σ) (hz:z.cells.size=k) (hpos:0<k) (hez:ZCs z.cells.toList ez)
  (h0:∀ c∈z.cells.toList,c.oneCell'=true) (hs:appendSrc k ez nest (kindOf (E.tys u)) σ (opnd E σ y) G=some r):SrcOut E P r G S who w a.tmps z k u (a.eval y) nest:=by
 obtain ⟨hr,hl⟩:=opnd_spec h y
 have loose0:Loose S who who []:=⟨by simp,by simp⟩
 have rd:∀ {d:TypeDesc},P.underlying u=some d→(∀ kk,d≠.int kk)→reads k σ (opnd E σ y) (fun rows=>G rows σ)=some r→SrcOut E P r G S who w a.tmps z k u (a.eval y) nest:=by
  intro d hd hdi hs
  obtain ⟨rows,hs,A,c,hu2,hun,hA⟩:=reads_sem h hr hl hs
  obtain ⟨news,g1,g2,g3,_⟩:=src_slice (P:=P) (z:=z) (n:=0) (c:=c) (S:=S) (w:=w) (O:=[]) hdi hun (fun hr=>(hA hr).2) (fun _=>rfl)
  exact ⟨rows,σ,S,who,[],news,d,hs,hd,by rw[hu2];exact g1,h,Step.refl _ _ _,hun,g2,g3,loose0,fun _=>rfl⟩
 unfold appendSrc at hs
 split at hs
 ·
  -- zeros
  rename_i kk hk
  have hd:=kind_int hE hk
  split at hs
  ·
   rename_i k2 n hy
   split at hs
   ·
    rename_i hn
    rw[hy] at hr
    generalize a.eval y=uy at *
    cases hr
    obtain ⟨m,rfl⟩:=Int.eq_ofNat_of_zero_le hn.1
    simp only[Int.toNat_natCast] at hs
    have hz1:=zeros_reps (S:=S) (w:=w) (n:=m*k) hez hz hpos
    have hezl:ez.length=k:=by rw[hez.len];simp[hz]
    have hflat:=rows_flat ez hezl m
    have e2:(Builtin.zeroCells z.cells m).toList=((Array.range (m*k)).map (fun j=>z.cells[j % z.cells.size]!)).toList:=by
     unfold Builtin.zeroCells;rw[hz]
    refine ⟨List.replicate m ez,σ,S,who,[],(Builtin.zeroCells z.cells m).toList,.int kk,hs,hd,.inl ⟨⟨_,rfl⟩,⟨k2,by simp⟩,?_,by simp⟩,h,Step.refl _ _ _,?_,?_,?_,loose0,fun _=>rfl⟩
    ·
     simp;have:=hn.2;omega
    ·
     intro r hr;rw[List.eq_of_mem_replicate hr];exact hezl
    ·
     rw[e2,←hflat];exact hz1.1
    ·
     rw[e2];exact hz1.2 h0
   ·
    cases hs
  ·
   cases hs
 ·
  -- bytes of a string
  rename_i hk
  have hd:=kind_str hE hk
  split at hs
  ·
   rename_i bs hy
   split at hs
   ·
    rename_i hk1;subst hk1
    rw[hy] at hr
    generalize a.eval y=uy at *
    cases hr with
    | str s =>
     have hlen:(bytesV s.data.toList).length=s.size:=by simp[bytesV]
     have hfc:∀ w:World,(Builtin.firstCells 1 s.size (.string s)).run P w=.ok (s.data.toList.map fun b=>Value.int .u8 b.toNat).toArray w:=fun w=>by
      have he:(s.extract 0 s.size).data.map (fun b:UInt8=>Value.int .u8 b.toNat)=(s.data.toList.map fun b=>Value.int .u8 b.toNat).toArray:=by
       rw[ByteArray.data_extract]
       have:s.data.extract 0 s.size=s.data:=by
        have:s.size=s.data.size:=rfl
        rw[this,Array.extract_size]
       rw[this]
       apply Array.ext';simp
      simp only[Builtin.firstCells,Sem.run_pure,he]
     refine ⟨bytesV s.data.toList,σ,S,who,[],s.data.toList.map fun b=>Value.int .u8 b.toNat,.string,hs,hd,.inr ⟨by simp,fun _=>by rw[hlen];rfl,by rw[hlen];exact hfc w,by rw[hlen];exact hfc w.drew⟩,h,Step.refl _ _ _,?_,bytesV_reps _,?_,loose0,fun _=>rfl⟩
     ·
      intro r hr;obtain ⟨b,_,rfl⟩:=List.mem_map.1 hr;rfl
     ·
      intro v hv;obtain ⟨b,_,rfl⟩:=List.mem_map.1 hv;rfl
   ·
    cases hs
  ·
   cases hs
 ·
  -- slices
  rename_i k2 b2 hk
  obtain ⟨ti,e,ie,z2,_,hd,_⟩:=kind_slice hE hk
  have hdi:∀ kk,TypeDesc.slice e≠.int kk:=by simp
  cases nest with
  | false=>exact rd hd hdi hs
  | true =>
   simp only[cond_true] at hs
   split at hs
   ·
    rename_i r0 p hy
    split at hs
    ·
     rw[hy] at hl
     rcases place_sem hl hs with ⟨n,rows,X,hK,hf,hX⟩ | ⟨f,rows,hK,hf⟩
     ·
      obtain ⟨OX,who',g1,g2,g3,g4,g5⟩:=take_sem h hf (by rcases hX with rfl | ⟨rfl,_⟩ <;> simp)
      have hown:Rep S w (a.eval y) (.own n k rows) OX:=by
       rcases hX with rfl | ⟨rfl,rfl,rfl⟩
       ·
        exact g1
       ·
        generalize a.eval y=uy at g1 ⊢
        cases g1;exact .own0 _ _ _
      generalize a.eval y=uy at *
      cases hown with
      | own0 A _ _ =>
       obtain ⟨news,q1,q2,q3,_⟩:=src_slice (P:=P) (z:=z) (n:=0) (k:=k) (c:=0) (A:=A) (S:=S) (w:=w) (O:=[]) (rows:=[]) hdi (by simp) (fun h=>absurd rfl h) (fun _=>rfl)
       exact ⟨[],_,S,who',[],news,_,hK,hd,q1,g4,g5,by simp,q2,q3,⟨by simp,by simp⟩,fun _=>rfl⟩
      | @own b o c _ _ _ O m1 m2 m3 m4 m5 m6 =>
       have hOnil:rows=[]→O=[]:=fun e=>by
        subst e
        have:∀ {b o:Nat} {xs:List V} {O:List Nat},Mem S w b o xs O→xs=[]→O=[]:=by
         intro b o xs O hm e
         cases hm with
         | nil=>rfl
         | cons=>cases e
        exact this m6 rfl
       obtain ⟨news,q1,q2,q3,_⟩:=src_slice (P:=P) (z:=z) (n:=0) (c:=c) (S:=S) (w:=w) hdi m2 (fun _=>⟨b,o,rfl,m6⟩) hOnil
       simp only[List.nodup_cons] at g2
       exact ⟨rows,_,S,who',O,news,_,hK,hd,q1,g4,g5,m2,q2,q3,⟨g2.2,fun b' hb'=>⟨(g3 b' (by simp[hb'])).2.1,(g3 b' (by simp[hb'])).2.2,(g3 b' (by simp[hb'])).1⟩⟩,fun h=>by cases h⟩
     ·
      obtain ⟨O,hX,_⟩:=hf.rep h
      obtain ⟨A,c,hu2,hun,hA⟩:=RowsIn.of_sl hX
      obtain ⟨news,g1,g2,g3,_⟩:=src_slice (P:=P) (z:=z) (n:=0) (c:=c) (S:=S) (w:=w) (O:=[]) hdi hun (fun hr=>(hA hr).2) (fun _=>rfl)
      exact ⟨rows,σ,S,who,[],news,_,hK,hd,by rw[hu2];exact g1,h,Step.refl _ _ _,hun,g2,g3,loose0,fun _=>rfl⟩
    ·
     exact rd hd hdi hs
   ·
    exact rd hd hdi hs
 ·
  cases hs
end
end Go.Zv
namespace Go.Zv
open Go
section
variable {R:Type} {P:Program} {E:Env} {r:R} {K:List V→Option R} {S S' S1 S2:Nat→Prop} {who who' who1 who2:Nat→Option Nat} {w w':World} {a:Act} {dst:Option Nat} {σ σ' σ1 σ2:List V}
theorem Loose.append {S:Nat→Prop} {who0 who:Nat→Option Nat} {O1 O2:List Nat} (h1:Loose S who0 who O1) (h2:Loose S who0 who O2) (hd:∀ b∈O1,b ∉ O2):Loose S who0 who (O1++O2) :=
 ⟨List.nodup_append.2 ⟨h1.1,h2.1,fun _ ha _ hb e=>hd _ ha (e ▸ hb)⟩,fun b hb=>(List.mem_append.1 hb).elim (h1.2 b) (h2.2 b)⟩
theorem grow_out {res:Result Value} {e need k:Nat} {nest:Bool} {z:Value} {rows ys:List (List V)} {olds news:List Value} {Ox Oy:List Nat} {sCap:Nat} (hpos:0<k) (hz:z.cells.size=k)
  (hneed:need=rows.length+ys.length) (hun:∀ r∈rows,r.length=k) (huny:∀ r∈ys,r.length=k)
  (hres:res=.ok (.slice (some ⟨w.heap.size,0,none⟩) need (grownCap w need sCap e)) (w.drew.alloc (.cells (olds.toArray++news.toArray++Builtin.zeroCells z.cells (grownCap w need sCap e-need)) e)))
  (h:Rel E S2 who2 w a.tmps σ2) (hst:Step S who w S2 who2 w) (ho:Reps S2 w olds rows.flatten Ox) (hn:Reps S2 w news ys.flatten Oy) (ho1:∀ v∈olds,v.oneCell'=true) (hn1:∀ v∈news,v.oneCell'=true)
  (hL:Loose S2 who who2 (Ox++Oy)) (hnest:nest=false→Ox=[]∧Oy=[]) (hK:K (put dst (.own nest k (rows++ys)) σ2)=some r):OutV E r K S who w a dst res:=by
 have hcap:=grownCap_ge w need sCap e
 have hfl:(rows++ys).flatten=rows.flatten++ys.flatten:=by simp
 have hl1:olds.length=rows.length*k:=by rw[ho.len,flatten_length hun]
 have hl2:news.length=ys.length*k:=by rw[hn.len,flatten_length huny]
 suffices hd:OutV E r K S who w.drew a dst res by
  obtain ⟨u,w',σ',S',who',e1,e2,e3,e4⟩:=hd
  exact ⟨u,w',σ',S',who',e1,e2,e3,⟨e4.size,e4.keep,e4.sub,e4.new,e4.own,⟨e4.out.os,e4.out.tape,e4.out.output⟩⟩⟩
 refine outv_new (w:=w.drew) (e:=e) (cells:=olds.toArray++news.toArray++Builtin.zeroCells z.cells (grownCap w need sCap e-need)) hres (h.grow (Grows.drew w)) ⟨hst.size,hst.keep,hst.sub,hst.new,hst.own,Same.refl _⟩
  (vs:=olds++news) (xs:=(rows++ys).flatten) (O:=Ox++Oy) ?_ hL ?_ ⟨(Builtin.zeroCells z.cells (grownCap w need sCap e-need)).toList,by simp⟩ (fun hm hop=>?_) rfl hK
 ·
  rw[hfl]
  exact (ho.append hn).grow h (Grows.drew w)
 ·
  intro v hv
  rcases List.mem_append.1 hv with h1 | h1
  ·
   exact ho1 v h1
  ·
   exact hn1 v h1
 ·
  have hsz:(olds.toArray++news.toArray++Builtin.zeroCells z.cells (grownCap w need sCap e-need)).size=grownCap w need sCap e*k:=by
   simp only[Array.size_append,List.size_toArray,size_zeroCells,hz,hl1,hl2]
   rw[←Nat.add_mul,←Nat.add_mul]
   congr 1;omega
  have hlen:(rows++ys).length=need:=by rw[hneed];simp
  have:=Rep.own (S:=S2) (b:=w.drew.heap.size) (o:=0) (c:=grownCap w need sCap e) (n:=nest) (rows:=rows++ys) hpos (fun r hr=>(List.mem_append.1 hr).elim (hun r) (huny r))
   (by rw[Nat.zero_add,←hsz];exact hop _) (by rw[hlen];exact hcap) (fun hn=>by obtain ⟨e1,e2⟩:=hnest hn;simp[e1,e2]) hm
  rw[hlen] at this
  exact this
theorem append_out {t u ty:Nat} {nest:Bool} {x y:Operand} (hE:EnvOK P E) (h:Rel E S who w a.tmps σ)
  (hs:(match E.tys t with
  | some i=>match i.kind with
   | .slice k b=>if b≤65536 then
     appendSrc k i.ez nest (kindOf (E.tys u)) σ (opnd E σ y) fun ys σ'=>appendTo k nest σ' (opnd E σ' x) ys fun v σ''=>K (put dst v σ'')
    else none
   | _=>none
  | none=>none)=some r):OutV E r K S who w a dst ((Builtin.append_ #[t,u] ty #[a.eval x,a.eval y]).run P w):=by
 split at hs
 ·
  rename_i i hti
  split at hs
  ·
   rename_i k bb hkind
   split at hs
   ·
    rename_i hbb
    obtain ⟨i',e,ie,z,hti',hd,hie,hz,hsz,hby,hez,hzs,hpos,h0⟩:=kind_slice (t:=t) (k:=k) (b:=bb) hE (by rw[hti];exact hkind)
    rw[hti] at hti';cases hti'
    have hzk:z.cells.size=k:=by rw[←hzs,hsz]
    obtain ⟨ys,σ1,S1,who1,Oy,news,d,hK,hu,hsrc,h1,hst1,huny,hreps,hone,hLy,hOy⟩:=appendSrc_sem hE h hzk hpos hez h0 hs
    obtain ⟨hrx,hlx⟩:=opnd_spec h1 x
    have hlow:∀ b∈Oy,b<w.heap.size:=hreps.low
    rw[←hsz] at hsrc
    have hbytes:ie.bytes≤65536:=by rw[hby];exact hbb
    have full:∀ {rows:List (List V)},RowsIn S1 w (a.eval x) k rows→(∃ A,a.eval x=.slice A rows.length rows.length)→¬ys.length=0→rows.length+ys.length≤lim→K (put dst (.own nest k (rows++ys)) σ1)=some r →
      OutV E r K S who w a dst ((Builtin.append_ #[t,u] ty #[a.eval x,a.eval y]).run P w):=by
     intro rows hR hfull hys hlim hK
     obtain ⟨A,c,hux,hun,hA⟩:=hR
     obtain ⟨A',hux'⟩:=hfull
     rw[hux] at hux'
     cases hux'
     obtain ⟨olds,q1,q2,q3,q4,q5⟩:=src_slice (P:=P) (z:=z) (d:=.string) (n:=0) (c:=rows.length) (S:=S1) (w:=w) (O:=[]) (by simp) hun (fun hr=>(hA hr).2) (fun _=>rfl)
     rw[hux]
     have hg:¬rows.length+ys.length≤rows.length:=by omega
     have:=(run_append (P:=P) (w:=w) (ty:=ty) (sLen:=rows.length) (sCap:=rows.length) (base:=A) (olds:=olds) hd hu hie hz (by rw[hzk,hsz]) hbytes hlim hsrc (by rw[hsz];exact q5)).2 hg
     exact grow_out hpos hzk rfl hun huny this h1 hst1 q2 hreps q3 hone (by simpa using hLy) (fun hn=>⟨rfl,hOy hn⟩) hK
    unfold appendTo at hK
    dsimp only at hK
    split at hK
    ·
     rename_i r0 p hx
     rw[hx] at hlx
     rcases place_sem hlx hK with ⟨n,rows,X,hK,hf,hX⟩ | ⟨f,rows,hK,hf⟩
     ·
      split at hK
      ·
       rename_i hlim
       obtain ⟨OX,who2,g1,g2,g3,g4,g5⟩:=take_sem h1 hf (by rcases hX with rfl | ⟨rfl,_⟩ <;> simp)
       have hown:Rep S1 w (a.eval x) (.own n k rows) OX:=by
        rcases hX with rfl | ⟨rfl,rfl,rfl⟩
        ·
         exact g1
        ·
         generalize a.eval x=ux at g1 ⊢
         cases g1;exact .own0 _ _ _
       have hdis:∀ b∈OX,b ∉ Oy:=fun b hb hby=>(g3 b hb).1 (hLy.2 b hby).1
       have hst2:Step S who w S1 who2 w:=hst1.trans g5
       have hback:∀ b,who1 b≠none→who b≠none:=fun b hb=>by
        rcases hst1.own b hb with h7 | h7
        ·
         exact h7
        ·
         obtain ⟨xx,e⟩:=Option.ne_none_iff_exists'.1 hb
         have:=h1.lowO b xx e;omega
       have hLx:Loose S1 who who2 OX:=⟨g2,fun b hb=>⟨(g3 b hb).2.1,(g3 b hb).2.2,hback b (g3 b hb).1⟩⟩
       have hLy2:Loose S1 who who2 Oy:=hLy.step g5 hlow
       generalize hux:a.eval x=ux at hown ⊢
       cases hown with
       | own0 A _ _ =>
        by_cases hys:ys=[]
        ·
         subst hys
         have hnews:news=[]:=by have:=hreps.len;simpa using this
         subst hnews
         obtain ⟨w1,hw1,e1⟩:∃ w1,(match A with | some ad=>(storeCells (ad.add (0*ie.size)) []).run P w | none=>.ok () w)=.ok () w1∧w1=w:=by
          cases A with
          | none=>exact ⟨w,rfl,rfl⟩
          | some ad=>exact ⟨w,rfl,rfl⟩
         subst e1
         have:=(run_append (P:=P) (ty:=ty) (sLen:=0) (sCap:=0) (base:=A) (olds:=[]) hd hu hie hz (by rw[hzk,hsz]) hbytes hlim hsrc (by
          cases A with
          | none=>rfl
          | some ad=>simp[Builtin.firstCells];rfl)).1 (by simp) _ hw1
         exact outv_put this g4 hst2 (.own0 _ _ _) (by simp) (by simp) trivial hK
        ·
         have hl:0<ys.length:=List.length_pos_iff.2 hys
         have:=(run_append (P:=P) (w:=w) (ty:=ty) (sLen:=0) (sCap:=0) (base:=A) (olds:=[]) hd hu hie hz (by rw[hzk,hsz]) hbytes hlim hsrc (by
          cases A with
          | none=>rfl
          | some ad=>simp[Builtin.firstCells];rfl)).2 (by omega)
         refine grow_out (rows:=[]) (olds:=[]) (Ox:=[]) hpos hzk rfl (by simp) huny this g4 hst2 .nil hreps (by simp) hone (by simpa using hLy2) (fun hn=>⟨rfl,hOy ?_⟩) (by simpa using hK)
         cases n <;> simp_all
       | @own b o c _ _ _ O m1 m2 m3 m4 m5 m6 =>
        have hOs:(n||nest)=false→O=[]∧Oy=[]:=fun hn=>by
         rw[Bool.or_eq_false_iff] at hn
         exact ⟨m5 hn.1,hOy hn.2⟩
        have hrowsO:rows=[]→O=[]:=fun e=>by
         subst e
         have:∀ {b o:Nat} {xs:List V} {O:List Nat},Mem S1 w b o xs O→xs=[]→O=[]:=by
          intro b o xs O hm e
          cases hm with
          | nil=>rfl
          | cons=>cases e
         exact this m6 rfl
        have hLO:Loose S1 who who2 O:=⟨by have:=g2;simp only[List.nodup_cons] at this;exact this.2,fun b' hb'=>hLx.2 b' (by simp[hb'])⟩
        by_cases hroom:rows.length+ys.length≤c
        ·
         -- in place
         have hnl:news.length=ys.length*k:=by rw[hreps.len,flatten_length huny]
         have hmul:rows.length*k+ys.length*k≤c*k:=by rw[←Nat.add_mul];exact Nat.mul_le_mul_right _ hroom
         obtain ⟨w2,hrun,hp⟩:=poke_many (P:=P) (o:=o+rows.length*k) (i:=0) (vs:=news) m3 (by rw[hnl];omega) hone
         rw[Nat.add_zero] at hp
         obtain ⟨olds,q1,q2,q3,q4,q5⟩:=src_slice (P:=P) (z:=z) (d:=.string) (n:=0) (c:=c) (S:=S1) (w:=w) (A:=some ⟨b,o,none⟩) (by simp) m2 (fun _=>⟨b,o,rfl,m6⟩) hrowsO
         have happ:=(run_append (P:=P) (w:=w) (ty:=ty) (sLen:=rows.length) (sCap:=c) (base:=some ⟨b,o,none⟩) (olds:=olds) hd hu hie hz (by rw[hzk,hsz]) hbytes hlim hsrc (by rw[hsz];exact q5)).1 hroom w2 (by
          rw[hsz]
          show (storeCells (Addr.add ⟨b,o,none⟩ (rows.length*k)) news).run P w=_
          rw[add_none];exact hrun)
         have hbS:¬S1 b:=(g3 b (by simp)).2.2
         have hnb:∀ b',S1 b'→b'≠b:=fun b' hb' e=>hbS (e ▸ hb')
         have hbO:b ∉ O:=by have:=g2;simp only[List.nodup_cons] at this;exact this.1
         have hbOy:b ∉ Oy:=hdis b (by simp)
         have hrel:Rel E S1 who2 w2 a.tmps (setPlace σ1 r0 p .ud) :=
          g4.world (fun b' hb'=>hp.other b' (hnb b' hb')) (fun b' hb'=>hp.other b' fun e=>hb' (e ▸ (g3 b (by simp)).2.1)) (Nat.le_of_eq hp.size.symm) (fun _ h=>h) g4.sep (fun b' hb'=>by rw[hp.size];exact g4.low b' hb')
         have hst3:Step S who w S1 who2 w2:=by
          refine ⟨Nat.le_of_eq hp.size.symm,fun b' hb' hn=>hp.other b' fun e=>?_,hst2.sub,hst2.new,hst2.own,hp.out⟩
          exact hback b (g3 b (by simp)).1 (e ▸ hn)
         have hm1:Mem S1 w2 b o rows.flatten O:=m6.other (fun _ h=>h) (fun b' hb'=>hp.other b' (hnb b' hb')) (fun j hj=>hp.beside _ (.inl (by rw[flatten_length m2] at hj;omega))) fun b' hb'=>hp.other b' fun e=>hbO (e ▸ hb')
         have hm2:Mem S1 w2 b (o+rows.flatten.length) ys.flatten Oy:=by
          rw[flatten_length m2]
          exact Mem.fresh (hreps.mono (fun _ h=>h) (fun b' hb'=>hp.other b' (hnb b' hb')) fun b' hb'=>hp.other b' fun e=>hbOy (e ▸ hb')) hone fun j hj=>hp.inside j hj
         have hrep:Rep S1 w2 (.slice (some ⟨b,o,none⟩) (rows++ys).length c) (.own (n||nest) k (rows++ys)) (b::(O++Oy)) :=
          .own hpos (fun r hr=>(List.mem_append.1 hr).elim (m2 r) (huny r)) (hp.row _ _ m3) (by simpa using hroom) (fun hn=>by obtain ⟨e1,e2⟩:=hOs hn;simp[e1,e2]) (by rw[List.flatten_append];exact hm1.append hm2)
         rw[List.length_append] at hrep
         have hLall:Loose S1 who who2 (b::(O++Oy)):=by
          have:=hLx.append hLy2 hdis
          simpa using this
         exact outv_put happ hrel hst3 hrep hLall.1 (fun b' hb'=>⟨⟨(hLall.2 b' hb').1,(hLall.2 b' hb').2.1⟩,.inl (hLall.2 b' hb').2.2⟩) trivial hK
        ·
         obtain ⟨olds,q1,q2,q3,q4,q5⟩:=src_slice (P:=P) (z:=z) (d:=.string) (n:=0) (c:=c) (S:=S1) (w:=w) (A:=some ⟨b,o,none⟩) (by simp) m2 (fun _=>⟨b,o,rfl,m6⟩) hrowsO
         have:=(run_append (P:=P) (w:=w) (ty:=ty) (sLen:=rows.length) (sCap:=c) (base:=some ⟨b,o,none⟩) (olds:=olds) hd hu hie hz (by rw[hzk,hsz]) hbytes hlim hsrc (by rw[hsz];exact q5)).2 hroom
         exact grow_out hpos hzk rfl m2 huny this g4 hst2 q2 hreps q3 hone (hLO.append hLy2 fun b' hb'=>hdis b' (by simp[hb'])) hOs hK
      ·
       cases hK
     ·
      cases f with
      | false=>cases hK
      | true =>
       simp only[cond_true] at hK
       split at hK
       ·
        cases hK
       ·
        split at hK
        ·
         rename_i hys hlim
         obtain ⟨O,hX,_⟩:=hf.rep h1
         refine full (RowsIn.of_sl hX) ?_ hys hlim hK
         generalize a.eval x=ux at hX ⊢
         cases hX with
         | sl0 A c _ _ hc=>exact ⟨A,by rw[hc rfl];rfl⟩
         | sl _ _ _ _ h5 _=>exact ⟨_,by rw[h5.2 rfl]⟩
        ·
         cases hK
    ·
     rename_i k' f rows hx
     rw[hx] at hrx
     cases f with
     | false=>cases hK
     | true =>
      simp only[cond_true] at hK
      split at hK
      ·
       rename_i hkk;subst hkk
       split at hK
       ·
        cases hK
       ·
        split at hK
        ·
         rename_i hys hlim
         refine full (RowsIn.of_sl hrx) ?_ hys hlim hK
         generalize a.eval x=ux at hrx ⊢
         cases hrx with
         | sl0 A c _ _ hc=>exact ⟨A,by rw[hc rfl];rfl⟩
         | sl _ _ _ _ h5 _=>exact ⟨_,by rw[h5.2 rfl]⟩
        ·
         cases hK
      ·
       cases hK
    ·
     rename_i hx
     rw[hx] at hrx
     split at hK
     ·
      rename_i hlim
      by_cases hys:ys=[]
      ·
       subst hys
       have hnews:news=[]:=by have:=hreps.len;simpa using this
       subst hnews
       generalize a.eval x=ux at hrx ⊢
       cases hrx with
       | nilsl A =>
        obtain ⟨w1,hw1,e1⟩:∃ w1,(match A with | some ad=>(storeCells (ad.add (0*ie.size)) []).run P w | none=>.ok () w)=.ok () w1∧w1=w:=by
         cases A with
         | none=>exact ⟨w,rfl,rfl⟩
         | some ad=>exact ⟨w,rfl,rfl⟩
        subst e1
        have:=(run_append (P:=P) (ty:=ty) (sLen:=0) (sCap:=0) (base:=A) (olds:=[]) hd hu hie hz (by rw[hzk,hsz]) hbytes (by simp) hsrc (by
         cases A with
         | none=>rfl
         | some ad=>simp[Builtin.firstCells];rfl)).1 (by simp) _ hw1
        exact outv_put this h1 hst1 (.own0 _ _ _) (by simp) (by simp) trivial hK
      ·
       have hl:0<ys.length:=List.length_pos_iff.2 hys
       refine full (rows:=[]) ?_ ?_ (by omega) (by simpa using hlim) (by simpa using hK)
       ·
        generalize a.eval x=ux at hrx ⊢
        cases hrx
        exact ⟨_,0,rfl,by simp,fun h=>absurd rfl h⟩
       ·
        generalize a.eval x=ux at hrx ⊢
        cases hrx
        exact ⟨_,rfl⟩
     ·
      cases hK
    ·
     cases hK
   ·
    cases hs
  ·
   cases hs
 ·
  cases hs
end
end Go.Zv
namespace Go.Zv
open Go
def Post {R:Type} (E:Env) (r:R) (K:List V→Option R) (S:Nat→Prop) (who:Nat→Option Nat) (w:World) (a:Act) (a':Act) (w':World):Prop :=
 ∃ σ' S' who',K σ'=some r∧Rel E S' who' w' a'.tmps σ'∧Step S who w S' who' w'∧a'.defers=a.defers
section
variable {R:Type} {P:Program} {E:Env} {r:R} {K:List V→Option R} {S S':Nat→Prop} {who who':Nat→Option Nat} {w w':World} {a:Act} {dst:Option Nat} {σ σ':List V} {o:Oper} {Q:Exit→Act→World→Prop}
theorem put_defers (a:Act) (dst:Option Nat) (v:Value):(a.put dst v).defers=a.defers:=by cases dst <;> rfl
theorem wp_outv {s:Sem Value} (he:execOp a.eval o=(do pure (.value (←s)))) (h:OutV E r K S who w a o.dst (s.run P w)):o.wp P a w (Post E r K S who w a) Q:=by
 obtain ⟨u,w',σ',S',who',h1,h2,h3,h4⟩:=h
 unfold Oper.wp
 rw[he]
 simp only[Sem.run_bind,h1,Result.andThen_ok,Sem.run_pure]
 exact ⟨σ',S',who',h2,h3,h4,put_defers _ _ _⟩
theorem wp_outv' {u:Value} (he:execOp a.eval o=pure (.value u)) (h:OutV E r K S who w a o.dst (.ok u w)):o.wp P a w (Post E r K S who w a) Q:=by
 refine wp_outv (s:=pure u) ?_ (by simpa using h)
 rw[he];rfl
theorem evOp_sound (hE:EnvOK P E) (h:Rel E S who w a.tmps σ) (hs:evOp E o σ K=some r)
  (hcall:∀ c f g caps,o.op=.call c→c.callee=.value f→opnd E σ f=.fn g caps→evCall E g (callArgs c f caps.length) (c.argTypes.toList.map E.tys) o.dst σ K=some r→o.wp P a w (Post E r K S who w a) Q) :
  o.wp P a w (Post E r K S who w a) Q:=by
 unfold evOp at hs
 cases hfx:flag E.fixed o.dst with
 | true=>rw[hfx] at hs;cases hs
 | false =>
 rw[hfx] at hs
 simp only[cond_false] at hs
 cases hop:o.op with
 | move x =>
  rw[hop] at hs
  exact wp_outv' (by simp only[execOp,hop]) (move_out h hs)
 | assign x =>
  rw[hop] at hs
  exact wp_outv' (by simp only[execOp,hop]) (assign_out h hs)
 | pick c x y =>
  rw[hop] at hs
  exact wp_outv (s:=do pure (if ←Go.asBool (a.eval c) then a.eval x else a.eval y)) (by simp only[execOp,hop,bind_assoc,pure_bind]) (pick_out h hs)
 | alloc t =>
  rw[hop] at hs
  exact wp_outv (by simp only[execOp,hop]) (alloc_out (hE.ty _) (hE.lib _) h hs)
 | box t x =>
  rw[hop] at hs
  exact wp_outv (by simp only[execOp,hop]) (box_out (fun i hi=>hE.ty _ i hi) h hs)
 | build t parts =>
  rw[hop] at hs
  exact wp_outv (by simp only[execOp,hop]) (build_out (hE.ty _) h hs)
 | buildSlice t len parts =>
  rw[hop] at hs
  exact wp_outv (by simp only[execOp,hop]) (buildSlice_out (fun i hi=>hE.ty _ i hi) h hs)
 | load t x =>
  rw[hop] at hs
  exact wp_outv (by simp only[execOp,hop]) (load_out hE h hs)
 | store t x y =>
  rw[hop] at hs
  obtain ⟨σ',S',who',w',h1,h2,h3,h4⟩:=store_sem (P:=P) (hE.ty t) h hs
  obtain ⟨u,w2,σ2,S2,who2,e1,e2,e3,e4⟩:OutV E r K S who w a o.dst (.ok undef w'):=outv_put (v:=.tup []) rfl h3 h4 (.tup .nil) (by simp) (by simp) trivial h2
  cases e1
  unfold Oper.wp
  simp only[execOp,hop,Sem.run_bind,h1,Result.andThen_ok,Sem.run_pure]
  exact ⟨σ2,S2,who2,e2,e3,e4,put_defers _ _ _⟩
 | nilCheck x =>
  rw[hop] at hs
  obtain ⟨hr,hl⟩:=opnd_spec h x
  dsimp only at hs
  split at hs
  ·
   rename_i cs i hx
   rw[hx] at hr hl
   have hu:∃ ad,a.eval x=.pointer (some ad):=by
    generalize a.eval x=u at hr ⊢
    cases hr with
    | iptr=>exact ⟨_,rfl⟩
   obtain ⟨ad,hu⟩:=hu
   rw[hu] at hr hl
   exact wp_outv' (u:=.pointer (some ad)) (by simp only[execOp,hop,hu]) (outv_val rfl h hr hl hs)
  ·
   rename_i rr p hx
   rw[hx] at hr hl
   obtain ⟨b,off,hu⟩:=ptr_val hl
   rw[hu] at hr hl
   exact wp_outv' (u:=.pointer (some ⟨b,off,none⟩)) (by simp only[execOp,hop,hu]) (outv_val rfl h hr hl hs)
  ·
   rename_i f cs hx
   rw[hx] at hr hl
   have hu:∃ caps,a.eval x=.func (.func f) #[] caps:=by
    generalize a.eval x=u at hr ⊢
    cases hr with
    | fn=>exact ⟨_,rfl⟩
   obtain ⟨caps,hu⟩:=hu
   rw[hu] at hr hl
   exact wp_outv' (u:=.func (.func f) #[] caps) (by simp only[execOp,hop,hu]) (outv_val rfl h hr hl hs)
  ·
   cases hs
 | binOp op t x y d =>
  rw[hop] at hs
  obtain ⟨v,u,h1,h2,h3,h4⟩:=evBin_sem (P:=P) (ox:=x) (oy:=y) hE (opnd_spec h x).1 (opnd_spec h y).1 hs
  exact wp_outv (s:=do eqGuard op t x y (a.eval x) (a.eval y);binOp op t (a.eval x) (a.eval y)) (by simp only[execOp,hop]) (by rw[h4];exact outv_val rfl h h3 (h3.link h2) h1)
 | unOp op t x =>
  rw[hop] at hs
  exact wp_outv (by simp only[execOp,hop]) (unOp_out h hs)
 | convert s d x =>
  rw[hop] at hs
  exact wp_outv (by simp only[execOp,hop]) (convert_out hE h hs)
 | makeFunc f first caps =>
  rw[hop] at hs
  exact wp_outv (by simp only[execOp,hop]) (makeFunc_out h hs)
 | makeSlice t l c =>
  rw[hop] at hs
  exact wp_outv (by simp only[execOp,hop]) (makeSlice_out (fun i hi=>hE.ty _ i hi) h hs)
 | slice t x lo hi mx =>
  rw[hop] at hs
  exact wp_outv (by simp only[execOp,hop]) (slice_out hE h hs)
 | fieldAddr t x f =>
  rw[hop] at hs
  exact wp_outv (by simp only[execOp,hop]) (fieldAddr_out hE h hs)
 | field t x f =>
  rw[hop] at hs
  exact wp_outv (by simp only[execOp,hop]) (field_out hE h hs)
 | indexAddr t x ix =>
  rw[hop] at hs
  exact wp_outv (by simp only[execOp,hop]) (indexAddr_out hE h hs)
 | index t x ix =>
  rw[hop] at hs
  exact wp_outv (by simp only[execOp,hop]) (index_out hE h hs)
 | extract x i =>
  rw[hop] at hs
  exact wp_outv (by simp only[execOp,hop]) (extract_out h hs)
 | call c =>
  rw[hop] at hs
  dsimp only at hs
  split at hs
  ·
   rename_i b hb
   have hex:∀ {s:Sem Value},(builtin b c.argTypes o.type (c.args.map fun | .const _=>true | _=>false) (c.args.map a.eval)=do pure (.value (←s)))→execOp a.eval o=(do pure (.value (←s))):=by
    intro s hs'
    simp only[execOp,hop,resolve,hb,pure_bind,invoke]
    exact hs'
   have hargs:∀ {l:List Operand},c.args.toList=l→c.args.map a.eval=(l.map a.eval).toArray:=by
    intro l hl
    rw[←hl]
    apply Array.ext'
    rw[Array.toList_map]
   have htys:∀ {l:List Nat},c.argTypes.toList=l→c.argTypes=l.toArray:=by
    intro l hl
    rw[←hl]
   unfold evBuiltin at hs
   split at hs
   ·
    rename_i t ts x e1 e2
    exact wp_outv (hex (by rw[hargs e2,htys e1];rfl)) (len_out (ats:=ts) hE h hs)
   ·
    rename_i x rest e2
    exact wp_outv (hex (by rw[hargs e2];rfl)) (min_out h hs)
   ·
    rename_i x rest e2
    exact wp_outv (hex (by rw[hargs e2];rfl)) (max_out h hs)
   ·
    rename_i t u x y e1 e2
    exact wp_outv (hex (by rw[hargs e2,htys e1];rfl)) (append_out hE h hs)
   ·
    rename_i t ts x y e1 e2
    exact wp_outv (hex (by rw[hargs e2,htys e1];rfl)) (copy_out (ats:=ts) hE h hs)
   ·
    cases hs
  ·
   rename_i f hf
   split at hs
   ·
    rename_i g caps hg
    exact hcall c f g caps hop hf hg hs
   ·
    cases hs
  ·
   cases hs
 | _=>rw[hop] at hs;cases hs
end
end Go.Zv
namespace Go.Zv
open Go
structure Given (G:Nat→Option (List V)) (S:Nat→Prop) (w:World) (vs:List Value) (args:List V) (O:List Nat):Prop where
 rep:Reps S w vs args O
 nodup:O.Nodup
 apart:∀ b∈O,¬S b
 low:∀ b,S b→b<w.heap.size
 glob:∀ g cs,G g=some cs→GlobAt S w g cs
structure Back (S:Nat→Prop) (w:World) (O:List Nat) (vs:List Value) (v:Value) (res:V) (outs:List V) (S':Nat→Prop) (w':World) (Or Oo:List Nat):Prop where
 res:Rep S' w' v res Or
 outs:Reps S' w' vs outs Oo
 nodup:(Or++Oo).Nodup
 apart:∀ b∈Or++Oo,¬S' b∧(b∈O∨w.heap.size≤b)
 size:w.heap.size≤w'.heap.size
 sub:∀ b,S b→S' b
 new:∀ b,S' b→S b∨b∈O∨w.heap.size≤b
 low:∀ b,S' b→b<w'.heap.size
 keep:∀ b,b<w.heap.size→b ∉ O→w'.heap[b]?=w.heap[b]?
 same:Same w w'
def Goes (P:Program) (f:Nat) (args:Array Value) (w:World) (T:Value→World→Prop):Prop :=
 ((callFunc f args).run P w=.ok (.enter f args) w∧Calls P f args w fun e w'=>∃ v,e=.returned v∧T v w') ∨
  ∃ v w',(callFunc f args).run P w=.ok (.value v) w'∧T v w'
def Does (P:Program) (G:Nat→Option (List V)) (f:Nat) (args:List V) (res:V) (outs:List V):Prop :=
 ∀ (S:Nat→Prop) (w:World) (vs:List Value) (O:List Nat),Given G S w vs args O →
  Goes P f vs.toArray w fun v w'=>∃ S' Or Oo,Back S w O vs v res outs S' w' Or Oo
def CallOK (P:Program) (E:Env):Prop :=
 ∀ (R:Type) (f:Nat) (args:List V) (G:V→List V→Option R) (r:R),E.call f args G=some r→∃ res outs,G res outs=some r∧Does P E.glob f args res outs
section
variable {R:Type} {P:Program} {E:Env} {r:R} {K:List V→Option R} {S S':Nat→Prop} {who who':Nat→Option Nat} {w w':World} {a:Act} {dst:Option Nat} {σ σ':List V}
def argU (a:Act):Arg→Value
 | .op x=>a.eval x
 | .cap f i=>match a.eval f with
  | .func _ _ caps=>caps.getD i undef
  | _=>undef
theorem Reps.getD {us:List Value} {xs:List V} (h:Reps S w us xs []) (j:Nat):Rep S w (us.getD j undef) (xs.getD j .ud) []:=by
 by_cases hj:j<xs.length
 ·
  obtain ⟨v,h1,h2⟩:=h.get hj
  rw[List.getD_eq_getElem?_getD,h1];exact h2
 ·
  rw[List.getD_eq_getElem?_getD (l:=xs),List.getElem?_eq_none (by omega)]
  exact .ud _
theorem arg_spec (h:Rel E S who w a.tmps σ) (x:Arg):Rep S w (argU a x) (argV E σ x) []∧Link w a.tmps σ (argU a x) (argV E σ x):=by
 cases x with
 | op x=>exact opnd_spec h x
 | cap f i =>
  obtain ⟨hr,hl⟩:=opnd_spec h f
  simp only[argU,argV]
  cases hx:opnd E σ f
  case fn g caps =>
   rw[hx] at hr hl
   obtain ⟨cs,h1,h2,h3⟩:=hl
   rw[h1] at hr ⊢
   cases hr with
   | fn hreps =>
    have:=hreps.getD i
    have e:cs.toList.getD i undef=cs.getD i undef:=by
     rw[Array.getD_eq_getD_getElem?,List.getD_eq_getElem?_getD,Array.getElem?_toList]
    rw[e] at this
    have hl1:=h3 i
    dsimp only
    cases hc:caps.getD i .ud
    case fn f' caps'=>exact ⟨.ud _,trivial⟩
    all_goals (rw[hc] at hl1 this;exact ⟨this,hl1⟩)
  all_goals exact ⟨.ud _,trivial⟩
def Lent (S:Nat→Prop) (who:Nat→Option Nat) (b:Nat):Prop:=S b∨who b≠none
theorem readArg_sem {x:Arg} {ty:Option TI} {v:V} (h:Rel E S who w a.tmps σ) (hs:readArg E σ x ty=some v):Rep (Lent S who) w (argU a x) v []:=by
 obtain ⟨hr,hl⟩:=arg_spec h x
 have hmono:∀ {u:Value} {x:V},Rep S w u x []→Rep (Lent S who) w u x []:=fun h=>h.mono (fun _ h=>.inl h) (fun _ _=>rfl) (by simp)
 unfold readArg at hs
 split at hs
 ·
  rename_i r0 p hx
  rw[hx] at hl
  split at hs
  ·
   rename_i k b hk
   rcases place_sem hl hs with ⟨n,rows,X,hK,hf,hX⟩ | ⟨f,rows,hK,hf⟩
   ·
    obtain ⟨O,hO,ho⟩:=hf.rep h
    have hown:Rep S w (argU a x) (.own n k rows) O:=by
     rcases hX with rfl | ⟨rfl,rfl,rfl⟩
     ·
      exact hO
     ·
      generalize argU a x=u at hO ⊢
      cases hO;exact .own0 _ _ _
    have hz:=froz_rep (S':=Lent S who) (d:=3) (fun _ h=>.inl h) hown (fun b hb=>.inr (by rw[ho b hb];simp))
    split at hK
    ·
     rename_i k2 f2 rows' he
     cases hK
     have e:froz 3 (.own n k rows)=.sl k false rows':=by
      simp only[froz] at he ⊢
      cases he;rfl
     rwa [e] at hz
    ·
     cases hK
   ·
    obtain ⟨O,hX,_⟩:=hf.rep h
    cases hK
    exact hmono ((hX.plain rfl (by simp)) ▸ hX)
  ·
   cases hs
 ·
  rename_i hx
  rw[hx] at hr
  split at hs
  ·
   cases hs
   generalize argU a x=u at hr ⊢
   cases hr;exact .sl0 _ _ _ _ (by simp)
  ·
   cases hs
 ·
  cases hs
 ·
  rename_i cs hx
  rw[hx] at hr
  cases hg:goodCells cs with
  | false=>rw[hg] at hs;cases hs
  | true=>rw[hg] at hs;cases hs;exact hmono hr
 ·
  rename_i v' _ _ _ _
  cases hg:simple (argV E σ x) with
  | false=>rw[hg] at hs;cases hs
  | true=>rw[hg] at hs;cases hs;exact hmono hr
theorem readArgs_sem (h:Rel E S who w a.tmps σ):∀ {l:List (Arg×Option TI)} {args:List V},readArgs E σ l=some args→Reps (Lent S who) w (l.map fun y=>argU a y.1) args []
 | [],args,hs=>by cases hs;exact .nil
 | (x,ty)::l,args,hs=>by
  simp only[readArgs] at hs
  cases e1:readArg E σ x ty with
  | none=>rw[e1] at hs;cases hs
  | some v =>
   rw[e1] at hs
   cases e2:readArgs E σ l with
   | none=>rw[e2] at hs;cases hs
   | some vs =>
    rw[e2] at hs
    cases hs
    simpa using Reps.cons (readArg_sem h e1) (readArgs_sem h e2)
theorem flat1_rep {u:Value} {v:V} {O:List Nat} (h:Rep S w u v O) (hf:flat1 v=true):Rep S' w' u v []:=by
 cases v <;> first | (cases hf;done) | (cases h;constructor)
theorem flat1s_rep:∀ {us:List Value} {vs:List V} {O:List Nat},Reps S w us vs O→(vs.all fun c=>flat1 c.strip)=true→Reps S' w' us vs []
 | _,_,_,.nil,_=>.nil
 | u::_,x::_,_,.cons h1 h2,hf=>by
  simp only[List.all_cons,Bool.and_eq_true] at hf
  have h1':Rep S' w' u x []:=by
   by_cases hc:∃ y,x=.cl y
   ·
    obtain ⟨y,rfl⟩:=hc
    cases h1 with
    | cl h1=>exact .cl (flat1_rep h1 hf.1)
   ·
    have:flat1 x=true:=by
     have h2:=hf.1
     cases x <;> first | exact h2 | exact absurd ⟨_,rfl⟩ hc | (simp[V.strip,flat1] at h2)
    exact flat1_rep h1 this
  simpa using Reps.cons h1' (flat1s_rep h2 hf.2)
theorem flat2_rep {u:Value} {v:V} {O:List Nat} (h:Rep S w u v O) (hf:flat2 v=true):Rep S' w' u v []:=by
 cases v
 case agg cs =>
  cases h with
  | agg h0 h=>exact .agg h0 (flat1s_rep h hf)
 all_goals exact flat1_rep h hf
theorem flat2s_rep:∀ {us:List Value} {vs:List V} {O:List Nat},Reps S w us vs O→vs.all flat2=true→Reps S' w' us vs []
 | _,_,_,.nil,_=>.nil
 | _,x::_,_,.cons h1 h2,hf=>by
  simp only[List.all_cons,Bool.and_eq_true] at hf
  simpa using Reps.cons (flat2_rep h1 hf.1) (flat2s_rep h2 hf.2)
theorem mem_flat {b:Nat}:∀ {o:Nat} {xs:List V} {O:List Nat},Mem S w b o xs O→xs.all flat1=true→Mem S' w b o xs []
 | _,_,_,.nil b o,_=>.nil b o
 | _,x::_,_,.cons h1 h0 h2 h3,hf=>by
  simp only[List.all_cons,Bool.and_eq_true] at hf
  simpa using Mem.cons h1 h0 (flat1_rep h2 hf.1) (mem_flat h3 hf.2)
theorem flatO_rep {u:Value} {k:Nat} {rows:List (List V)} {O:List Nat} (h:Rep S w u (.own false k rows) O) (hf:flatRows rows=true):Rep S' w u (.own false k rows) O:=by
 generalize hn:false=n at h
 cases h with
 | own0 a _ _=>exact .own0 a _ _
 | @own b o c _ _ _ O h1 h2 h3 h4 h5 h6 =>
  subst hn
  have:=h5 rfl
  subst this
  have hall:rows.flatten.all flat1=true:=by
   rw[List.all_eq_true]
   intro x hx
   obtain ⟨r,hr,hxr⟩:=List.mem_flatten.1 hx
   exact List.all_eq_true.1 (List.all_eq_true.1 hf r hr) x hxr
  exact .own h1 h2 h3 h4 (fun _=>rfl) (mem_flat h6 hall)
theorem flatV_rep {u:Value} {v:V} {O:List Nat} (h:Rep S w u v O) (hf:flatV v=true) (hno:∀ n k rows,v≠.own n k rows):Rep S' w' u v []:=by
 cases v
 case own n k rows=>exact absurd rfl (hno n k rows)
 case tup vs =>
  cases h with
  | tup h=>exact .tup (flat2s_rep h hf)
 all_goals exact flat2_rep h hf
theorem wp_goes {o:Oper} {c:Call} {f:Operand} {g:Nat} {caps:Array Value} {T:Value→World→Prop} {next:Act→World→Prop} {Q:Exit→Act→World→Prop} (hop:o.op=.call c) (hc:c.callee=.value f)
  (hf:a.eval f=.func (.func g) #[] caps) (h:Goes P g (c.args.map a.eval++caps) w T) (hK:∀ v w',T v w'→next (a.put o.dst v) w'):o.wp P a w next Q:=by
 have hrun:(execOp a.eval o).run P w=(callFunc g (c.args.map a.eval++caps)).run P w:=by
  simp only[execOp,hop,resolve,hc,Deferred.ofValue,hf,pure_bind,invoke,Array.empty_append]
 unfold Oper.wp
 rw[hrun]
 rcases h with ⟨h1,h2⟩ | ⟨v,w',h1,h2⟩
 ·
  rw[h1]
  exact h2.mono fun e w' ⟨v,he,hT⟩=>by subst he;exact hK v w' hT
 ·
  rw[h1]
  exact hK v w' h2
theorem callArgs_vals {c:Call} {f:Operand} {g:Nat} {cs:Array Value} {n:Nat} (hf:a.eval f=.func (.func g) #[] cs) (hn:cs.size=n):(callArgs c f n).map (argU a)=(c.args.map a.eval++cs).toList:=by
 have h1:(List.range n).map (fun i=>argU a (.cap f i))=cs.toList:=by
  apply List.ext_getElem?
  intro i
  by_cases hi:i<n
  ·
   have h2:i<cs.size:=by omega
   simp[List.getElem?_map,List.getElem?_range hi,argU,hf,Array.getD_eq_getD_getElem?,Array.getElem?_eq_getElem h2]
  ·
   rw[List.getElem?_eq_none (by simp;omega),List.getElem?_eq_none (by simp;omega)]
 unfold callArgs
 rw[List.map_append,List.map_map,List.map_map,Array.toList_append,Array.toList_map]
 congr 1
theorem zip_fst {α β:Type}:∀ {xs:List α} {ys:List β},xs.length≤ys.length→(xs.zip ys).map (·.1)=xs
 | [],_,_=>by simp
 | x::xs,[],h=>by simp at h
 | x::xs,y::ys,h=>by simp[zip_fst (xs:=xs) (ys:=ys) (by simpa using h)]
theorem fn_val (h:Rel E S who w a.tmps σ) {f:Operand} {g:Nat} {caps:List V} (hx:opnd E σ f=.fn g caps):∃ cs,a.eval f=.func (.func g) #[] cs∧cs.size=caps.length:=by
 obtain ⟨hr,hl⟩:=opnd_spec h f
 rw[hx] at hl
 obtain ⟨cs,h1,h2,_⟩:=hl
 exact ⟨cs,h1,h2⟩
theorem call_flat {o:Oper} {c:Call} {f:Operand} {g:Nat} {caps:List V} {tys:List (Option TI)} {Q:Exit→Act→World→Prop} (hC:CallOK P E) (h:Rel E S who w a.tmps σ) (hop:o.op=.call c) (hc:c.callee=.value f) (hx:opnd E σ f=.fn g caps)
  (hs:((readArgs E σ ((callArgs c f caps.length).zip (tys++List.replicate ((callArgs c f caps.length).length-tys.length) none))).bind fun args =>
   E.call g args fun res _=>cond (flatV res) (K (put o.dst res σ)) none)=some r):o.wp P a w (fun a' w'=>Post E r K S who w a a' w'∧Grows w w') Q:=by
 obtain ⟨cs,hf,hn⟩:=fn_val h hx
 cases e:readArgs E σ ((callArgs c f caps.length).zip (tys++List.replicate ((callArgs c f caps.length).length-tys.length) none)) with
 | none=>rw[e] at hs;cases hs
 | some args =>
  rw[e] at hs
  simp only[Option.bind_some] at hs
  obtain ⟨res,outs,hG,hdoes⟩:=hC _ _ _ _ _ hs
  cases hfl:flatV res with
  | false=>rw[hfl] at hG;cases hG
  | true =>
   rw[hfl] at hG
   simp only[cond_true] at hG
   have hreps:=readArgs_sem h e
   have hvals:(((callArgs c f caps.length).zip (tys++List.replicate ((callArgs c f caps.length).length-tys.length) none)).map fun y=>argU a y.1)=(c.args.map a.eval++cs).toList:=by
    rw[←callArgs_vals hf hn]
    have:=congrArg (List.map (argU a)) (zip_fst (xs:=callArgs c f caps.length) (ys:=tys++List.replicate ((callArgs c f caps.length).length-tys.length) none) (by simp;omega))
    rw[List.map_map] at this
    exact this
   rw[hvals] at hreps
   have hg:=hdoes (Lent S who) w _ [] ⟨hreps,by simp,by simp,fun b hb=>hb.elim (h.low b) (fun hn=>by
    obtain ⟨x,e⟩:=Option.ne_none_iff_exists'.1 hn
    exact h.lowO b x e),fun g cs hg=>(h.glob g cs hg).mono (fun _ h=>.inl h) fun _ _=>rfl⟩
   rw[Array.toArray_toList] at hg
   refine wp_goes hop hc hf hg fun v w' hT=>?_
   obtain ⟨S',Or,Oo,hB⟩:=hT
   have hgr:Grows w w':=⟨hB.size,fun b hb=>hB.keep b hb (by simp),hB.same⟩
   obtain ⟨u,w2,σ2,S2,who2,e1,e2,e3,e4⟩:OutV E r K S who w a o.dst (.ok v w'):=by
    cases res
    case own n k rows =>
     cases n with
     | true=>cases hfl
     | false =>
      refine outv_put rfl (h.grow hgr) ((Step.refl _ _ _).grow hgr) (flatO_rep hB.res hfl) (List.nodup_append.1 hB.nodup).1 (fun b hb=>?_) trivial hG
      obtain ⟨h3,h4⟩:=hB.apart b (by simp[hb])
      have hnew:w.heap.size≤b:=h4.elim (fun h=>by cases h) id
      refine ⟨⟨?_,fun hs=>absurd (h.low b hs) (Nat.not_lt.2 hnew)⟩,.inr hnew⟩
      cases e:who b with
      | none=>rfl
      | some x=>exact absurd (h.lowO b x e) (Nat.not_lt.2 hnew)
    all_goals
     exact outv_put rfl (h.grow hgr) ((Step.refl _ _ _).grow hgr) (flatV_rep hB.res hfl (by simp)) (by simp) (by simp) ((flatV_rep (S':=S) (w':=w') hB.res hfl (by simp)).link (by
      first | rfl | cases hfl)) hG
   cases e1
   exact ⟨⟨σ2,S2,who2,e2,e3,e4,put_defers _ _ _⟩,hgr⟩
end
end Go.Zv
namespace Go.Zv
open Go
section
variable {R:Type} {P:Program} {E:Env} {r:R} {K:List V→Option R} {S S':Nat→Prop} {who who':Nat→Option Nat} {w w':World} {a:Act} {dst:Option Nat} {σ σ':List V}
def LentOK (tm:Array Value) (u:Value):V→Prop
 | .ptr r p=>p=[(0,0)]∧u=tm.getD r undef
 | .ref r p=>p=[]∧u=tm.getD r undef
 | v=>linkFree v=true
def ArgsOut (E:Env) (r:R) (G:List V→List V→Option R) (S:Nat→Prop) (who0 who:Nat→Option Nat) (w:World) (tm:Array Value) (us:List Value):Prop :=
 ∃ vals σ' S' who' O,G vals σ'=some r∧Rel E S' who' w tm σ'∧Step S who w S' who' w∧Reps S' w us vals O∧Loose S' who0 who' O∧∀ y∈us.zip vals,LentOK tm y.1 y.2
theorem evArgs_sem (tk tn:List Nat) {G:List V→List V→Option R} {who0:Nat→Option Nat}:∀ (l:List (Arg×Option TI)) {j:Nat} {S:Nat→Prop} {who:Nat→Option Nat} {σ:List V} (acc:List (Value×V)) {O:List Nat},
  Rel E S who w a.tmps σ→Reps S w (acc.reverse.map (·.1)) (acc.reverse.map (·.2)) O→Loose S who0 who O→(∀ b,who b≠none→who0 b≠none)→(∀ y∈acc,LentOK a.tmps y.1 y.2)→evArgs E tk tn l j (acc.map (·.2)) σ G=some r →
  ArgsOut E r G S who0 who w a.tmps (acc.reverse.map (·.1)++l.map fun y=>argU a y.1)
 | [],j,S,who,σ,acc,O,h,hr,hL,h0,hok,hs=>by
  refine ⟨acc.reverse.map (·.2),σ,S,who,O,by simpa[evArgs,List.map_reverse] using hs,h,Step.refl _ _ _,by simpa using hr,hL,?_⟩
  intro y hy
  simp only[List.map_nil,List.append_nil] at hy
  rw[List.zip_map'] at hy
  obtain ⟨z,hz,rfl⟩:=List.mem_map.1 hy
  exact hok z (by simpa using hz)
 | (x,ty)::l,j,S,who,σ,acc,O,h,hr,hL,h0,hok,hs=>by
  obtain ⟨hrx,hlx⟩:=arg_spec h x
  have hlow:=hr.low
  have next:∀ {S1:Nat→Prop} {who1:Nat→Option Nat} {σ1:List V} {v:V} {O1:List Nat},Rel E S1 who1 w a.tmps σ1→Step S who w S1 who1 w→Rep S1 w (argU a x) v O1→Loose S1 who0 who1 O1→(∀ b∈O,b ∉ O1)→LentOK a.tmps (argU a x) v →
    evArgs E tk tn l (j+1) (v::acc.map (·.2)) σ1 G=some r→ArgsOut E r G S who0 who w a.tmps (acc.reverse.map (·.1)++((x,ty)::l).map fun y=>argU a y.1):=by
   intro S1 who1 σ1 v O1 h1 hst hv hL1 hd hk hs1
   have hback:∀ b,who1 b≠none→who0 b≠none:=fun b hb=>by
    rcases hst.own b hb with h7 | h7
    ·
     exact h0 b h7
    ·
     obtain ⟨xx,e⟩:=Option.ne_none_iff_exists'.1 hb
     have:=h1.lowO b xx e;omega
   have hr1:Reps S1 w ((((argU a x,v)::acc).reverse).map (·.1)) ((((argU a x,v)::acc).reverse).map (·.2)) (O++O1):=by
    have e1:Reps S1 w [argU a x] [v] O1:=by simpa using Reps.cons hv .nil
    simpa using (hr.mono hst.sub (fun _ _=>rfl) (fun _ _=>rfl)).append e1
   have hL2:Loose S1 who0 who1 (O++O1):=(hL.step hst hlow).append hL1 hd
   obtain ⟨vals,σ',S',who',O',g1,g2,g3,g4,g5,g6⟩:=evArgs_sem tk tn l ((argU a x,v)::acc) h1 hr1 hL2 hback (fun y hy=>by
    rcases List.mem_cons.1 hy with rfl | hy
    ·
     exact hk
    ·
     exact hok y hy) hs1
   have e:((((argU a x,v)::acc).reverse).map (·.1)++l.map fun y=>argU a y.1)=(acc.reverse.map (·.1)++((x,ty)::l).map fun y=>argU a y.1):=by simp
   rw[e] at g4 g6
   exact ⟨vals,σ',S',who',O',g1,g2,hst.trans g3,g4,g5,g6⟩
  have loose0:Loose S who0 who []:=⟨by simp,by simp⟩
  simp only[evArgs] at hs
  split at hs
  ·
   rename_i r0 p hx
   rw[hx] at hlx
   split at hs
   ·
    rename_i k b hk
    cases htn:tn.contains j with
    | true =>
     rw[htn] at hs
     simp only[cond_true] at hs
     split at hs
     ·
      rename_i n k2 rows hg
      have hu:argU a x=a.tmps.getD r0 undef:=by
       rcases hlx with ⟨_,hl⟩ | ⟨q,i,j,c,X,b,o,e,_⟩
       ·
        exact hl (by rw[hg];trivial)
       ·
        simp at e
      exact next (v:=.ref r0 []) h (Step.refl _ _ _) (.ref _ _ _) loose0 (by simp) ⟨rfl,hu⟩ hs
     ·
      cases hs
    | false =>
     rw[htn] at hs
     simp only[cond_false] at hs
     cases htk:tk.contains j with
     | true =>
      rw[htk] at hs
      simp only[cond_true] at hs
      rcases place_sem hlx hs with ⟨n,rows,X,hK,hf,hX⟩ | ⟨f,rows,hK,hf⟩
      ·
       obtain ⟨OX,who1,g1,g2,g3,g4,g5⟩:=take_sem h hf (by rcases hX with rfl | ⟨rfl,_⟩ <;> simp)
       have hown:Rep S w (argU a x) (.own n k rows) OX:=by
        rcases hX with rfl | ⟨rfl,rfl,rfl⟩
        ·
         exact g1
        ·
         generalize argU a x=u at g1 ⊢
         cases g1;exact .own0 _ _ _
       exact next g4 g5 hown ⟨g2,fun b hb=>⟨(g3 b hb).2.1,(g3 b hb).2.2,h0 b (g3 b hb).1⟩⟩ (fun b hb hc=>(g3 b hc).1 (hL.2 b hb).1) rfl hK
      ·
       obtain ⟨O1,hX,_⟩:=hf.rep h
       exact next (v:=.sl k f rows) h (Step.refl _ _ _) ((hX.plain rfl (by simp)) ▸ hX) loose0 (by simp) rfl hK
     | false =>
      rw[htk] at hs
      simp only[cond_false] at hs
      obtain ⟨f,rows,σ1,S1,who1,hK,h1,h2,h3⟩:=share_sem h (.ref _ _ _) hlx hs
      exact next (v:=.sl k f rows) h1 h3 h2 ⟨by simp,by simp⟩ (by simp) rfl hK
   ·
    cases hs
  ·
   rename_i r0 p hx
   rw[hx] at hlx
   split at hs
   ·
    rename_i cells hg
    obtain ⟨q,i,j',c,X,b,o,e2,hf,hb,hu⟩:=hlx
    have hq:q=[]∧i=0∧j'=0:=by
     cases q with
     | nil=>simp at e2;exact ⟨rfl,e2.1.symm,e2.2.symm⟩
     | cons z q=>simp at e2
    obtain ⟨rfl,rfl,rfl⟩:=hq
    have hu':argU a x=a.tmps.getD r0 undef:=by
     rw[hg] at hf
     generalize a.tmps.getD r0 undef=c0 at hf ⊢
     generalize hq:([]:Path)=q0 at hf
     cases hf with
     | nil=>cases hb with
      | box=>exact hu
     | _=>cases hq
    exact next (v:=.ptr r0 [(0,0)]) h (Step.refl _ _ _) (.ptr _ _ _) loose0 (by simp) ⟨rfl,hu'⟩ hs
   ·
    rename_i kd T e0 bs hg
    obtain ⟨q,i,j',c,X,b,o,e2,hf,hb,hu⟩:=hlx
    have hq:q=[]∧i=0∧j'=0:=by
     cases q with
     | nil=>simp at e2;exact ⟨rfl,e2.1.symm,e2.2.symm⟩
     | cons z q=>simp at e2
    obtain ⟨rfl,rfl,rfl⟩:=hq
    have hu':argU a x=a.tmps.getD r0 undef:=by
     rw[hg] at hf
     generalize a.tmps.getD r0 undef=c0 at hf ⊢
     generalize hq:([]:Path)=q0 at hf
     cases hf with
     | nil=>cases hb with
      | lib=>exact hu
     | _=>cases hq
    exact next (v:=.ptr r0 [(0,0)]) h (Step.refl _ _ _) (.ptr _ _ _) loose0 (by simp) ⟨rfl,hu'⟩ hs
   ·
    cases hs
  ·
   rename_i hx
   rw[hx] at hrx
   split at hs
   ·
    rename_i k b hk
    cases htk:tk.contains j with
    | true =>
     rw[htk] at hs
     exact next (v:=.own false k []) h (Step.refl _ _ _) (by generalize argU a x=u at hrx ⊢;cases hrx;exact .own0 _ _ _) loose0 (by simp) rfl hs
    | false =>
     rw[htk] at hs
     exact next (v:=.sl k true []) h (Step.refl _ _ _) (by generalize argU a x=u at hrx ⊢;cases hrx;exact .sl0 _ _ _ _ (by simp)) loose0 (by simp) rfl hs
   ·
    cases hs
  ·
   rename_i cs hx
   rw[hx] at hrx
   cases hg:goodCells cs with
   | false=>rw[hg] at hs;cases hs
   | true =>
    rw[hg] at hs
    exact next h (Step.refl _ _ _) hrx loose0 (by simp) rfl hs
  ·
   cases hg:simple (argV E σ x) with
   | false=>rw[hg] at hs;cases hs
   | true =>
    rw[hg] at hs
    obtain ⟨p1,p2,p3⟩:=simple_cont hg
    refine next h (Step.refl _ _ _) hrx loose0 (by simp) ?_ hs
    generalize argV E σ x=v at p3 ⊢
    cases v <;> first | exact p3 | cases p3
end
end Go.Zv
namespace Go.Zv
open Go
section
variable {R:Type} {P:Program} {E:Env} {r:R} {K:List V→Option R} {S S':Nat→Prop} {who who':Nat→Option Nat} {w w':World} {a:Act} {dst:Option Nat} {σ σ':List V}
def backOf:List V→List V→Nat→Option V
 | x::xs,y::ys,i=>match x with
  | .ptr r _ | .ref r _=>if r=i then some y else backOf xs ys i
  | _=>backOf xs ys i
 | _,_,_=>none
def cutBy:List V→V→Bool
 | [],_=>false
 | .ptr r _::xs,v=>gone true r 1 v||cutBy xs v
 | .ref r _::xs,v=>gone false r 0 v||cutBy xs v
 | _::xs,v=>cutBy xs v
theorem gone_undef {sl:Bool} {r d:Nat}:gone sl r d .ud=false:=by cases sl <;> rfl
theorem cut_undef:∀ xs:List V,cutBy xs .ud=false
 | []=>rfl
 | x::xs=>by cases x <;> simp[cutBy,gone_undef,cut_undef xs]
theorem cut_cont:∀ {xs:List V} {v:V},Cont v=true→cutBy xs v=false
 | [],_,_=>rfl
 | x::xs,v,h=>by
  have hg:∀ {sl:Bool} {r d:Nat},gone sl r d v=false:=fun {sl r d}=>by
   cases e:gone sl r d v with
   | false=>rfl
   | true=>rw[(gone_free e).1] at h;cases h
  cases x <;> simp[cutBy,hg,cut_cont (xs:=xs) h]
theorem restore_gt:∀ {xs ys:List V} {σ σ':List V},restore xs ys σ=some σ'→distinct (lent xs)=true→(∀ r∈lent xs,r<σ.length) →
  σ'.length=σ.length∧∀ i,gt σ' i=match backOf xs ys i with
   | some y=>y
   | none=>cond (cutBy xs (gt σ i)) .ud (gt σ i)
 | [],ys,σ,σ',hs,_,_=>by
  simp only[restore,Option.some.injEq] at hs
  subst hs
  exact ⟨rfl,fun i=>by simp[backOf,cutBy]⟩
 | x::xs,[],σ,σ',hs,_,_=>by simp[restore] at hs
 | x::xs,y::ys,σ,σ',hs,hd,hlt=>by
  have step:∀ {sl:Bool} {r d:Nat},lent (x::xs)=r::lent xs→Cont y=true→(∀ i,backOf (x::xs) (y::ys) i=if r=i then some y else backOf xs ys i)→(∀ v,cutBy (x::xs) v=(gone sl r d v||cutBy xs v)) →
    restore xs ys ((stored sl r d σ).set r y)=some σ'→σ'.length=σ.length∧∀ i,gt σ' i=match backOf (x::xs) (y::ys) i with
     | some y=>y
     | none=>cond (cutBy (x::xs) (gt σ i)) .ud (gt σ i):=by
   intro sl r d hl hy hb hc hs
   rw[hl] at hd hlt
   simp only[distinct,Bool.and_eq_true] at hd
   have hlen:((stored sl r d σ).set r y).length=σ.length:=by rw[List.length_set,stored_length]
   obtain ⟨h1,h2⟩:=restore_gt hs hd.2 (fun r' hr'=>by rw[hlen];exact hlt r' (by simp[hr']))
   refine ⟨by rw[h1,hlen],fun i=>?_⟩
   have hrl:r<σ.length:=hlt r (by simp)
   rw[h2 i,hb i,gt_set,stored_length,gt_stored]
   by_cases hri:r=i
   ·
    subst hri
    rw[if_pos rfl,if_pos ⟨rfl,hrl⟩]
    have hnone:backOf xs ys r=none:=by
     have hnot:r ∉ lent xs:=by
      intro hc
      have:=hd.1
      rw[List.contains_iff_mem.2 hc] at this;cases this
     have:∀ {xs ys:List V},r ∉ lent xs→backOf xs ys r=none:=by
      intro xs
      induction xs with
      | nil=>intro ys _;cases ys <;> rfl
      | cons z xs ih =>
       intro ys hn
       cases ys with
       | nil=>rfl
       | cons y ys =>
        cases z <;> simp only[backOf,lent,List.mem_cons,not_or] at hn ⊢ <;> first
         | exact ih hn
         | (rw[if_neg (Ne.symm hn.1)];exact ih hn.2)
     exact this hnot
    rw[hnone]
    simp only[cut_cont hy,cond_false]
   ·
    rw[if_neg hri,if_neg (fun h=>hri h.1)]
    cases hbo:backOf xs ys i with
    | some z=>rfl
    | none =>
     rw[hc]
     cases hg:gone sl r d (gt σ i) with
     | true=>simp[cut_undef]
     | false=>simp
  cases x
  case ptr r p =>
   cases y <;> first | (simp only[restore] at hs;cases hs;done) | skip
   case obox cells=>exact step (sl:=true) (r:=r) (d:=1) rfl rfl (fun _=>rfl) (fun _=>rfl) (by simpa[restore] using hs)
   case lib kd T e bs=>exact step (sl:=true) (r:=r) (d:=1) rfl rfl (fun _=>rfl) (fun _=>rfl) (by simpa[restore] using hs)
  case ref r p =>
   cases y <;> first | (simp only[restore] at hs;cases hs;done) | skip
   case own n k rows=>exact step (sl:=false) (r:=r) (d:=0) rfl rfl (fun _=>rfl) (fun _=>rfl) (by simpa[restore] using hs)
  all_goals
   obtain ⟨h1,h2⟩:=restore_gt (xs:=xs) (ys:=ys) (by simpa[restore] using hs) (by simpa[lent] using hd) (by simpa[lent] using hlt)
   exact ⟨h1,fun i=>by rw[h2 i];rfl⟩
def boxy:V→Prop
 | .obox _ | .lib ..=>True
 | _=>False
def BackCase (σ0 xs ys:List V) (i:Nat):Prop :=
  (i∈lent xs∧∃ Y,backOf xs ys i=some Y ∧
   ((boxy (gt σ0 i)∧boxy Y∧∀ v,cutBy xs v=false→gone true i 1 v=false) ∨
    (∃ n k rows n' k' rows',gt σ0 i=.own n k rows∧Y=.own n' k' rows'∧∀ v,cutBy xs v=false→gone false i 0 v=false))) ∨
  (i ∉ lent xs∧backOf xs ys i=none)
theorem restore_cases {σ0:List V}:∀ {xs ys:List V} {σ σ':List V},restore xs ys σ=some σ'→heldIn σ0 xs=true→∀ i,BackCase σ0 xs ys i
 | [],ys,σ,σ',hs,hh,i=>.inr ⟨by simp[lent],by cases ys <;> rfl⟩
 | x::xs,[],σ,σ',hs,hh,i=>by simp[restore] at hs
 | x::xs,y::ys,σ,σ',hs,hh,i=>by
  have hh':=hh
  simp only[heldIn,List.all_cons,Bool.and_eq_true] at hh
  obtain ⟨hx,hh⟩:=hh
  have cutR:∀ v,cutBy (x::xs) v=false→cutBy xs v=false:=by
   intro v hv
   cases x <;> simp only[cutBy,Bool.or_eq_false_iff] at hv <;> first | exact hv | exact hv.2
  have rest:∀ {σ1:List V},restore xs ys σ1=some σ'→backOf (x::xs) (y::ys) i=backOf xs ys i→(i∈lent (x::xs)↔i∈lent xs)→BackCase σ0 (x::xs) (y::ys) i:=fun {σ1} h1 h2 h3=>by
   rcases restore_cases h1 hh i with ⟨g1,Y,g2,g3⟩ | ⟨g1,g2⟩
   ·
    refine .inl ⟨h3.2 g1,Y,by rw[h2];exact g2,?_⟩
    rcases g3 with ⟨e1,e2,e3⟩ | ⟨n,k,rows,n',k',rows',e1,e2,e3⟩
    ·
     exact .inl ⟨e1,e2,fun v hv=>e3 v (cutR v hv)⟩
    ·
     exact .inr ⟨n,k,rows,n',k',rows',e1,e2,fun v hv=>e3 v (cutR v hv)⟩
   ·
    exact .inr ⟨fun h=>g1 (h3.1 h),by rw[h2];exact g2⟩
  cases x
  case ptr r p =>
   cases y <;> first | (simp only[restore] at hs;cases hs;done) | skip
   case obox cells' =>
    by_cases hri:r=i
    ·
     subst hri
     dsimp only at hx
     refine .inl ⟨by simp[lent],.obox cells',by simp[backOf],.inl ⟨?_,trivial,fun v hv=>?_⟩⟩
     ·
      cases hg:gt σ0 r <;> rw[hg] at hx <;> first | (cases hx;done) | trivial
     ·
      simp only[cutBy,Bool.or_eq_false_iff] at hv
      exact hv.1
    ·
     exact rest (by simpa[restore] using hs) (by simp[backOf,hri]) (by simp[lent,Ne.symm hri])
   case lib kd T e bs =>
    by_cases hri:r=i
    ·
     subst hri
     dsimp only at hx
     refine .inl ⟨by simp[lent],.lib kd T e bs,by simp[backOf],.inl ⟨?_,trivial,fun v hv=>?_⟩⟩
     ·
      cases hg:gt σ0 r <;> rw[hg] at hx <;> first | (cases hx;done) | trivial
     ·
      simp only[cutBy,Bool.or_eq_false_iff] at hv
      exact hv.1
    ·
     exact rest (by simpa[restore] using hs) (by simp[backOf,hri]) (by simp[lent,Ne.symm hri])
  case ref r p =>
   cases y <;> first | (simp only[restore] at hs;cases hs;done) | skip
   case own n' k' rows' =>
    by_cases hri:r=i
    ·
     subst hri
     dsimp only at hx
     cases hg:gt σ0 r <;> rw[hg] at hx <;> first | (cases hx;done) | skip
     case own n k rows =>
      refine .inl ⟨by simp[lent],_,by simp[backOf],.inr ⟨n,k,rows,n',k',rows',hg,rfl,fun v hv=>?_⟩⟩
      simp only[cutBy,Bool.or_eq_false_iff] at hv
      exact hv.1
    ·
     exact rest (by simpa[restore] using hs) (by simp[backOf,hri]) (by simp[lent,Ne.symm hri])
  all_goals exact rest (by simpa[restore] using hs) rfl Iff.rfl
def whoBack (xs:List V) (who wn:Nat→Option Nat) (b:Nat):Option Nat :=
 match wn b with
 | some i=>some i
 | none=>match who b with
  | some r=>if r∈lent xs then none else some r
  | none=>none
theorem Rel.swap {tm:Array Value} {xs ys:List V} {wn:Nat→Option Nat} (h:Rel E S who w tm σ) (hrest:restore xs ys σ=some σ') (hd:distinct (lent xs)=true) (hheld:heldIn σ xs=true)
  (hnew:∀ i y,backOf xs ys i=some y→∃ O,Rep S' w' (tm.getD i undef) y O∧O.Nodup∧∀ b∈O,wn b=some i)
  (hwn:∀ b i,wn b=some i→¬S' b∧b<w'.heap.size∧(who b=none∨∃ r∈lent xs,who b=some r))
  (hkeep:∀ b,b<w.heap.size→(∀ r∈lent xs,who b≠some r)→(S b∨who b≠none)→w'.heap[b]?=w.heap[b]?)
  (hsz:w.heap.size≤w'.heap.size) (hS:∀ b,S b→S' b) (hS':∀ b,S' b→who b=none∨∃ r∈lent xs,who b=some r) (hlow:∀ b,S' b→b<w'.heap.size) :
  Rel E S' (whoBack xs who wn) w' tm σ':=by
 have hcase:=restore_cases hrest hheld
 have hlt:∀ r∈lent xs,r<σ.length:=by
  intro r hr
  refine Nat.lt_of_not_le fun hc=>?_
  have h0:=gt_len hc
  rcases hcase r with ⟨_,Y,_,⟨e,_⟩ | ⟨n,k,rows,n',k',rows',e,_⟩⟩ | ⟨g,_⟩
  ·
   rw[h0] at e;exact e.elim
  ·
   rw[e] at h0;cases h0
  ·
   exact g hr
 obtain ⟨hlen,hgt⟩:=restore_gt hrest hd hlt
 have hSk:∀ b,S b→w'.heap[b]?=w.heap[b]?:=fun b hb=>hkeep b (h.low b hb) (fun r _=>by rw[h.sep b hb];simp) (.inl hb)
 have hownk:∀ i b,i ∉ lent xs→who b=some i→w'.heap[b]?=w.heap[b]?:=fun i b hi hb=>hkeep b (h.lowO b i hb) (fun r hr e=>by rw[hb] at e;cases e;exact hi hr) (.inr (by rw[hb];simp))
 have hwho:∀ b i,i ∉ lent xs→who b=some i→whoBack xs who wn b=some i:=by
  intro b i hi hb
  unfold whoBack
  cases e:wn b with
  | some j =>
   rcases (hwn b j e).2.2 with h1 | ⟨r,hr,h1⟩
   ·
    rw[hb] at h1;cases h1
   ·
    rw[hb] at h1;cases h1;exact absurd hr hi
  | none=>simp[hb,hi]
 have hroot:∀ x,cutBy xs x=false→∀ y∈links x,∀ r q i j c Y,pathOf y=some (r,q++[(i,j)])→Follow w (tm.getD r undef) (gt σ r) q c Y→Cont Y=true →
   ∃ Y',Follow w' (tm.getD r undef) (gt σ' r) q c Y'∧(∀ i b o,Base c Y i b o→Base c Y' i b o)∧(isRef y→CellKeep w w' c Y Y'):=by
  intro x hx y hy r q i j c Y hp hfY hcY
  rcases hcase r with ⟨hr,Z,hZ,⟨e1,e2,e3⟩ | ⟨n,k,rows,n',k',rows',e1,e2,e3⟩⟩ | ⟨hr,hn⟩
  ·
   have hg:=e3 x hx
   have hq:=stale1_path (stale_links (gone_stale hg) y hy) hp
   have hq0:q=[]:=List.length_eq_zero_iff.1 (by omega)
   subst hq0
   obtain ⟨rfl,rfl⟩:c=tm.getD r undef∧Y=gt σ r:=by
    generalize tm.getD r undef=u0 at hfY ⊢
    generalize gt σ r=x0 at hfY ⊢
    cases hfY;exact ⟨rfl,rfl⟩
   refine ⟨Z,by rw[hgt r,hZ];exact .nil _ _,fun i0 b o hb=>?_,fun hry=>?_⟩
   ·
    generalize tm.getD r undef=u0 at hb ⊢
    generalize gt σ r=x0 at hb e1
    cases hb
    ·
     exact e1.elim
    ·
     cases Z <;> first | exact e2.elim | exact .box | exact .lib
    ·
     cases Z <;> first | exact e2.elim | exact .box | exact .lib
   ·
    have:=refAt_links (gone_refAt rfl hg) y hy
    cases y <;> try exact hry.elim
    simp only[pathOf,Option.some.injEq,Prod.mk.injEq] at hp
    obtain ⟨rfl,rfl⟩:=hp
    simp[refAt1] at this
  ·
   have hq:=stale1_path (stale_links (gone_stale (e3 x hx)) y hy) hp
   omega
  ·
   obtain ⟨P,hP,_,hoP⟩:=h.rep r
   have hall:∀ b∈P,w'.heap[b]?=w.heap[b]?:=fun b hb=>hownk r b hr (hoP b hb)
   have hcr:Cont (gt σ r)=true:=by
    cases q with
    | nil =>
     have:Y=gt σ r:=by
      generalize tm.getD r undef=u0 at hfY
      generalize gt σ r=g0 at hfY ⊢
      cases hfY;rfl
     rw[←this];exact hcY
    | cons z q=>exact hfY.cont (by simp)
   have hg0:gt σ' r=gt σ r:=by rw[hgt r,hn];simp[cut_cont hcr]
   refine ⟨Y,by rw[hg0];exact hfY.mono hP hall,fun i b o hb=>hb,fun _=>⟨fun j hj=>hj,fun i j b o hb hj hs=>⟨hs,?_⟩⟩⟩
   obtain ⟨A',OX',B',e',hX0,_⟩:=hP.focusA hfY
   exact cell?_of_heap (hall b (by rw[e'];simp[hb.owned hX0]))
 have hroot0:∀ r,isSlice (gt σ' r)→isSlice (gt σ r):=by
  intro r hs
  rw[hgt r] at hs
  rcases hcase r with ⟨hr,Z,hZ,⟨e1,e2,e3⟩ | ⟨n,k,rows,n',k',rows',e1,e2,e3⟩⟩ | ⟨hr,hn⟩
  ·
   rw[hZ] at hs;cases Z <;> first | exact e2.elim | exact hs.elim
  ·
   rw[e1];trivial
  ·
   rw[hn] at hs
   revert hs
   cases cutBy xs (gt σ r) with
   | false=>exact id
   | true=>exact fun h=>h.elim
 refine ⟨by rw[hlen,h.size],fun i=>?_,fun b hb=>?_,hlow,fun b i hb=>?_,fun i=>?_,fun g cs hg=>?_⟩
 ·
  rw[hgt i]
  rcases hcase i with ⟨hi,Z,hZ,_⟩ | ⟨hi,hn⟩
  ·
   rw[hZ]
   obtain ⟨O,h1,h2,h3⟩:=hnew i Z hZ
   exact ⟨O,h1,h2,fun b hb=>by simp[whoBack,h3 b hb]⟩
  ·
   rw[hn]
   dsimp only
   cases cutBy xs (gt σ i) with
   | true=>exact ⟨[],.ud _,by simp,by simp⟩
   | false =>
    obtain ⟨P,hP,hnP,hoP⟩:=h.rep i
    exact ⟨P,hP.mono hS hSk fun b hb=>hownk i b hi (hoP b hb),hnP,fun b hb=>hwho b i hi (hoP b hb)⟩
 ·
  have hnone:wn b=none:=by
   cases e:wn b with
   | none=>rfl
   | some j=>exact absurd hb (hwn b j e).1
  unfold whoBack
  rw[hnone]
  rcases hS' b hb with h1 | ⟨r,hr,h1⟩
  ·
   rw[h1]
  ·
   rw[h1];simp[hr]
 ·
  unfold whoBack at hb
  cases e:wn b with
  | some j=>exact (hwn b j e).2.1
  | none =>
   rw[e] at hb
   cases e2:who b with
   | none=>rw[e2] at hb;cases hb
   | some j=>exact Nat.lt_of_lt_of_le (h.lowO b j e2) hsz
 ·
  rw[hgt i]
  rcases hcase i with ⟨hi,Z,hZ,⟨e1,e2,e3⟩ | ⟨n,k,rows,n',k',rows',e1,e2,e3⟩⟩ | ⟨hi,hn⟩
  ·
   rw[hZ];cases Z <;> first | exact e2.elim | trivial
  ·
   rw[hZ,e2];trivial
  ·
   rw[hn]
   dsimp only
   cases e:cutBy xs (gt σ i) with
   | true=>exact link_undef ..
   | false=>exact (h.link i).keep (hroot _ e) (fun y _ r0 _=>⟨hroot0 r0,rfl⟩)
 ·
  exact (h.glob g cs hg).mono hS hSk
end
end Go.Zv
namespace Go.Zv
open Go
section
variable {R:Type} {P:Program} {E:Env} {r:R} {K:List V→Option R} {S S':Nat→Prop} {who who':Nat→Option Nat} {w w':World} {a:Act} {dst:Option Nat} {σ σ':List V}
theorem distinct_cons {x:Nat} {xs:List Nat} (h:distinct (x::xs)=true):x ∉ xs∧distinct xs=true:=by
 simp only[distinct,Bool.and_eq_true,Bool.not_eq_true'] at h
 refine ⟨fun hc=>?_,h.2⟩
 rw[List.contains_iff_mem.2 hc] at h
 exact absurd h.1 (by simp)
theorem back_wn {tm:Array Value}:∀ {xs:List V} {us:List Value} {ys:List V} {O:List Nat},Reps S' w' us ys O→O.Nodup→(∀ y∈us.zip xs,LentOK tm y.1 y.2)→distinct (lent xs)=true →
  ∃ wn:Nat→Option Nat,(∀ i y,backOf xs ys i=some y→∃ O,Rep S' w' (tm.getD i undef) y O∧O.Nodup∧∀ b∈O,wn b=some i)∧∀ b i,wn b=some i→b∈O∧i∈lent xs
 | [],us,ys,O,h,hn,hok,hd=>⟨fun _=>none,by intro i y hb;cases ys <;> simp[backOf] at hb,by simp⟩
 | x::xs,_,_,_,.nil,hn,hok,hd=>⟨fun _=>none,by intro i y hb;simp[backOf] at hb,by simp⟩
 | x::xs,u::us,y::ys,_,.cons (O1:=O1) (O2:=O2) h1 h2,hn,hok,hd=>by
  rw[List.nodup_append] at hn
  obtain ⟨hn1,hn2,hdis⟩:=hn
  have hdl:distinct (lent xs)=true:=by
   cases x <;> first | exact hd | exact (distinct_cons hd).2
  obtain ⟨wn,g1,g2⟩:=back_wn h2 hn2 (fun z hz=>hok z (by simp[hz])) hdl
  have h0:=hok (u,x) (by simp)
  have step:∀ {r:Nat},lent (x::xs)=r::lent xs→u=tm.getD r undef→(∀ i,backOf (x::xs) (y::ys) i=if r=i then some y else backOf xs ys i) →
    ∃ wn:Nat→Option Nat,(∀ i y',backOf (x::xs) (y::ys) i=some y'→∃ O,Rep S' w' (tm.getD i undef) y' O∧O.Nodup∧∀ b∈O,wn b=some i)∧∀ b i,wn b=some i→b∈O1++O2∧i∈lent (x::xs):=by
   intro r hl hu hb
   refine ⟨fun b=>if b∈O1 then some r else wn b,fun i y' hy=>?_,fun b i hbi=>?_⟩
   ·
    rw[hb i] at hy
    by_cases hri:r=i
    ·
     subst hri
     rw[if_pos rfl,Option.some.injEq] at hy
     subst hy
     exact ⟨O1,by rw[←hu];exact h1,hn1,fun b hb=>by simp[hb]⟩
    ·
     rw[if_neg hri] at hy
     obtain ⟨O,k1,k2,k3⟩:=g1 i y' hy
     refine ⟨O,k1,k2,fun b hb=>?_⟩
     have h3:=k3 b hb
     have h4:b ∉ O1:=fun hc=>hdis b hc b (g2 b i h3).1 rfl
     simp[h4,h3]
   ·
    by_cases h4:b∈O1
    ·
     simp only[h4,if_true,Option.some.injEq] at hbi
     subst hbi
     exact ⟨by simp[h4],by rw[hl];simp⟩
    ·
     simp only[h4,if_false] at hbi
     obtain ⟨k1,k2⟩:=g2 b i hbi
     exact ⟨by simp[k1],by rw[hl];simp[k2]⟩
  cases x
  case ptr r p=>exact step rfl h0.2 (fun _=>rfl)
  case ref r p=>exact step rfl h0.2 (fun _=>rfl)
  all_goals exact ⟨wn,g1,fun b i hb=>⟨by simp[(g2 b i hb).1],(g2 b i hb).2⟩⟩
theorem lend_reps {tm:Array Value} (h:Rel E S who w tm σ):∀ {us:List Value} {xs:List V} {O:List Nat},Reps S w us xs O→O.Nodup→(∀ b∈O,who b=none)→(∀ y∈us.zip xs,LentOK tm y.1 y.2)→distinct (lent xs)=true →
  ∃ O2,Reps S w us (lend σ xs) O2∧O2.Nodup∧∀ b∈O2,b∈O∨∃ r∈lent xs,who b=some r
 | _,_,_,.nil,_,_,_,_=>⟨[],.nil,by simp,by simp⟩
 | u::us,x::xs,_,.cons (O1:=O1) (O2:=O2) h1 h2,hn,hO,hok,hd=>by
  rw[List.nodup_append] at hn
  obtain ⟨hn1,hn2,hdis⟩:=hn
  have hdl:distinct (lent xs)=true:=by
   cases x <;> first | exact hd | exact (distinct_cons hd).2
  obtain ⟨O3,g1,g2,g3⟩:=lend_reps h h2 hn2 (fun b hb=>hO b (by simp[hb])) (fun z hz=>hok z (by simp[hz])) hdl
  have h0:=hok (u,x) (by simp)
  have stepL:∀ {r:Nat},lent (x::xs)=r::lent xs→lend σ (x::xs)=gt σ r::lend σ xs→u=tm.getD r undef →
    ∃ O2',Reps S w (u::us) (lend σ (x::xs)) O2'∧O2'.Nodup∧∀ b∈O2',b∈O1++O2∨∃ r∈lent (x::xs),who b=some r:=by
   intro r hl hle hu
   obtain ⟨Or,k1,k2,k3⟩:=h.rep r
   rw[hl] at hd
   have hnr:=(distinct_cons hd).1
   rw[hle,hl]
   refine ⟨Or++O3,.cons (by rw[hu];exact k1) g1,List.nodup_append.2 ⟨k2,g2,fun b hb c hc e=>?_⟩,fun b hb=>?_⟩
   ·
    subst e
    have hw:=k3 b hb
    rcases g3 b hc with h4 | ⟨r',hr',h4⟩
    ·
     rw[hO b (by simp[h4])] at hw;cases hw
    ·
     rw[hw] at h4;cases h4;exact hnr hr'
   ·
    rcases List.mem_append.1 hb with hb | hb
    ·
     exact .inr ⟨r,by simp,k3 b hb⟩
    ·
     rcases g3 b hb with h4 | ⟨r',hr',h4⟩
     ·
      exact .inl (by simp[h4])
     ·
      exact .inr ⟨r',by simp[hr'],h4⟩
  have stepN:lent (x::xs)=lent xs→lend σ (x::xs)=x::lend σ xs →
    ∃ O2',Reps S w (u::us) (lend σ (x::xs)) O2'∧O2'.Nodup∧∀ b∈O2',b∈O1++O2∨∃ r∈lent (x::xs),who b=some r:=by
   intro hl hle
   rw[hl,hle]
   refine ⟨O1++O3,.cons h1 g1,List.nodup_append.2 ⟨hn1,g2,fun b hb c hc e=>?_⟩,fun b hb=>?_⟩
   ·
    subst e
    rcases g3 b hc with h4 | ⟨r',hr',h4⟩
    ·
     exact hdis b hb b h4 rfl
    ·
     rw[hO b (by simp[hb])] at h4;cases h4
   ·
    rcases List.mem_append.1 hb with hb | hb
    ·
     exact .inl (by simp[hb])
    ·
     rcases g3 b hb with h4 | ⟨r',hr',h4⟩
     ·
      exact .inl (by simp[h4])
     ·
      exact .inr ⟨r',hr',h4⟩
  cases x
  case ptr r p=>exact stepL rfl rfl h0.2
  case ref r p=>exact stepL rfl rfl h0.2
  all_goals exact stepN rfl rfl
theorem resOk_link {u:Value} {v:V} {O:List Nat} {tm:Array Value} (hr:Rep S w u v O) (h:resOk v=true):Link w tm σ u v:=by
 cases v <;> first | trivial | (simp only[resOk] at h;exact hr.link (by simp only[simple] at h;exact h)) | cases h
theorem call_lent {o:Oper} {c:Call} {f:Operand} {g:Nat} {caps:List V} {tys:List (Option TI)} {tk tn:List Nat} {Q:Exit→Act→World→Prop} (hC:CallOK P E) (h:Rel E S who w a.tmps σ) (hop:o.op=.call c) (hc:c.callee=.value f) (hx:opnd E σ f=.fn g caps)
  (hs:evArgs E tk tn ((callArgs c f caps.length).zip (tys++List.replicate ((callArgs c f caps.length).length-tys.length) none)) 0 [] σ (fun vals σ' =>
   cond (distinct (lent vals)&&heldIn σ' vals) (E.call g (lend σ' vals) fun res outs =>
    match restore vals outs σ' with
     | some σ''=>cond (resOk res) (K (put o.dst res σ'')) none
     | none=>none) none)=some r):o.wp P a w (Post E r K S who w a) Q:=by
 obtain ⟨cs,hf,hn⟩:=fn_val h hx
 obtain ⟨vals,σ1,S1,who1,O,hG,h1,hst,hreps,hL,hok⟩:=evArgs_sem (a:=a) (who0:=who) tk tn _ [] h (by simpa using Reps.nil) (O:=[]) ⟨by simp,by simp⟩ (fun b hb=>hb) (by simp) hs
 simp only[List.reverse_nil,List.map_nil,List.nil_append] at hreps hok
 dsimp only at hG
 have hvals:(((callArgs c f caps.length).zip (tys++List.replicate ((callArgs c f caps.length).length-tys.length) none)).map fun y=>argU a y.1)=(c.args.map a.eval++cs).toList:=by
  rw[←callArgs_vals hf hn]
  have:=congrArg (List.map (argU a)) (zip_fst (xs:=callArgs c f caps.length) (ys:=tys++List.replicate ((callArgs c f caps.length).length-tys.length) none) (by simp;omega))
  rw[List.map_map] at this
  exact this
 rw[hvals] at hreps hok
 cases hd:distinct (lent vals) with
 | false=>rw[hd] at hG;cases hG
 | true =>
 cases hheld:heldIn σ1 vals with
 | false=>rw[hd,hheld] at hG;cases hG
 | true =>
 rw[hd,hheld] at hG
 simp only[Bool.and_true,cond_true] at hG
 obtain ⟨res,outs,hG,hdoes⟩:=hC _ _ _ _ _ hG
 cases hrest:restore vals outs σ1 with
 | none=>rw[hrest] at hG;cases hG
 | some σ2 =>
 rw[hrest] at hG
 cases hrk:resOk res with
 | false=>rw[hrk] at hG;cases hG
 | true =>
 rw[hrk] at hG
 simp only[cond_true] at hG
 obtain ⟨O2,hr2,hn2,hO2⟩:=lend_reps h1 hreps hL.1 (fun b hb=>(hL.2 b hb).1) hok hd
 have hapart:∀ b∈O2,¬S1 b:=fun b hb hs1=>by
  rcases hO2 b hb with h3 | ⟨r',_,h3⟩
  ·
   exact (hL.2 b h3).2.1 hs1
  ·
   rw[h1.sep b hs1] at h3;cases h3
 have hgo:=hdoes S1 w _ O2 ⟨hr2,hn2,hapart,h1.low,h1.glob⟩
 rw[Array.toArray_toList] at hgo
 refine wp_goes hop hc hf hgo fun v w' hT=>?_
 obtain ⟨S',Or,Oo,hB⟩:=hT
 have hnd:=List.nodup_append.1 hB.nodup
 obtain ⟨wn,k1,k2⟩:=back_wn hB.outs hnd.2.1 hok hd
 have hfrom:∀ b∈O2,who b≠none:=fun b hb=>by
  rcases hO2 b hb with h3 | ⟨r',_,h3⟩
  ·
   exact (hL.2 b h3).2.2
  ·
   rcases hst.own b (by rw[h3];simp) with h4 | h4
   ·
    exact h4
   ·
    have:=h1.lowO b r' h3;omega
 have hnew0:∀ b,w.heap.size≤b→who1 b=none:=fun b hb=>by
  cases e:who1 b with
  | none=>rfl
  | some x=>have:=h1.lowO b x e;omega
 have hlentO:∀ b∈O2,who1 b=none∨∃ r∈lent vals,who1 b=some r:=fun b hb=>by
  rcases hO2 b hb with h3 | h3
  ·
   exact .inl (hL.2 b h3).1
  ·
   exact .inr h3
 have hrel:Rel E S' (whoBack vals who1 wn) w' a.tmps σ2:=by
  refine h1.swap hrest hd hheld k1 (fun b i hb=>?_) (fun b hb hnl hso=>?_) hB.size hB.sub (fun b hb=>?_) hB.low
  ·
   obtain ⟨hbo,hi⟩:=k2 b i hb
   obtain ⟨h3,h4⟩:=hB.apart b (by simp[hbo])
   refine ⟨h3,hB.outs.low b hbo,?_⟩
   rcases h4 with h4 | h4
   ·
    exact hlentO b h4
   ·
    exact .inl (hnew0 b h4)
  ·
   refine hB.keep b hb fun hc=>?_
   rcases hO2 b hc with h3 | ⟨r',hr',h3⟩
   ·
    rcases hso with h4 | h4
    ·
     exact (hL.2 b h3).2.1 h4
    ·
     exact h4 (hL.2 b h3).1
   ·
    exact hnl r' hr' h3
  ·
   rcases hB.new b hb with h3 | h3 | h3
   ·
    exact .inl (h1.sep b h3)
   ·
    exact hlentO b h3
   ·
    exact .inl (hnew0 b h3)
 have hstep:Step S who w S' (whoBack vals who1 wn) w':=by
  refine ⟨hB.size,fun b hb hnb=>hB.keep b hb fun hc=>hfrom b hc hnb,fun b hb=>hB.sub b (hst.sub b hb),fun b hb=>?_,fun b hb=>?_,hB.same⟩
  ·
   rcases hB.new b hb with h3 | h3 | h3
   ·
    exact hst.new b h3
   ·
    exact .inr (.inl (hfrom b h3))
   ·
    exact .inr (.inr h3)
  ·
   unfold whoBack at hb
   cases e:wn b with
   | some i =>
    rcases (hB.apart b (by simp[(k2 b i e).1])).2 with h4 | h4
    ·
     exact .inl (hfrom b h4)
    ·
     exact .inr h4
   | none =>
    rw[e] at hb
    refine hst.own b fun hc=>?_
    rw[hc] at hb
    exact hb rfl
 obtain ⟨u,w2,σ3,S2,who2,e1,e2,e3,e4⟩:OutV E r K S who w a o.dst (.ok v w') :=
  outv_put rfl hrel hstep hB.res hnd.1 (fun b hb=>by
   obtain ⟨h3,h4⟩:=hB.apart b (by simp[hb])
   refine ⟨⟨?_,h3⟩,h4.imp (hfrom b) id⟩
   have hwn:wn b=none:=by
    cases e:wn b with
    | none=>rfl
    | some i=>exact absurd rfl (hnd.2.2 b hb b (k2 b i e).1)
   unfold whoBack
   rw[hwn]
   rcases h4 with h4 | h4
   ·
    rcases hlentO b h4 with h5 | ⟨r',hr',h5⟩
    ·
     rw[h5]
    ·
     rw[h5];simp[hr']
   ·
    rw[hnew0 b h4]) (resOk_link hB.res hrk) hG
 cases e1
 exact ⟨σ3,S2,who2,e2,e3,e4,put_defers _ _ _⟩
theorem oper_sound {o:Oper} {Q:Exit→Act→World→Prop} (hE:EnvOK P E) (hC:CallOK P E) (h:Rel E S who w a.tmps σ) (hs:evOp E o σ K=some r):o.wp P a w (Post E r K S who w a) Q:=by
 refine evOp_sound hE h hs fun c f g caps hop hc hx hcall=>?_
 unfold evCall at hcall
 cases hfl:E.flat g with
 | true =>
  rw[hfl] at hcall
  exact Oper.wp_mono (fun _ _ h=>h.1) (call_flat hC h hop hc hx hcall)
 | false =>
  rw[hfl] at hcall
  exact call_lent hC h hop hc hx hcall
end
end Go.Zv
