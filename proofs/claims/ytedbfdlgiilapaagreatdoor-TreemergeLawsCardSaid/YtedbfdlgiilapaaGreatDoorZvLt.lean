/- Zv: a pure interpreter of the translated code over values, and that it is right. No condition. -/
import Derived.Test.YtedbfdlgiilapaaGreatDoorZvL6
import Derived.Sort.OwnSorted
import Derived.Lib.SlicesCompact
import Derived.Sort.Walk0
set_option linter.unusedSimpArgs false
set_option linter.unusedVariables false
namespace Go.Zv
open Go Go.RowKit Go.Proofs
def strRows:List (List V)→Option (List (List UInt8))
 | []=>some []
 | r::rs=>match r with
  | [.str s]=>(strRows rs).bind fun l=>some (s::l)
  | _=>none
def sortS (l:List (List UInt8)):List (List UInt8):=l.mergeSort fun x y=>decide (x≤y)
def primSortS:List V→Option (V×List V)
 | [.own false 1 rows]=>if rows.length≤lim then (strRows rows).bind fun ss=>some (.tup [],[.own false 1 ((sortS ss).map fun s=>[.str s])]) else none
 | _=>none
theorem strRows_eq:∀ {rows:List (List V)} {ss:List (List UInt8)},strRows rows=some ss→rows=ss.map fun s=>[.str s]
 | [],ss,h=>by cases h;rfl
 | r::rs,ss,h=>by
  unfold strRows at h
  split at h
  ·
   obtain ⟨l,h1,h2⟩:=Option.bind_eq_some_iff.1 h
   cases h2
   rw[strRows_eq h1];rfl
  ·
   cases h
theorem strRows_map:∀ l:List (List UInt8),strRows (l.map fun s=>[V.str s])=some l
 | []=>rfl
 | s::l=>by
  show (strRows (l.map fun s=>[V.str s])).bind _=_
  rw[strRows_map l];rfl
theorem str_reps {S:Nat→Prop} {w:World}:∀ {ss:List (List UInt8)} {vs:List Value},Reps S w vs (ss.map V.str) []→vs=ss.map encStr
 | [],vs,h=>by cases h;rfl
 | s::ss,vs,h=>by
  generalize hO:([]:List Nat)=O at h
  cases h with
  | cons h1 h2 =>
   obtain ⟨e1,e2⟩:=List.append_eq_nil_iff.1 hO.symm
   subst e1;subst e2
   rw[str_reps h2]
   cases h1 with
   | str b=>simp[encStr]
theorem reps_str (S:Nat→Prop) (w:World):∀ ss:List (List UInt8),Reps S w (ss.map encStr) (ss.map V.str) []
 | []=>.nil
 | s::ss=>by simpa using Reps.cons (O1:=[]) (O2:=[]) (show Rep S w (encStr s) (.str s) [] from by simpa[encStr] using Rep.str (S:=S) (w:=w) ⟨s.toArray⟩) (reps_str S w ss)
theorem sortS_len (l:List (List UInt8)):(sortS l).length=l.length:=by simp[sortS]
theorem map_str (ss:List (List UInt8)):(ss.map fun s=>([.str s]:List V)).flatten=ss.map V.str:=by
 induction ss with
 | nil=>rfl
 | cons s ss ih=>simp[ih]
section
variable {P:Program} {G:Nat→Option (List V)}
theorem heap_putS {w:World} {b o n:Nat} {d:Array (List UInt8)} {os:Array Obj} {b':Nat} (hb:b'<w.heap.size) (hne:b'≠b):(Go.Sort.grow (Go.Sort.putRow encStr (Go.Sort.ahead w n) b o d) os).heap[b']?=w.heap[b']?:=by
 unfold Go.Sort.grow Go.Sort.putRow Go.Sort.mapBlock Go.Sort.ahead
 simp only
 rw[Array.getElem?_append_left (by simpa using hb),Array.getElem?_modify,if_neg (fun e=>hne e.symm)]
theorem block_putS {w:World} {b o n:Nat} {d:Array (List UInt8)} {os:Array Obj} {cs:Array Value} {e:TypeId} {fr:Nat×Nat} (h1:w.heap[b]?=some (.cells cs e fr)) :
  (Go.Sort.grow (Go.Sort.putRow encStr (Go.Sort.ahead w n) b o d) os).heap[b]?=some (.cells (Go.Sort.putCells encStr o d cs) e fr):=by
 have hb:=lt_of_some h1
 unfold Go.Sort.grow Go.Sort.putRow Go.Sort.mapBlock Go.Sort.ahead
 simp only
 rw[Array.getElem?_append_left (by simpa using hb),Array.getElem?_modify,if_pos rfl,h1]
 rfl
theorem open_putS {w:World} {k b o n N:Nat} {d:Array (List UInt8)} {os:Array Obj} (h:OpenRow k w b N):OpenRow k (Go.Sort.grow (Go.Sort.putRow encStr (Go.Sort.ahead w n) b o d) os) b N:=by
 obtain ⟨cs,e,lo,hi,h1,h2,h3⟩:=h
 exact ⟨Go.Sort.putCells encStr o d cs,e,lo,hi,block_putS h1,by simpa[Go.Sort.putCells] using h2,by simpa[Go.Sort.putCells] using h3⟩
theorem not_frozen1 {w:World} {k n b:Nat} (h:OpenRow k w b n):∀ x,x<n→w.frozen? ⟨b,x,none⟩=false:=by
 obtain ⟨cs,e,lo,hi,h1,h2,h3⟩:=h
 intro x hx
 simp only[World.frozen?,h1,Bool.and_eq_false_imp,decide_eq_true_eq,decide_eq_false_iff_not]
 rcases h3 with rfl | ⟨_,h3⟩ <;> omega
theorem sortS_ok {f:Nat} {args outs:List V} {res:V} (he:∀ (vs:Array Value) (w:World),(callFunc f vs).run P w=.ok (.enter f vs) w)
  (hsort:∀ (b o c:Nat) (ss:List (List UInt8)) (w:World),Go.Sort.Holds encStr w b o ss.toArray→b<w.heap.size→ss.length<4611686018427387904 →
   Calls P f #[.slice (some ⟨b,o,none⟩) ss.length c] w fun e w'=>e=.returned (.tuple #[])∧∃ n os,w'=Go.Sort.grow (Go.Sort.putRow encStr (Go.Sort.ahead w n) b o (ss.mergeSort fun x y=>decide (x≤y)).toArray) os)
  (hnone:∀ (a:Option Addr) (w:World),Calls P f #[.slice a 0 0] w fun e w'=>e=.returned (.tuple #[])∧w'=w)
  (h:primSortS args=some (res,outs)):Does P G f args res outs:=by
 unfold primSortS at h
 split at h
 ·
  rename_i rows
  split at h
  ·
   rename_i hlim
   obtain ⟨ss,hss,h⟩:=Option.bind_eq_some_iff.1 h
   simp only[Option.some.injEq,Prod.mk.injEq] at h
   obtain ⟨rfl,rfl⟩:=h
   have hrows:=strRows_eq hss
   have hsl:ss.length=rows.length:=by rw[hrows];simp
   intro S w vs O hG
   obtain ⟨u1,O1,rfl,rfl,r1⟩:∃ u O1,vs=[u]∧O=O1∧Rep S w u (.own false 1 rows) O1:=by
    have:=hG.rep
    cases this with
    | cons q1 q2=>cases q2;exact ⟨_,_,rfl,by simp,q1⟩
   cases r1 with
   | own0 a _ _ =>
    have:ss=[]:=List.eq_nil_of_length_eq_zero (by rw[hsl];rfl)
    subst this
    refine .inl ⟨he _ _,(hnone a w).mono fun e w' ⟨s1,s2⟩=>⟨_,s1,?_⟩⟩
    subst s2
    exact ⟨S,[],[],.tup .nil,.cons (O1:=[]) (O2:=[]) (by rw[show ((sortS []).map fun s=>([V.str s]:List V))=[] by simp[sortS]];exact .own0 _ _ _) .nil,by simp,by simp,Nat.le_refl _,fun _ h=>h,fun _ h=>.inl h,hG.low,fun _ _ _=>rfl,Same.refl _⟩
   | @own b o c _ _ _ O h1 h2 h3 h4 h5 h6 =>
    have:=h5 rfl
    subst this
    obtain ⟨vs,g1,g2,g3⟩:=h6.vals
    rw[hrows,map_str] at g1
    have hvs:=str_reps g1
    subst hvs
    have hblt:b<w.heap.size:=by obtain ⟨cs,e,lo,hi,q1,_⟩:=h3;exact lt_of_some q1
    have hH:Go.Sort.Holds encStr w b o ss.toArray:=by
     intro j hj
     have hj':j<ss.length:=by simpa using hj
     refine ⟨?_,not_frozen1 h3 _ (by omega)⟩
     have:=g3 j (encStr ss[j]) (by simp[hj'])
     rw[this]
     simp[hj']
    refine .inl ⟨he _ _,?_⟩
    have hcall:=hsort b o c ss w hH hblt (by rw[hsl];unfold lim at hlim;omega)
    rw[hsl] at hcall
    refine hcall.mono fun e w' ⟨t1,n,os,t4⟩=>⟨_,t1,?_⟩
    have hkeep:∀ b',b'<w.heap.size→b' ∉ [b]++[]→w'.heap[b']?=w.heap[b']?:=fun b' hb' hn=>by
     rw[t4];exact heap_putS hb' fun e=>hn (by simp[e])
    have hsize:w.heap.size≤w'.heap.size:=by rw[t4];simp
    have hat':At w' b o ((sortS ss).map encStr):=by
     have hH':Go.Sort.Holds encStr w' b o (sortS ss).toArray:=by
      rw[t4]
      refine Go.Sort.holds_grow encStr _ os b o _ (by simpa using hblt) (Go.Sort.holds_putRow encStr _ b o ss.toArray _ (Go.Sort.holds_ahead encStr w n b o _ hH) (by simp))
     intro j hj
     have hj':j<(sortS ss).length:=by simpa using hj
     rw[(hH' j (by simpa using hj')).1]
     simp[hj']
    have hmem:Mem S w' b o ((sortS ss).map V.str) []:=Mem.fresh (reps_str S w' (sortS ss)) (by intro v hv;obtain ⟨s,_,rfl⟩:=List.mem_map.1 hv;rfl) hat'
    have hown:Rep S w' (.slice (some ⟨b,o,none⟩) rows.length c) (.own false 1 ((sortS ss).map fun s=>[.str s])) [b]:=by
     have hl':((sortS ss).map fun s=>([.str s]:List V)).length=rows.length:=by rw[List.length_map,sortS_len,hsl]
     have:=Rep.own (S:=S) (w:=w') (b:=b) (o:=o) (c:=c) (k:=1) (n:=false) (rows:=(sortS ss).map fun s=>[.str s]) (O:=[]) h1 (fun r hr=>by obtain ⟨s,_,rfl⟩:=List.mem_map.1 hr;rfl) (by rw[t4];exact open_putS h3) (by rw[hl'];exact h4) (fun _=>rfl) (by rw[map_str];exact hmem)
     rwa [hl'] at this
    refine ⟨S,[],[b],.tup .nil,.cons (O1:=[b]) (O2:=[]) hown .nil,by simp,fun b' hb'=>?_,hsize,fun _ h=>h,fun _ h=>.inl h,fun b' hb'=>Nat.lt_of_lt_of_le (hG.low b' hb') hsize,hkeep,?_⟩
    ·
     simp only[List.nil_append,List.mem_singleton] at hb'
     subst hb'
     exact ⟨fun h=>hG.apart b' (by simp) h,.inl (by simp)⟩
    ·
     rw[t4];exact ⟨rfl,rfl,rfl⟩
  ·
   cases h
 ·
  cases h
def uniqGo (p:List UInt8):List (List UInt8)→List (List UInt8)
 | []=>[]
 | y::ys=>if y=p then uniqGo y ys else y::uniqGo y ys
def uniqS:List (List UInt8)→List (List UInt8)
 | []=>[]
 | x::xs=>x::uniqGo x xs
def primCompactS:List V→Option (V×List V)
 | [.own false 1 rows]=>if rows.length≤lim then (strRows rows).bind fun ss=>some (.own false 1 ((uniqS ss).map fun s=>[.str s]),[.ud]) else none
 | _=>none
theorem uniqGo_snoc:∀ (l:List (List UInt8)) (p y:List UInt8),uniqGo p (l++[y])=uniqGo p l++(if y=l.getLastD p then [] else [y])
 | [],p,y=>by
  show (if y=p then uniqGo y [] else y::uniqGo y [])=_
  simp[uniqGo]
 | x::l,p,y=>by
  show (if x=p then uniqGo x (l++[y]) else x::uniqGo x (l++[y]))=_
  rw[uniqGo_snoc l x y]
  have e:(x::l).getLastD p=l.getLastD x:=by cases l <;> rfl
  rw[e]
  show _=(if x=p then uniqGo x l else x::uniqGo x l)++_
  split <;> simp
theorem compact_uniq (l:List (List UInt8)):∀ m,m≤l.length→Lib.compactUpTo l.toArray m=uniqS (l.take m):=by
 intro m
 induction m with
 | zero=>intro _;simp[Lib.compactUpTo,uniqS]
 | succ m ih =>
  intro hm
  rw[Lib.compactUpTo_succ,ih (by omega),List.take_succ_eq_append_getElem (by omega)]
  have e1:l.toArray[m]! = l[m]:=by simp[show m<l.length by omega]
  cases m with
  | zero =>
   have:Lib.keeps l.toArray 0=true:=Lib.keeps_lt_one _ 0 (by omega)
   rw[if_pos this,e1]
   simp[uniqS,uniqGo]
  | succ m =>
   have e0:l.toArray[m+1-1]! = l[m]'(by omega):=by simp[show m<l.length by omega]
   cases hl:l.take (m+1) with
   | nil=>have:=congrArg List.length hl;rw[List.length_take,List.length_nil] at this;omega
   | cons x xs =>
    have hlast:xs.getLastD x=l[m]:=by
     have ht:l.take (m+1)=l.take m++[l[m]]:=List.take_succ_eq_append_getElem (by omega)
     have h1:(x::xs).getLast?=some l[m]:=by rw[←hl,ht,List.getLast?_append];rfl
     rw[List.getLast?_cons] at h1
     simpa[List.getLastD_eq_getLast?] using h1
    show _=x::uniqGo x (xs++[l[m+1]])
    rw[uniqGo_snoc,hlast]
    by_cases he:l[m+1]=l[m]
    ·
     rw[Lib.keeps_neg (by omega) (by rw[e1,e0];exact he),if_pos he]
     simp[uniqS]
    ·
     rw[Lib.keeps_pos (by rw[e1,e0];exact he),if_neg he,e1]
     simp[uniqS]
theorem uniqGo_len:∀ (l:List (List UInt8)) (p:List UInt8),(uniqGo p l).length≤l.length
 | [],p=>Nat.le_refl _
 | y::ys,p=>by
  have:=uniqGo_len ys y
  unfold uniqGo
  split
  ·
   simp;omega
  ·
   simp;omega
theorem uniqS_len:∀ l:List (List UInt8),(uniqS l).length≤l.length
 | []=>Nat.le_refl _
 | x::xs=>by have:=uniqGo_len xs x;simp[uniqS];omega
theorem compactS_ok {f:Nat} {args outs:List V} {res:V} (he:∀ (vs:Array Value) (w:World),(callFunc f vs).run P w=.ok (.enter f vs) w)
  (hcomp:∀ (b o c:Nat) (d:Array (List UInt8)) (w:World),Go.Sort.Holds encStr w b o d→d.size≤9223372036854775807→d.size≤c →
   Calls P f #[.slice (some ⟨b,o,none⟩) d.size c] w fun e w'=>e=.returned (.slice (some ⟨b,o,none⟩) (Lib.compactUpTo d d.size).length c)∧∃ q,w'=Go.Sort.putRow encStr (Go.Sort.ahead w q) b o (Lib.compactUpTo d d.size++List.replicate (d.size-(Lib.compactUpTo d d.size).length) []).toArray)
  (hnone:∀ (a:Option Addr) (w:World),Calls P f #[.slice a 0 0] w fun e w'=>e=.returned (.slice a 0 0)∧w'=w)
  (h:primCompactS args=some (res,outs)):Does P G f args res outs:=by
 unfold primCompactS at h
 split at h
 ·
  rename_i rows
  split at h
  ·
   rename_i hlim
   obtain ⟨ss,hss,h⟩:=Option.bind_eq_some_iff.1 h
   simp only[Option.some.injEq,Prod.mk.injEq] at h
   obtain ⟨rfl,rfl⟩:=h
   have hrows:=strRows_eq hss
   have hsl:ss.length=rows.length:=by rw[hrows];simp
   intro S w vs O hG
   obtain ⟨u1,O1,rfl,rfl,r1⟩:∃ u O1,vs=[u]∧O=O1∧Rep S w u (.own false 1 rows) O1:=by
    have:=hG.rep
    cases this with
    | cons q1 q2=>cases q2;exact ⟨_,_,rfl,by simp,q1⟩
   cases r1 with
   | own0 a _ _ =>
    have:ss=[]:=List.eq_nil_of_length_eq_zero (by rw[hsl];rfl)
    subst this
    refine .inl ⟨he _ _,(hnone a w).mono fun e w' ⟨s1,s2⟩=>⟨_,s1,?_⟩⟩
    subst s2
    exact ⟨S,[],[],.own0 _ _ _,.cons (O1:=[]) (O2:=[]) (.ud _) .nil,by simp,by simp,Nat.le_refl _,fun _ h=>h,fun _ h=>.inl h,hG.low,fun _ _ _=>rfl,Same.refl _⟩
   | @own b o c _ _ _ O h1 h2 h3 h4 h5 h6 =>
    have:=h5 rfl
    subst this
    obtain ⟨vs,g1,g2,g3⟩:=h6.vals
    rw[hrows,map_str] at g1
    have hvs:=str_reps g1
    subst hvs
    have hblt:b<w.heap.size:=by obtain ⟨cs,e,lo,hi,q1,_⟩:=h3;exact lt_of_some q1
    have hH:Go.Sort.Holds encStr w b o ss.toArray:=by
     intro j hj
     have hj':j<ss.length:=by simpa using hj
     refine ⟨?_,not_frozen1 h3 _ (by omega)⟩
     have:=g3 j (encStr ss[j]) (by simp[hj'])
     rw[this]
     simp[hj']
    refine .inl ⟨he _ _,?_⟩
    have hcall:=hcomp b o c ss.toArray w hH (by simp;unfold lim at hlim;omega) (by simp;omega)
    rw[show ss.toArray.size=rows.length from by simpa using hsl] at hcall
    refine hcall.mono fun e w' ⟨t1,q,t3⟩=>?_
    rw[←hsl,compact_uniq ss ss.length (Nat.le_refl _),List.take_length] at t1 t3
    have hul:=uniqS_len ss
    generalize hd2:(uniqS ss++List.replicate (ss.length-(uniqS ss).length) []).toArray=d2 at t3
    have hd2s:d2.size=ss.toArray.size:=by rw[←hd2];simp;omega
    have t4:w'=Go.Sort.grow (Go.Sort.putRow encStr (Go.Sort.ahead w q) b o d2) #[]:=by rw[t3,Go.Sort.grow_empty]
    refine ⟨_,t1,?_⟩
    have hkeep:∀ b',b'<w.heap.size→b' ∉ [b]++[]→w'.heap[b']?=w.heap[b']?:=fun b' hb' hn=>by
     rw[t4];exact heap_putS hb' fun e=>hn (by simp[e])
    have hsize:w.heap.size≤w'.heap.size:=by rw[t4];simp
    have hat':At w' b o ((uniqS ss).map encStr):=by
     have hH':Go.Sort.Holds encStr w' b o d2:=by
      rw[t4]
      exact Go.Sort.holds_grow encStr _ _ b o _ (by simpa using hblt) (Go.Sort.holds_putRow encStr _ b o ss.toArray _ (Go.Sort.holds_ahead encStr w q b o _ hH) hd2s)
     intro j hj
     have hj':j<(uniqS ss).length:=by simpa using hj
     have hjd:j<d2.size:=by rw[hd2s];simp;omega
     rw[(hH' j hjd).1]
     have:d2[j]! = (uniqS ss)[j]:=by
      rw[getElem!_pos d2 j hjd]
      have h9:∀ (h:j<d2.size),d2[j]=(uniqS ss)[j]:=by
       rw[←hd2]
       intro h
       rw[List.getElem_toArray,List.getElem_append_left hj']
      exact h9 hjd
     rw[this]
     simp[hj']
    have hmem:Mem S w' b o ((uniqS ss).map V.str) []:=Mem.fresh (reps_str S w' (uniqS ss)) (by intro v hv;obtain ⟨s,_,rfl⟩:=List.mem_map.1 hv;rfl) hat'
    have hown:Rep S w' (.slice (some ⟨b,o,none⟩) (uniqS ss).length c) (.own false 1 ((uniqS ss).map fun s=>[.str s])) [b]:=by
     have hl':((uniqS ss).map fun s=>([.str s]:List V)).length=(uniqS ss).length:=by rw[List.length_map]
     have:=Rep.own (S:=S) (w:=w') (b:=b) (o:=o) (c:=c) (k:=1) (n:=false) (rows:=(uniqS ss).map fun s=>[.str s]) (O:=[]) h1 (fun r hr=>by obtain ⟨s,_,rfl⟩:=List.mem_map.1 hr;rfl) (by rw[t4];exact open_putS h3) (by rw[hl'];omega) (fun _=>rfl) (by rw[map_str];exact hmem)
     rwa [hl'] at this
    refine ⟨S,[b],[],hown,.cons (O1:=[]) (O2:=[]) (.ud _) .nil,by simp,fun b' hb'=>?_,hsize,fun _ h=>h,fun _ h=>.inl h,fun b' hb'=>Nat.lt_of_lt_of_le (hG.low b' hb') hsize,hkeep,?_⟩
    ·
     simp only[List.append_nil,List.mem_singleton] at hb'
     subst hb'
     exact ⟨fun h=>hG.apart b' (by simp) h,.inl (by simp)⟩
    ·
     rw[t4];exact ⟨rfl,rfl,rfl⟩
  ·
   cases h
 ·
  cases h
end
def insS (x:List UInt8):List (List UInt8)→List (List UInt8)
 | []=>[x]
 | y::ys=>if Op.bytesLess y x=true then y::insS x ys else x::y::ys
def isortS:List (List UInt8)→List (List UInt8)
 | []=>[]
 | x::xs=>insS x (isortS xs)
theorem insS_parts {x:List UInt8}:∀ {l1 l2:List (List UInt8)},(∀ b∈l1,b<x)→(∀ b∈l2,¬b<x)→insS x (l1++l2)=l1++x::l2
 | [],[],_,_=>rfl
 | [],c::l2,_,h2=>by
  show (if Op.bytesLess c x=true then c::insS x l2 else x::c::l2)=_
  rw[if_neg (by rw[bytesLess_eq];simpa using h2 c (by simp))]
  rfl
 | b::l1,l2,h1,h2=>by
  show (if Op.bytesLess b x=true then b::insS x (l1++l2) else x::b::(l1++l2))=_
  rw[if_pos (by rw[bytesLess_eq];simpa using h1 b (by simp)),insS_parts (fun c hc=>h1 c (by simp[hc])) h2]
  rfl
theorem le_trans_S (a b c:List UInt8) (h1:decide (a≤b)=true) (h2:decide (b≤c)=true):decide (a≤c)=true:=by
 simp only[decide_eq_true_eq] at *
 exact List.le_trans h1 h2
theorem le_total_S (a b:List UInt8):(decide (a≤b)||decide (b≤a))=true:=by
 simp only[Bool.or_eq_true,decide_eq_true_eq]
 exact List.le_total a b
theorem sortS_isort:∀ l:List (List UInt8),sortS l=isortS l
 | []=>by simp[sortS,isortS]
 | x::xs=>by
  obtain ⟨l1,l2,h1,h2,h3⟩:=List.mergeSort_cons (le:=fun a b:List UInt8=>decide (a≤b)) le_trans_S le_total_S x xs
  have hp:=List.pairwise_mergeSort (le:=fun a b:List UInt8=>decide (a≤b)) le_trans_S le_total_S (x::xs)
  rw[h1] at hp
  have ih:=sortS_isort xs
  unfold sortS at ih ⊢
  rw[h1]
  show _=insS x (isortS xs)
  rw[←ih,h2]
  refine (insS_parts (fun b hb=>?_) (fun b hb=>?_)).symm
  ·
   have:=h3 b hb
   simp only[Bool.not_eq_true',decide_eq_false_iff_not] at this
   exact List.not_le.1 this
  ·
   have:=(List.pairwise_cons.1 (List.pairwise_append.1 hp).2.1).1 b hb
   simp only[decide_eq_true_eq] at this
   exact List.not_lt.2 this
end Go.Zv
