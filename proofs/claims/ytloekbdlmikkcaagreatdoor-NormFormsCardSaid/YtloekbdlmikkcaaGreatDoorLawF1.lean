/- Plain laws: what the plain functions say. No condition. -/
import Derived.Test.YtloekbdlmikkcaaGreatDoorPlainF
import Derived.Sort.Walk0
import Derived.Tactics
set_option linter.unusedSimpArgs false
set_option linter.unusedVariables false
namespace Go.Zv.G
open Go Go.Zv Go.Proofs
set_option maxRecDepth 100000
abbrev S:=List UInt8
theorem bsome {α β:Type} (x:α) (f:α→Option β):(some x).bind f=f x:=Eq.trans (Option.bind_some x f) (Eq.refl _)
attribute [local simp high] bsome
theorem qaa {α:Type} {l:List α} {i:Nat} (h:i<l.length):ix l (i:Int)=some l[i]:=by
 unfold ix
 rw[if_pos (by omega)]
 simp[h]
theorem ix_zero {α:Type} {l:List α} (h:0<l.length):ix l 0=some l[0]:=qaa (i:=0) h
theorem qgi {x:Int} (h1:-9223372036854775808≤x) (h2:x<9223372036854775808):rng x=some x:=by
 unfold rng;rw[if_pos ⟨h1,h2⟩]
theorem rng_nat {x:Nat} (h2:x<4611686018427387904):rng (x:Int)=some (x:Int):=qgi (by omega) (by omega)
theorem qm {x:Nat} (h2:x<4611686018427387904):rng ((x:Int)+1)=some ((x+1:Nat):Int):=qgi (by omega) (by omega)
theorem qkt {p:Prop} [Decidable p] (h:p):need p=some ():=by unfold need;rw[if_pos h]
theorem qgj {α:Type} {l:List α} {a b:Nat} (h1:a≤b) (h2:b≤l.length):cutI l (a:Int) (b:Int)=some ((l.take b).drop a):=by
 unfold cutI
 rw[if_pos (by omega)]
 simp
theorem qq1 {α:Type} {l:List α} {a:Nat} (h1:a≤l.length):cutI l (a:Int) (l.length:Int)=some (l.drop a):=by
 rw[qgj h1 (Nat.le_refl _),List.take_length]
theorem qla {α:Type} {l:List α} {b:Nat} (h2:b≤l.length):cutI l 0 (b:Int)=some (l.take b):=qgj (a:=0) (by omega) h2
def qe5 (c:UInt8):S→List S
 | []=>[[]]
 | x::xs=>if x=c then []::qe5 c xs else match qe5 c xs with
  | []=>[[x]]
  | p::ps=>(x::p)::ps
theorem splitC_ne (c:UInt8):∀ s:S,qe5 c s≠[]
 | []=>by simp[qe5]
 | x::xs=>by
  unfold qe5
  split
  ·
   simp
  ·
   split <;> simp
theorem qke (c:UInt8):∀ s:S,(qe5 c s).length=cnt8 c s+1
 | []=>rfl
 | x::xs=>by
  unfold qe5 cnt8
  by_cases h:x=c
  ·
   simp[h,qke c xs]
  ·
   have:=qke c xs
   split
   ·
    rename_i e;exact absurd e h
   ·
    split
    ·
     rename_i e;exact absurd e (splitC_ne c xs)
    ·
     rename_i p ps e
     rw[e] at this
     have hb:(x==c)=false:=by simpa using h
     simp only[hb,cond_false,List.length_cons]
     simpa using this
theorem ql1 (c:UInt8):∀ s:S,c ∉ s→qe5 c s=[s]
 | [],_=>rfl
 | x::xs,h=>by
  have h1:x≠c:=fun e=>h (by simp[e])
  have h2:c ∉ xs:=fun e=>h (by simp[e])
  unfold qe5
  rw[if_neg h1,ql1 c xs h2]
theorem qm0 (c:UInt8):∀ (a b:S),c ∉ a→qe5 c (a++c::b)=a::qe5 c b
 | [],b,_=>by simp[qe5]
 | x::xs,b,h=>by
  have h1:x≠c:=fun e=>h (by simp[e])
  have h2:c ∉ xs:=fun e=>h (by simp[e])
  rw[List.cons_append,qe5,if_neg h1,qm0 c xs b h2]
theorem qki {c:UInt8}:∀ {s:S},0<cnt8 c s↔c∈s
 | []=>by simp[cnt8]
 | x::xs=>by
  unfold cnt8
  by_cases h:x=c
  ·
   simp[h]
  ·
   have hb:(x==c)=false:=by simpa using h
   simp only[hb,cond_false,qki (s:=xs),List.mem_cons]
   exact ⟨.inr,fun e=>e.resolve_left fun e=>h e.symm⟩
theorem cnt8_le {c:UInt8}:∀ {s:S},cnt8 c s≤s.length
 | []=>by simp[cnt8]
 | x::xs=>by
  unfold cnt8
  have:=cnt8_le (c:=c) (s:=xs)
  cases x==c <;> simp <;> omega
theorem cnt8_append (c:UInt8):∀ (a b:S),cnt8 c (a++b)=cnt8 c a+cnt8 c b
 | [],b=>by simp[cnt8]
 | x::xs,b=>by
  rw[List.cons_append,cnt8,cnt8,cnt8_append c xs b]
  cases x==c <;> simp <;> omega
theorem idx8_spec (c:UInt8):∀ (s:S) (k:Nat),(c ∉ s∧idx8 c s k=-1)∨∃ a b,s=a++c::b∧c ∉ a∧idx8 c s k=((k+a.length:Nat):Int)
 | [],k=>.inl ⟨by simp,rfl⟩
 | x::xs,k=>by
  by_cases h:x=c
  ·
   subst h
   exact .inr ⟨[],xs,by simp,by simp,by simp[idx8]⟩
  ·
   have hb:(x==c)=false:=by simpa using h
   rcases idx8_spec c xs (k+1) with ⟨h1,h2⟩ | ⟨a,b,h1,h2,h3⟩
   ·
    refine .inl ⟨by simp[h1];exact fun e=>h e.symm,?_⟩
    simp only[idx8,hb,cond_false,h2]
   ·
    refine .inr ⟨x::a,b,by simp[h1],by simp[h2];exact fun e=>h e.symm,?_⟩
    simp only[idx8,hb,cond_false,h3,List.length_cons]
    omega
def okB (c:UInt8):Bool:=!letG c.toNat
def qjz (s:S):Bool:=!((s==[])||(s==[46])||(s==[46,46]))&&s.all okB
def qmi (s:S):Bool:=decide (s.length≤60)&&(qe5 47 s).all qjz
theorem qsf (n:Nat) (s:S):qii n s=some (!qjz s):=by
 unfold qii qjz
 cases e:(((s==([]:List UInt8))||(s==([46]:List UInt8)))||(s==([46,46]:List UInt8))) with
 | true=>simp
 | false =>
  simp only[Bool.false_eq_true,if_false,Bool.not_false,Bool.true_and]
  congr 1
  unfold okB
  rw[List.all_eq_not_any_not]
  simp
theorem qec (n:Nat) (l:List S) (hl:l.length<1000000):∀ (m i:Nat),l.length<m+i→i≤l.length→∃ r,qaj n l m (i:Int)=some r∧decide (r≥0)=(l.drop i).any fun s=>!qjz s
 | 0,i,h1,h2=>by omega
 | m+1,i,h1,h2=>by
  rw[qaj]
  by_cases hi:i<l.length
  ·
   rw[if_pos (by simpa using hi),qaa hi]
   simp only[bsome,qsf,qm (show i<4611686018427387904 by omega)]
   rw[List.drop_eq_getElem_cons hi,List.any_cons]
   cases e:(!qjz l[i]) with
   | true=>exact ⟨i,by simp,by simp⟩
   | false =>
    obtain ⟨r,h3,h4⟩:=qec n l hl m (i+1) (by omega) (by omega)
    exact ⟨r,by simpa using h3,by simpa using h4⟩
  ·
   rw[if_neg (by simpa using hi)]
   have:i=l.length:=by omega
   subst this
   exact ⟨-1,rfl,by simp⟩
theorem qgr {n:Nat} {l:List S} (hl:l.length<1000000) (hn:l.length<n):qa1 n l=some (!(l.all qjz)):=by
 unfold qa1 qca
 obtain ⟨r,h3,h4⟩:=qec n l hl n 0 (by omega) (by omega)
 rw[show ((0:Nat):Int)=0 from rfl] at h3
 rw[h3]
 simp only[bsome,h4,List.drop_zero]
 congr 1
 rw[List.all_eq_not_any_not]
 simp
theorem qnz (n:Nat) (s:S) (c:UInt8):qfa n s [c]=some (idx8 c s 0):=by
 simp[qfa,qdn,ix]
 rintro rfl
 simp[idx8]
theorem qri (n:Nat) (s:S) (c:UInt8):qfx n s [c]=some (idx8 c s 0):=by
 simp[qfx,qnz]
theorem qrj (n:Nat) (s:S) (c:UInt8):qg4 n s [c]=some ((cnt8 c s:Nat):Int):=by
 simp[qg4,ix]
theorem qiw (n:Nat) (c:UInt8):∀ (m:Nat) (s:S) (done:List S) (k:Nat),cnt8 c s=k→k<m→done.length+k<1000000→s.length<1000000 →
  qcf n [c] 0 ((done.length+k:Nat):Int) m s (done++List.replicate (k+1) []) (done.length:Int)=some (done++qe5 c s)
 | 0,s,done,k,hk,hm,hd,hs=>by omega
 | m+1,s,done,k,hk,hm,hd,hs=>by
  rw[qcf]
  have fin:∀ k',k'=k→c ∉ s→qdt s (done++List.replicate (k'+1) []) (done.length:Int)=some (done++[s]):=by
   intro k' hk' hc
   have h0:k'=0:=by
    subst hk';subst hk
    have:=mt qki.1 hc
    omega
   subst h0
   unfold qdt
   rw[qaa (by simp)]
   simp only[bsome,qm (show done.length<4611686018427387904 by omega)]
   rw[qla (by simp)]
   simp[List.take_of_length_le]
  by_cases h0:0<k
  ·
   rw[if_pos (by simp;omega),qri]
   simp only[bsome]
   rcases idx8_spec c s 0 with ⟨h1,h2⟩ | ⟨a,b,h1,h2,h3⟩
   ·
    exact absurd (qki.1 (hk ▸ h0)) h1
   ·
    rw[h3]
    have hcb:cnt8 c s=cnt8 c b+1:=by
     rw[h1,cnt8_append]
     have:cnt8 c a=0:=by
      have:=mt qki.1 h2;omega
     simp[cnt8,this]
    have hla:a.length≤s.length:=by rw[h1];simp
    rw[if_neg (by simp),Int.add_zero,Nat.zero_add,rng_nat (by omega)]
    simp only[bsome]
    rw[qla hla]
    simp only[bsome]
    rw[qaa (by simp)]
    simp only[bsome,List.length_singleton]
    rw[show ((a.length:Int)+((1:Nat):Int))=((a.length+1:Nat):Int) by omega,rng_nat (by omega)]
    simp only[bsome]
    rw[qq1 (by rw[h1];simp)]
    simp only[bsome,qm (show done.length<4611686018427387904 by omega)]
    obtain ⟨k',rfl⟩:∃ k',k=k'+1:=⟨k-1,by omega⟩
    have hta:s.take a.length=a:=by rw[h1];simp
    have hdb:s.drop (a.length+1)=b:=by rw[h1];simp
    rw[hta,hdb]
    have hset:(done++List.replicate (k'+1+1) ([]:S)).set (Int.toNat (done.length:Int)) a=(done++[a])++List.replicate (k'+1) []:=by
     rw[Int.toNat_natCast,List.set_append_right _ _ (Nat.le_refl _),Nat.sub_self,List.replicate_succ,List.set_cons_zero,List.append_assoc,List.singleton_append]
    rw[hset]
    have ih:=qiw n c m b (done++[a]) k' (by omega) (by omega) (by simp;omega) (by rw[h1] at hs;simp at hs;omega)
    rw[List.length_append,List.length_singleton] at ih
    rw[show ((done.length+(k'+1):Nat):Int)=((done.length+1+k':Nat):Int) by omega]
    rw[ih,h1,qm0 c a b h2]
    simp
  ·
   have hk0:k=0:=by omega
   subst hk0
   have hc:c ∉ s:=fun e=>by have:=qki.2 e;omega
   rw[if_neg (by simp),fin 0 rfl hc,ql1 c s hc]
theorem qrz {n:Nat} {s:S} {c:UInt8} (hs:s.length<1000000) (hn:s.length<n):qg6 n s [c]=some (qe5 c s):=by
 unfold qg6 qg5
 have hle:=cnt8_le (c:=c) (s:=s)
 simp only[qrj,bsome]
 rw[if_neg (by decide),if_neg (by simp),if_pos (by decide),qm (by omega)]
 simp only[bsome]
 unfold qes
 rw[qm (by omega)]
 simp only[bsome]
 have hmin:(if ((s.length+1:Nat):Int)<((cnt8 c s+1:Nat):Int) then ((s.length+1:Nat):Int) else ((cnt8 c s+1:Nat):Int))=((cnt8 c s+1:Nat):Int):=if_neg (by omega)
 rw[hmin,qkt ⟨by omega,by omega,by unfold lim;omega⟩]
 simp only[bsome]
 rw[show (((cnt8 c s+1:Nat):Int)-1)=((cnt8 c s:Nat):Int) by omega,rng_nat (by omega)]
 simp only[bsome,Int.toNat_natCast]
 have:=qiw n c n s [] (cnt8 c s) rfl (by omega) (by simp;omega) hs
 simp only[List.length_nil,Nat.zero_add,List.nil_append] at this
 rw[show ((0:Nat):Int)=0 from rfl] at this
 rw[this]
 rfl
theorem f_norm_path_eq {n:Nat} (s:S) (hn:100<n):qjt n s=some (qmi s):=by
 unfold qjt qmi
 by_cases h0:s.length=0
 ·
  have:s=[]:=List.length_eq_zero_iff.1 h0
  subst this
  rfl
 by_cases h1:60<s.length
 ·
  rw[if_pos (by simp;omega)]
  have:decide (s.length≤60)=false:=by simpa using h1
  rw[this,Bool.false_and]
 ·
  rw[if_neg (by simp;exact ⟨fun e=>h0 (by simp[e]),by omega⟩),qrz (by omega) (by omega)]
  simp only[bsome]
  have hl:=qke 47 s
  have hc:=cnt8_le (c:=47) (s:=s)
  rw[qgr (by omega) (by omega)]
  have:decide (s.length≤60)=true:=by simpa using h1
  simp[this]
theorem letG_iff (c:UInt8):okB c=!((((((!((decide ((c.toNat:Int)≥97))&&(decide ((c.toNat:Int)≤122))))&&(!((decide ((c.toNat:Int)≥65))&&(decide ((c.toNat:Int)≤90)))))&&(!((decide ((c.toNat:Int)≥48))&&(decide ((c.toNat:Int)≤57)))))&&((c.toNat:Int) != 45))&&((c.toNat:Int) != 95))&&((c.toNat:Int) != 46)):=by
 unfold okB letG
 have e1:∀ a b:Nat,Nat.ble a b=decide ((a:Int)≤(b:Int)):=fun a b=>by
  rw[Bool.eq_iff_iff,Nat.ble_eq,decide_eq_true_eq];omega
 have e2:∀ a b:Nat,Nat.beq a b=decide ((a:Int)=(b:Int)):=fun a b=>by
  rw[Bool.eq_iff_iff,Nat.beq_eq,decide_eq_true_eq];omega
 rw[Bool.eq_iff_iff]
 simp only[e1,e2]
 simp
theorem qja (s:S) (hs:s.length<1000000):∀ (m i:Nat),s.length<m+i→i≤s.length→qct s m (i:Int)=some ((s.drop i).all okB)
 | 0,i,h1,h2=>by omega
 | m+1,i,h1,h2=>by
  rw[qct]
  by_cases hi:i<s.length
  ·
   rw[if_pos (by simpa using hi),qaa hi]
   simp only[bsome,qm (show i<4611686018427387904 by omega)]
   rw[List.drop_eq_getElem_cons hi,List.all_cons,letG_iff s[i]]
   generalize ((((((!((decide ((s[i].toNat:Int)≥97))&&(decide ((s[i].toNat:Int)≤122))))&&(!((decide ((s[i].toNat:Int)≥65))&&(decide ((s[i].toNat:Int)≤90)))))&&(!((decide ((s[i].toNat:Int)≥48))&&(decide ((s[i].toNat:Int)≤57)))))&&((s[i].toNat:Int) != 45))&&((s[i].toNat:Int) != 95))&&((s[i].toNat:Int) != 46))=q
   cases q with
   | true=>simp
   | false=>simpa using qja s hs m (i+1) (by omega) (by omega)
  ·
   rw[if_neg (by simpa using hi)]
   have:i=s.length:=by omega
   subst this
   simp
theorem qku {n:Nat} (s:S) (hs:s.length<1000000) (hn:s.length<n):qet n s=some (qjz s):=by
 unfold qet qjz
 have h:=qja s hs n 0 (by omega) (by omega)
 rw[show ((0:Nat):Int)=0 from rfl,List.drop_zero] at h
 rw[h]
 have e:((s.length:Int)==0)=(s==[]):=by
  rw[Bool.eq_iff_iff];cases s <;> simp;omega
 rw[e]
 cases (((s==([]:List UInt8))||(s==([46]:List UInt8)))||(s==([46,46]:List UInt8))) <;> simp
theorem qgk (n:Nat) (s:S) (hs:s.length<1000000) (hn:s.length<n):∀ (m a i:Nat),s.length<m+i→a≤i→i≤s.length→47 ∉ (s.take i).drop a→qbx n s m (a:Int) (i:Int)=some ((qe5 47 (s.drop a)).all qjz)
 | 0,a,i,h1,h2,h3,h4=>by omega
 | m+1,a,i,h1,h2,h3,h4=>by
  rw[qbx]
  by_cases hi:i<s.length
  ·
   rw[if_pos (by simpa using hi),qaa hi]
   simp only[bsome,qm (show i<4611686018427387904 by omega)]
   by_cases hc:s[i]=47
   ·
    rw[if_pos (by rw[hc];rfl),qgj h2 (by omega)]
    simp only[bsome]
    rw[qku _ (by simp;omega) (by simp;omega)]
    have hsp:s.drop a=(s.take i).drop a++47::s.drop (i+1):=by
     have e1:s=s.take i++s[i]::s.drop (i+1):=by simp
     have e2:s.drop a=(s.take i++s[i]::s.drop (i+1)).drop a:=by rw[←e1]
     rw[e2,List.drop_append_of_le_length (by simp;omega),hc]
    rw[hsp,qm0 47 _ _ h4,List.all_cons]
    cases e:qjz ((s.take i).drop a) with
    | false=>simp
    | true =>
     simp only[bsome,Bool.not_true,Bool.false_eq_true,if_false,Bool.true_and]
     exact qgk n s hs hn m (i+1) (i+1) (by omega) (Nat.le_refl _) (by omega) (by simp)
   ·
    rw[if_neg (by simp;exact fun e=>hc (by rw[←UInt8.toNat_inj];exact Int.ofNat.inj e))]
    refine qgk n s hs hn m a (i+1) (by omega) (by omega) (by omega) ?_
    rw[List.take_succ_eq_append_getElem hi,List.drop_append_of_le_length (by simp;omega)]
    simp[h4]
    exact fun e=>hc e.symm
  ·
   rw[if_neg (by simpa using hi),qq1 (by omega)]
   have:i=s.length:=by omega
   subst this
   simp only[bsome]
   rw[qku _ (by simp;omega) (by simp;omega)]
   rw[List.take_length] at h4
   rw[ql1 47 _ h4]
   simp
theorem qpr {n:Nat} (s:S) (hn:100<n):qft n s=some (qmi s):=by
 unfold qft qmi
 by_cases h1:60<s.length
 ·
  rw[if_pos (by simp;omega)]
  have:decide (s.length≤60)=false:=by simpa using h1
  rw[this,Bool.false_and]
 ·
  rw[if_neg (by simp;omega)]
  have:=qgk n s (by omega) (by omega) n 0 0 (by omega) (Nat.le_refl _) (by omega) (by simp)
  rw[show ((0:Nat):Int)=0 from rfl] at this
  rw[this]
  have:decide (s.length≤60)=true:=by simpa using h1
  simp[this]
theorem qf6 (s:S) (hs:s.length<1000000):∀ (m a i:Nat) (done:List S),s.length<m+i→a≤i→i≤s.length→10 ∉ (s.take i).drop a→done.length+s.length-i<1000000 →
  qbn s m (done++[[]]) (a:Int) (i:Int)=some (done++qe5 10 (s.drop a))
 | 0,a,i,done,h1,h2,h3,h4,h5=>by omega
 | m+1,a,i,done,h1,h2,h3,h4,h5=>by
  rw[qbn]
  have e1:((done++[([]:S)]).length:Int)-1=((done.length:Nat):Int):=by simp
  by_cases hi:i<s.length
  ·
   rw[if_pos (by simpa using hi),qaa hi]
   simp only[bsome,qm (show i<4611686018427387904 by omega)]
   by_cases hc:s[i]=10
   ·
    rw[if_pos (by rw[hc];rfl),e1,rng_nat (by omega),qgj h2 (by omega)]
    simp only[bsome]
    rw[qaa (by simp),qkt (by unfold lim;simp;omega)]
    simp only[bsome,Int.toNat_natCast]
    have hsp:s.drop a=(s.take i).drop a++10::s.drop (i+1):=by
     have e1:s=s.take i++s[i]::s.drop (i+1):=by simp
     have e2:s.drop a=(s.take i++s[i]::s.drop (i+1)).drop a:=by rw[←e1]
     rw[e2,List.drop_append_of_le_length (by simp;omega),hc]
    rw[hsp,qm0 10 _ _ h4,List.set_append_right _ _ (Nat.le_refl _),Nat.sub_self,List.set_cons_zero]
    rw[qf6 s hs m (i+1) (i+1) (done++[(s.take i).drop a]) (by omega) (Nat.le_refl _) (by omega) (by simp) (by simp;omega)]
    simp
   ·
    rw[if_neg (by simp;exact fun e=>hc (by rw[←UInt8.toNat_inj];exact Int.ofNat.inj e))]
    refine qf6 s hs m a (i+1) done (by omega) (by omega) (by omega) ?_ (by omega)
    rw[List.take_succ_eq_append_getElem hi,List.drop_append_of_le_length (by simp;omega)]
    simp[h4]
    exact fun e=>hc e.symm
  ·
   rw[if_neg (by simpa using hi),e1,rng_nat (by omega),qq1 (by omega)]
   have:i=s.length:=by omega
   subst this
   simp only[bsome]
   rw[qaa (by simp)]
   rw[List.take_length] at h4
   rw[ql1 10 _ h4]
   simp
theorem qo7 {n:Nat} (s:S) (hs:s.length<500000) (hn:s.length<n):qfc n s=some (qe5 10 s):=by
 unfold qfc
 have:=qf6 s (by omega) n 0 0 [] (by omega) (Nat.le_refl _) (by omega) (by simp) (by simp;omega)
 simpa using this
theorem less_eq (a b:S):Op.bytesLess a b=decide (a<b):=bytesLess_eq a b
theorem qq2 (a:S):¬a<a:=List.lt_irrefl a
theorem s_trans {a b c:S} (h1:a<b) (h2:b<c):a<c:=List.lt_trans h1 h2
theorem s_tri:∀ (a b:S),a<b∨a=b∨b<a
 | [],[]=>.inr (.inl rfl)
 | [],b::v=>.inl (by simp)
 | a::u,[]=>.inr (.inr (by simp))
 | a::u,b::v=>by
  simp only[List.cons_lt_cons_iff,List.cons.injEq]
  by_cases h:a<b
  ·
   exact .inl (.inl h)
  ·
   by_cases h':b<a
   ·
    exact .inr (.inr (.inl h'))
   ·
    have he:a=b:=by
     have e1:¬a.toNat<b.toNat:=fun e=>h (UInt8.lt_iff_toNat_lt.2 e)
     have e2:¬b.toNat<a.toNat:=fun e=>h' (UInt8.lt_iff_toNat_lt.2 e)
     exact UInt8.toNat_inj.1 (by omega)
    subst he
    rcases s_tri u v with h1 | h1 | h1
    ·
     exact .inl (.inr ⟨rfl,h1⟩)
    ·
     exact .inr (.inl ⟨rfl,h1⟩)
    ·
     exact .inr (.inr (.inr ⟨rfl,h1⟩))
theorem qmj {α:Type} {l:List α} (h:l.length≤lim):lmt l=some l:=by unfold lmt;rw[if_pos h]
theorem ix_get {α:Type} {l:List α} {i:Nat} {x:α} (h:l[i]?=some x):ix l (i:Int)=some x:=by
 unfold ix
 rw[if_pos (by omega)]
 simpa using h
def oddLn (s:S):Bool:=decide ((10:UInt8)∈s)
theorem qsg {n:Nat} (s:S):((qfb n s 10).bind fun r=>some (decide (r≥0)))=some (oddLn s):=by
 unfold qfb qdn oddLn
 rw[bsome,bsome]
 rw[show ((10:Int).toNat.toUInt8)=(10:UInt8) from rfl]
 rcases idx8_spec 10 s 0 with ⟨h1,h2⟩ | ⟨a,b,h1,h2,h3⟩
 ·
  rw[h2];simp[h1]
 ·
  rw[h3];subst h1;simp
theorem equal_L8 {p q:List S} (hpq:p.length=q.length) (hb:p.length<1000000):∀ (m k fuel:Nat),p.length-k=m→k≤p.length→m<fuel→qa7 p q fuel (k:Int)=some (decide (p.drop k=q.drop k)):=by
 intro m
 induction m with
 | zero =>
  intro k fuel hm hk hf
  obtain ⟨fuel,rfl⟩:∃ k,fuel=k+1:=⟨fuel-1,by omega⟩
  rw[qa7.eq_2,if_neg (by simp;omega),List.drop_of_length_le (by omega),List.drop_of_length_le (by omega)]
  simp
 | succ m ih =>
  intro k fuel hm hk hf
  obtain ⟨fuel,rfl⟩:∃ k,fuel=k+1:=⟨fuel-1,by omega⟩
  have h1:k<p.length:=by omega
  have h2:k<q.length:=by omega
  rw[qa7.eq_2,if_pos (by simp;omega),qaa h1,bsome,qaa h2,bsome,List.drop_eq_getElem_cons h1,List.drop_eq_getElem_cons h2]
  by_cases h:p[k]=q[k]
  ·
   rw[if_neg (by simp[h]),qm (by omega),bsome]
   refine Eq.trans (ih (k+1) fuel (by omega) (by omega) (by omega)) ?_
   exact congrArg some (decide_eq_decide.2 (by rw[List.cons.injEq];exact ⟨fun x=>⟨h,x⟩,fun x=>x.2⟩))
  ·
   rw[if_pos (by simp[h])]
   exact congrArg some (decide_eq_false (by rw[List.cons.injEq];exact fun x=>h x.1)).symm
theorem qjb {n:Nat} {p q:List S} (hb:p.length<1000000) (hn:p.length<n):qd1 n p q=some (decide (p=q)):=by
 unfold qd1
 by_cases h:p.length=q.length
 ·
  rw[if_neg (by simp[h])]
  have:=equal_L8 h hb p.length 0 n rfl (by omega) hn
  simpa using this
 ·
  rw[if_pos (by simp;omega)]
  have:p≠q:=fun e=>h (by rw[e])
  simp[this]
def badLn (s:S):Bool:=decide (2000<s.length)||oddLn s
theorem qr8 {n:Nat} (s:S):qhr n s=some (badLn s):=by
 have hodd:=qsg (n:=n) s
 unfold qhr badLn
 by_cases h:2000<s.length
 ·
  rw[if_pos (by simp;omega)];simp[h]
 ·
  rw[if_neg (by simp;omega),hodd];simp[h]
theorem plainL5_eq (n:Nat) (l:List S) (hl:l.length<1000000):∀ (m i:Nat),i≤l.length→l.length<m+i→∃ r:Int,qah n l m (i:Int)=some r∧decide (r≥0)=(l.drop i).any badLn:=by
 intro m
 induction m with
 | zero=>intro i h1 h2;omega
 | succ m ih =>
  intro i h1 h2
  rw[qah.eq_2]
  by_cases hi:i<l.length
  ·
   rw[if_pos (by simpa using hi),qaa hi,bsome,qr8,bsome,List.drop_eq_getElem_cons hi,List.any_cons]
   cases e:badLn l[i] with
   | true=>exact ⟨i,by simp,by simp⟩
   | false =>
    obtain ⟨r,h3,h4⟩:=ih (i+1) (by omega) (by omega)
    refine ⟨r,?_,by simpa using h4⟩
    rw[if_neg (by simp),qm (by omega),bsome]
    exact h3
  ·
   rw[if_neg (by simpa using hi)]
   have:i=l.length:=by omega
   subst this
   exact ⟨-1,rfl,by simp⟩
theorem hlim:2000000≤lim:=by decide
theorem cut1 {α:Type} {x:α} {l:List α}:cutI (x::l) 1 ((x::l).length:Int)=some l:=by
 have:=qq1 (l:=x::l) (a:=1) (by simp)
 simpa using this
theorem ixc {α:Type} {x:α} {l:List α}:ix (x::l) 0=some x:=ix_zero (by simp)
def qey (l:List S):Bool:=decide (l.length≤60)&&!(l.any badLn)
def qhw (h:GHunk):Bool:=decide (0≤h.at_)&&(decide (h.at_≤60)&&(qey h.old_&&(qey h.new_&&decide (0<h.old_.length+h.new_.length))))
def okHs:Int→List GHunk→Bool
 | _,[]=>true
 | e,h::hs=>qhw h&&(decide (e≤h.at_)&&okHs (h.at_+(h.old_.length:Int)+1) hs)
def hckE (l:List GHunk):Int:=if 40<l.length then 4 else if okHs 0 l=true then 0 else 8
def pvalid (p:GPatch):Bool:=qmi p.path_&&((p.was_||p.stays_)&&(hckE p.hunks_==0&&((p.was_&&p.stays_)||(match p.hunks_ with
 | [h]=>h.at_==0&&((p.was_||h.old_.length==0)&&(p.stays_||h.new_.length==0))
 | _=>false))))
def dupB:List S→List S→Bool
 | _,[]=>false
 | pre,p::ps=>pre.contains p||dupB (pre++[p]) ps
def nckE (l:List GPatch):Int:=if 24<l.length then 4 else if dupB [] (l.map GPatch.path_)=true then 14 else if l.all pvalid=true then 0 else 8
theorem qoh {n:Nat} (hn:100<n) (l:List S):qhs n l=some (qey l):=by
 unfold qhs qey
 by_cases h:l.length≤60
 ·
  obtain ⟨r,h3,h4⟩:=plainL5_eq n l (by omega) n 0 (by omega) (by omega)
  rw[show ((0:Nat):Int)=0 from rfl] at h3
  unfold qbm qb7
  rw[if_pos (by simp;omega),h3,bsome,bsome,h4,List.drop_zero]
  simp[h]
 ·
  rw[if_neg (by simp;omega)];simp[h]
theorem f_hunk_valid_eq {n:Nat} (hn:100<n) (h:GHunk):qi6 n h.at_ h.old_ h.new_=some (qhw h):=by
 unfold qi6 qhw
 rw[qoh hn,bsome,qoh hn,bsome]
 by_cases h1:0≤h.at_
 ·
  rw[if_pos (by simpa using h1)]
  by_cases h2:h.at_≤60
  ·
   rw[if_pos (by simpa using h2)]
   cases e1:qey h.old_ with
   | false=>simp
   | true =>
    cases e2:qey h.new_ with
    | false=>simp
    | true =>
     have l1:h.old_.length≤60:=by unfold qey at e1;simp at e1;exact e1.1
     have l2:h.new_.length≤60:=by unfold qey at e2;simp at e2;exact e2.1
     rw[if_pos rfl,if_pos rfl,qgi (by omega) (by omega),bsome]
     simp[h1,h2]
     omega
  ·
   rw[if_neg (by simpa using h2)];simp[h2]
 ·
  rw[if_neg (by simpa using h1)];simp[h1]
theorem qoi {h:GHunk} (e:qhw h=true):0≤h.at_∧h.at_≤60∧h.old_.length≤60∧h.new_.length≤60:=by
 unfold qhw qey at e
 simp at e
 exact ⟨e.1,e.2.1,e.2.2.1.1,e.2.2.2.1.1⟩
theorem hcheck9 {n:Nat} (hn:100<n) {l:List GHunk} (hl:l.length≤40):∀ (m k:Nat) (e:Int) (fuel:Nat),l.length-k=m→k≤l.length→m<fuel→qdz n l fuel e (k:Int)=some (if okHs e (l.drop k)=true then 0 else 8):=by
 intro m
 induction m with
 | zero =>
  intro k e fuel hm hk hf
  obtain ⟨fuel,rfl⟩:∃ k,fuel=k+1:=⟨fuel-1,by omega⟩
  rw[qdz.eq_2,if_neg (by simp;omega),List.drop_of_length_le (by omega)]
  rfl
 | succ m ih =>
  intro k e fuel hm hk hf
  obtain ⟨fuel,rfl⟩:∃ k,fuel=k+1:=⟨fuel-1,by omega⟩
  have h1:k<l.length:=by omega
  rw[qdz.eq_2,if_pos (by simp;omega),qaa h1,bsome,f_hunk_valid_eq hn,bsome,List.drop_eq_getElem_cons h1,okHs]
  cases e1:qhw l[k] with
  | false=>simp
  | true =>
   obtain ⟨v1,v2,v3,v4⟩:=qoi e1
   rw[if_neg (by simp)]
   by_cases h2:l[k].at_<e
   ·
    rw[if_pos (by simpa using h2)]
    have:¬e≤l[k].at_:=by omega
    simp[this]
   ·
    rw[if_neg (by simpa using h2),qgi (by omega) (by omega),bsome,qgi (by omega) (by omega),bsome,qm (by omega),bsome]
    refine Eq.trans (ih (k+1) _ fuel (by omega) (by omega) (by omega)) ?_
    have:e≤l[k].at_:=by omega
    simp[this]
theorem qlb {n:Nat} (hn:100<n) (l:List GHunk):qgf n l=some (hckE l):=by
 unfold qgf hckE
 by_cases h:40<l.length
 ·
  rw[if_pos (by simp;omega),if_pos h]
 ·
  rw[if_neg (by simp;omega),if_neg h]
  exact hcheck9 hn (by omega) l.length 0 0 n rfl (by omega) (by omega)
theorem len0 {α:Type} (l:List α):((l.length:Int)==0)=(l.length==0):=by
 rw[Bool.eq_iff_iff];simp
theorem f_norm_valid_eq {n:Nat} (hn:100<n) (p:GPatch):qi7 n p.path_ p.was_ p.stays_ p.hunks_=some (pvalid p):=by
 have hJ3:qfy p.was_ p.stays_ p.hunks_=some (match p.hunks_ with
   | [h]=>h.at_==0&&((p.was_||h.old_.length==0)&&(p.stays_||h.new_.length==0))
   | _=>false):=by
  unfold qfy
  cases hh:p.hunks_ with
  | nil=>simp
  | cons h t =>
   cases t with
   | cons h2 t2 =>
    have:(((h::h2::t2).length:Int) != 1)=true:=by simp;omega
    rw[if_pos this]
   | nil =>
    rw[if_neg (by simp),ixc,bsome]
    by_cases ha:h.at_=0
    ·
     rw[if_neg (by simp[ha])]
     rw[len0,len0]
     show _=some (h.at_==0&&((p.was_||h.old_.length==0)&&(p.stays_||h.new_.length==0)))
     rw[ha]
     generalize (h.old_.length==0)=b1
     generalize (h.new_.length==0)=b2
     cases p.was_ <;> cases p.stays_ <;> cases b1 <;> cases b2 <;> simp
    ·
     rw[if_pos (by simp[ha])];simp[ha]
 unfold qi7 pvalid
 rw[f_norm_path_eq _ hn,bsome,qlb hn,bsome]
 unfold qg7
 rw[hJ3]
 cases qmi p.path_ with
 | false=>simp
 | true =>
  rw[if_neg (by simp)]
  by_cases hc:hckE p.hunks_=0
  ·
   rw[hc]
   cases p.was_ <;> cases p.stays_ <;> simp
  ·
   have hc':(hckE p.hunks_==0)=false:=by simpa using hc
   cases p.was_ <;> cases p.stays_ <;> simp[hc]
theorem qr9 {n:Nat} (hn:100<n) (p:GPatch):qht n p.path_ p.was_ p.stays_ p.hunks_=some (!pvalid p):=by
 unfold qht
 rw[f_norm_valid_eq hn,bsome]
theorem check2_L5 {n:Nat} (hn:100<n) (l:List GPatch) (hl:l.length<1000000):∀ (m i:Nat),i≤l.length→l.length<m+i→∃ r:Int,qak n l m (i:Int)=some r∧decide (r≥0)=!((l.drop i).all pvalid):=by
 intro m
 induction m with
 | zero=>intro i h1 h2;omega
 | succ m ih =>
  intro i h1 h2
  rw[qak.eq_2]
  by_cases hi:i<l.length
  ·
   rw[if_pos (by simpa using hi),qaa hi,bsome,qr9 hn,bsome,List.drop_eq_getElem_cons hi,List.all_cons]
   cases e:pvalid l[i] with
   | false=>exact ⟨i,by simp,by simp⟩
   | true =>
    obtain ⟨r,h3,h4⟩:=ih (i+1) (by omega) (by omega)
    refine ⟨r,?_,by simpa using h4⟩
    rw[if_neg (by simp),qm (by omega),bsome]
    exact h3
  ·
   rw[if_neg (by simpa using hi)]
   have:i=l.length:=by omega
   subst this
   exact ⟨-1,rfl,by simp⟩
theorem check1_L5 {n:Nat} (l:List GPatch) (hl:l.length<1000000) (q:GPatch):∀ (m i:Nat),i≤l.length→l.length<m+i→∃ r:Int,qai n l q.path_ q.was_ q.stays_ q.hunks_ m (i:Int)=some r∧decide (r≥0)=((l.drop i).map GPatch.path_).contains q.path_:=by
 intro m
 induction m with
 | zero=>intro i h1 h2;omega
 | succ m ih =>
  intro i h1 h2
  rw[qai.eq_2]
  by_cases hi:i<l.length
  ·
   rw[if_pos (by simpa using hi),qaa hi,bsome,qjk,bsome,List.drop_eq_getElem_cons hi,List.map_cons,List.contains_cons]
   cases e:(l[i].path_==q.path_) with
   | true =>
    have e':(q.path_==l[i].path_)=true:=by simpa using (by simpa using e:l[i].path_=q.path_).symm
    exact ⟨i,by simp,by rw[e'];simp⟩
   | false =>
    have e':(q.path_==l[i].path_)=false:=by
     have:l[i].path_≠q.path_:=by simpa using e
     simpa using this.symm
    obtain ⟨r,h3,h4⟩:=ih (i+1) (by omega) (by omega)
    refine ⟨r,?_,by rw[e',Bool.false_or];exact h4⟩
    rw[if_neg (by simp),qm (by omega),bsome]
    exact h3
  ·
   rw[if_neg (by simpa using hi)]
   have:i=l.length:=by omega
   subst this
   exact ⟨-1,rfl,by simp⟩
theorem qf1 {n:Nat} (hn:100<n) (l:List GPatch):qe3 n l=some (nckE l):=by
 unfold qe3 nckE
 by_cases h:24<l.length
 ·
  rw[if_pos (by simp;omega),if_pos h]
 rw[if_neg (by simp;omega),if_neg h]
 have key:∀ (m k fuel:Nat),l.length-k=m→k≤l.length→m<fuel→qd0 n l fuel (k:Int)=some (if dupB ((l.take k).map GPatch.path_) ((l.drop k).map GPatch.path_)=true then 14 else if l.all pvalid=true then 0 else 8):=by
  intro m
  induction m with
  | zero =>
   intro k fuel hm hk hf
   obtain ⟨fuel,rfl⟩:∃ k,fuel=k+1:=⟨fuel-1,by omega⟩
   obtain ⟨r,h3,h4⟩:=check2_L5 hn l (by omega) n 0 (by omega) (by omega)
   rw[show ((0:Nat):Int)=0 from rfl] at h3
   rw[qd0.eq_2,if_neg (by simp;omega),List.drop_of_length_le (by omega)]
   unfold qbv qcb
   rw[h3,bsome,bsome,h4,List.drop_zero]
   cases l.all pvalid <;> simp[dupB]
  | succ m ih =>
   intro k fuel hm hk hf
   obtain ⟨fuel,rfl⟩:∃ k,fuel=k+1:=⟨fuel-1,by omega⟩
   have h1:k<l.length:=by omega
   obtain ⟨r,h3,h4⟩:=check1_L5 (n:=n) (l.take k) (by simp;omega) l[k] n 0 (by omega) (by simp;omega)
   rw[show ((0:Nat):Int)=0 from rfl] at h3
   rw[qd0.eq_2,if_pos (by simp;omega),qaa h1,bsome,qla (by omega),bsome]
   unfold qbu qb9
   rw[h3,bsome,bsome,h4,List.drop_zero,List.drop_eq_getElem_cons h1,List.map_cons,dupB]
   cases e:((l.take k).map GPatch.path_).contains l[k].path_ with
   | true=>simp
   | false =>
    rw[if_neg (by simp),qm (by omega),bsome]
    refine Eq.trans (ih (k+1) fuel (by omega) (by omega) (by omega)) ?_
    rw[List.take_succ_eq_append_getElem h1,List.map_append]
    rfl
 have:=key l.length 0 n rfl (by omega) (by omega)
 simpa using this
theorem dupB_false:∀ (ps pre:List S),dupB pre ps=false↔ps.Nodup∧∀ p∈ps,p ∉ pre
 | [],pre=>by simp[dupB]
 | p::ps,pre=>by
  rw[dupB,Bool.or_eq_false_iff,dupB_false ps,List.nodup_cons]
  simp only[List.contains_eq_mem,decide_eq_false_iff_not,List.mem_append,List.mem_cons,List.not_mem_nil,or_false]
  constructor
  ·
   rintro ⟨h1,h2,h3⟩
   refine ⟨⟨fun h=>(h3 p h) (.inr rfl),h2⟩,fun q hq=>?_⟩
   rcases hq with rfl | hq
   ·
    exact h1
   ·
    exact fun h=>h3 q hq (.inl h)
  ·
   rintro ⟨⟨h1,h2⟩,h3⟩
   refine ⟨h3 p (.inl rfl),h2,fun q hq h=>?_⟩
   rcases h with h | rfl
   ·
    exact h3 q (.inr hq) h
   ·
    exact h1 hq
theorem nckE_zero {l:List GPatch} (h1:l.length≤24) (h2:(l.map GPatch.path_).Nodup) (h3:∀ p∈l,pvalid p=true):nckE l=0:=by
 unfold nckE
 rw[if_neg (by omega),if_neg,if_pos]
 ·
  rw[List.all_eq_true];exact h3
 ·
  rw[(dupB_false _ []).2 ⟨h2,fun p _ h=>by cases h⟩];simp
end Go.Zv.G

namespace Go.Zv.G
open Go Go.Zv Go.Proofs
set_option maxRecDepth 100000
attribute [local simp high] bsome
def cutF:List S→List S→List S×List S
 | x::a,y::b=>if x=y then cutF a b else (x::a,y::b)
 | a,b=>(a,b)
def cutB (a b:List S):List S×List S:=((cutF a.reverse b.reverse).1.reverse,(cutF a.reverse b.reverse).2.reverse)
def trimL (a b:List S):List S×List S:=cutB (cutF a b).1 (cutF a b).2
theorem qlc (b:List S):cutF [] b=([],b):=by cases b <;> rfl
theorem qld (a:List S):cutF a []=(a,[]):=by cases a <;> rfl
theorem qmk (x y:S) (a b:List S):cutF (x::a) (y::b)=if x=y then cutF a b else (x::a,y::b):=rfl
theorem cutF_len:∀ (a b:List S),(cutF a b).1.length≤a.length∧(cutF a b).2.length≤b.length
 | [],b=>by rw[qlc];simp
 | x::a,[]=>by rw[qld];simp
 | x::a,y::b=>by
  rw[qmk]
  have:=cutF_len a b
  split
  ·
   simp only[List.length_cons];omega
  ·
   simp
theorem cutB_len (a b:List S):(cutB a b).1.length≤a.length∧(cutB a b).2.length≤b.length:=by
 have:=cutF_len a.reverse b.reverse
 simpa[cutB] using this
theorem qml (a b:List S):(trimL a b).1.length≤a.length∧(trimL a b).2.length≤b.length:=by
 have h1:=cutF_len a b
 have h2:=cutB_len (cutF a b).1 (cutF a b).2
 unfold trimL
 omega
theorem qq3 (b:List S):cutB [] b=([],b):=by simp[cutB,qlc]
theorem qq4 (a:List S):cutB a []=(a,[]):=by simp[cutB,qld]
theorem cutB_snoc (x y:S) (a b:List S):cutB (a++[x]) (b++[y])=if x=y then cutB a b else (a++[x],b++[y]):=by
 unfold cutB
 rw[List.reverse_append,List.reverse_append]
 show ((cutF (x::a.reverse) (y::b.reverse)).1.reverse,(cutF (x::a.reverse) (y::b.reverse)).2.reverse)=_
 rw[qmk]
 split <;> simp
theorem snoc_of {a:List S} (h:a≠[]):∃ a' x,a=a'++[x]:=⟨a.dropLast,a.getLast h,(List.dropLast_concat_getLast h).symm⟩
theorem ix_snoc {a:List S} {x:S} {i:Int} (h:i=(a.length:Int)):ix (a++[x]) i=some x:=by
 subst h
 exact ix_get (by simp)
theorem cut_snoc {a:List S} {x:S} {i:Int} (h:i=(a.length:Int)):cutI (a++[x]) 0 i=some a:=by
 subst h
 rw[qla (by simp)]
 simp
theorem trim27:∀ (m:Nat) (a b:List S) (fuel:Nat),a.length=m→m<fuel→a.length<1000000→b.length<1000000→qdi fuel a b=some (cutB a b):=by
 intro m
 induction m with
 | zero =>
  intro a b fuel hm hf ha hb
  obtain ⟨fuel,rfl⟩:∃ k,fuel=k+1:=⟨fuel-1,by omega⟩
  obtain rfl:=List.eq_nil_of_length_eq_zero hm
  have:=hlim
  rw[qdi.eq_2,if_neg (by simp),qmj (by simp),bsome,qmj (by omega),bsome,qq3]
 | succ m ih =>
  intro a b fuel hm hf ha hb
  obtain ⟨fuel,rfl⟩:∃ k,fuel=k+1:=⟨fuel-1,by omega⟩
  have hl:=hlim
  by_cases hb0:b=[]
  ·
   subst hb0
   rw[qdi.eq_2,if_neg (by simp),qmj (by omega),bsome,qmj (by simp),bsome,qq4]
  obtain ⟨b,y,rfl⟩:=snoc_of hb0
  obtain ⟨a,x,rfl⟩:=snoc_of (a:=a) (by intro e;rw[e] at hm;simp at hm)
  simp only[List.length_append,List.length_singleton] at hm ha hb
  have ea:(((a++[x]).length:Nat):Int)-1=(a.length:Int):=by simp
  have eb:(((b++[y]).length:Nat):Int)-1=(b.length:Int):=by simp
  rw[qdi.eq_2,if_pos (by simp),ea,eb,qgi (by omega) (by omega),bsome,ix_snoc rfl,bsome,qgi (by omega) (by omega),bsome,ix_snoc rfl,bsome,cutB_snoc]
  by_cases h:x=y
  ·
   rw[if_pos (by simp[h]),bsome,cut_snoc rfl,bsome,bsome,cut_snoc rfl,bsome,if_pos h]
   exact ih a b fuel (by omega) (by omega) (by omega) (by omega)
  ·
   rw[if_neg (by simp[h]),qmj (by simp;omega),bsome,qmj (by simp;omega),bsome,if_neg h]
theorem trim76 (a b:List S) (fuel:Nat) (hf:0<fuel) (h:a=[]∨b=[]) (ha:a.length<1000000) (hb:b.length<1000000):qed fuel a b=some (cutB a b):=by
 obtain ⟨fuel,rfl⟩:∃ k,fuel=k+1:=⟨fuel-1,by omega⟩
 have hl:=hlim
 have e:cutB a b=(a,b):=by
  rcases h with rfl | rfl
  ·
   exact qq3 b
  ·
   exact qq4 a
 rw[qed.eq_2,if_neg (by rcases h with rfl | rfl <;> simp),qmj (by omega),bsome,qmj (by omega),bsome,e]
theorem f_norm_trim_eq {n:Nat} {a b:List S} (ha:a.length<1000000) (hb:b.length<1000000) (hn:a.length<n):qju n a b=some (trimL a b):=by
 unfold qju trimL
 have key:∀ (m:Nat) (a b:List S) (fuel:Nat),a.length=m→m<fuel→a.length<1000000→b.length<1000000→a.length<n→qdu n fuel a b=some (cutB (cutF a b).1 (cutF a b).2):=by
  intro m
  induction m with
  | zero =>
   intro a b fuel hm hf ha hb hn
   obtain ⟨fuel,rfl⟩:∃ k,fuel=k+1:=⟨fuel-1,by omega⟩
   obtain rfl:=List.eq_nil_of_length_eq_zero hm
   rw[qdu.eq_2,if_neg (by simp),qlc]
   exact trim76 [] b n (by omega) (.inl rfl) (by simp) hb
  | succ m ih =>
   intro a b fuel hm hf ha hb hn
   obtain ⟨fuel,rfl⟩:∃ k,fuel=k+1:=⟨fuel-1,by omega⟩
   cases a with
   | nil=>simp at hm
   | cons x a =>
    cases b with
    | nil =>
     rw[qdu.eq_2,if_neg (by simp),qld]
     exact trim76 _ [] n (by omega) (.inr rfl) ha (by simp)
    | cons y b =>
     simp only[List.length_cons] at hm ha hb hn
     have c1:cutI (x::a) 1 ((x::a).length:Int)=some a:=cut1
     have c2:cutI (y::b) 1 ((y::b).length:Int)=some b:=cut1
     rw[qdu.eq_2,if_pos (by simp),ixc,bsome,ixc,bsome,qmk]
     by_cases h:x=y
     ·
      rw[if_pos (by simp[h]),c1,bsome,c2,bsome,if_pos h]
      exact ih a b fuel (by omega) (by omega) (by omega) (by omega) (by omega)
     ·
      rw[if_neg (by simp[h]),if_neg h]
      exact trim27 (a.length+1) (x::a) (y::b) n (by simp) (by omega) (by simp;omega) (by simp;omega)
 exact key a.length a b n rfl hn ha hb hn
def qc0:Int→List GHunk→List GHunk
 | _,[]=>[]
 | at_,h::hs=>if 0<(trimL h.old_ h.new_).1.length+(trimL h.old_ h.new_).2.length then ⟨at_,(trimL h.old_ h.new_).1,(trimL h.old_ h.new_).2⟩::qc0 (at_+((trimL h.old_ h.new_).1.length:Int)+1) hs else qc0 at_ hs
def normP (p:GPatch):GPatch:=⟨p.path_,p.was_,p.stays_,qc0 0 p.hunks_⟩
def qil (l:List GPatch):List GPatch:=(l.map normP).filter fun p=>decide (p.hunks_≠[])
def normG (l:List GPatch):List GPatch:=sortP (qil l)
def Small (p:GPatch):Prop:=p.hunks_.length≤1000∧∀ h∈p.hunks_,h.old_.length≤1000∧h.new_.length≤1000
theorem norm23 {n:Nat} (hn:1000<n) (p:GPatch) (hp:Small p) (v7:List GPatch) (v8:Int) (rec:List GPatch→Int→Option (List GPatch)):∀ (m k:Nat) (acc:List GHunk) (at_:Int) (fuel:Nat),p.hunks_.length-k=m→k≤p.hunks_.length→m<fuel→acc.length+m≤2000→0≤at_→at_≤2000*(k:Int) →
  qdj n v7 v8 p rec fuel acc at_ (k:Int)=if acc++qc0 at_ (p.hunks_.drop k)≠[] then (need (v7.length+1≤lim)).bind fun _=>(rng (v8+1)).bind fun i=>rec (v7++[⟨p.path_,p.was_,p.stays_,acc++qc0 at_ (p.hunks_.drop k)⟩]) i else (rng (v8+1)).bind fun i=>rec v7 i:=by
 intro m
 induction m with
 | zero =>
  intro k acc at_ fuel hm hk hf ha h1 h2
  obtain ⟨fuel,rfl⟩:∃ k,fuel=k+1:=⟨fuel-1,by omega⟩
  rw[qdj.eq_2,if_neg (by simp;omega),List.drop_of_length_le (by omega),qc0,List.append_nil]
  cases acc with
  | nil=>rw[if_neg (by simp),if_neg (by simp)]
  | cons x acc=>rw[if_pos (by simp),if_pos (by simp)]
 | succ m ih =>
  intro k acc at_ fuel hm hk hf ha h1 h2
  obtain ⟨fuel,rfl⟩:∃ k,fuel=k+1:=⟨fuel-1,by omega⟩
  have hk1:k<p.hunks_.length:=by omega
  obtain ⟨s1,s2⟩:=hp.2 _ (List.getElem_mem hk1)
  have s0:=hp.1
  have hl:=hlim
  obtain ⟨t1,t2⟩:=qml p.hunks_[k].old_ p.hunks_[k].new_
  rw[qdj.eq_2,if_pos (by simp;omega),qaa hk1,bsome,f_norm_trim_eq (by omega) (by omega) (by omega),bsome,qgi (by omega) (by omega),bsome,List.drop_eq_getElem_cons hk1,qc0]
  by_cases hc:0<(trimL p.hunks_[k].old_ p.hunks_[k].new_).1.length+(trimL p.hunks_[k].old_ p.hunks_[k].new_).2.length
  ·
   rw[if_pos (by rw[decide_eq_true_eq];omega),if_pos hc,qkt (by omega),bsome,qgi (by omega) (by omega),bsome,qgi (by omega) (by omega),bsome,qm (by omega),bsome]
   refine Eq.trans (ih (k+1) _ _ fuel (by omega) (by omega) (by omega) (by simp;omega) (by omega) (by omega)) ?_
   rw[List.append_assoc,List.singleton_append,Int.add_assoc]
  ·
   rw[if_neg (by rw[decide_eq_true_eq];omega),if_neg hc,qm (by omega),bsome]
   exact ih (k+1) acc at_ fuel (by omega) (by omega) (by omega) (by omega) h1 (by omega)
theorem nodupG_iff:∀ l:List S,nodupG l=true↔l.Nodup
 | []=>by simp[nodupG]
 | x::xs=>by simp[nodupG,nodupG_iff xs]
theorem qr0 {l:List GPatch} (h:(l.map GPatch.path_).Nodup):((qil l).map GPatch.path_).Nodup:=by
 have e:(l.map GPatch.path_)=((l.map normP).map GPatch.path_):=by rw[List.map_map];rfl
 rw[e] at h
 exact h.sublist ((List.filter_sublist).map _)
theorem qjn {n:Nat} (hn:2000<n) {l:List GPatch} (hl:l.length≤100) (hs:∀ p∈l,Small p) (hd:(l.map GPatch.path_).Nodup):qf9 n l=some (normG l):=by
 have hlm:=hlim
 unfold qf9
 have key:∀ (m k:Nat) (acc:List GPatch) (fuel:Nat),l.length-k=m→k≤l.length→m+1001<fuel→acc.length+m≤1000→qcw n l fuel acc (k:Int)=sortG (acc++qil (l.drop k)):=by
  intro m
  induction m with
  | zero =>
   intro k acc fuel hm hk hf ha
   obtain ⟨fuel,rfl⟩:∃ k,fuel=k+1:=⟨fuel-1,by omega⟩
   rw[qcw.eq_2,if_neg (by simp;omega),List.drop_of_length_le (by omega)]
   show _=sortG (acc++[])
   rw[List.append_nil]
   cases sortG acc <;> rfl
  | succ m ih =>
   intro k acc fuel hm hk hf ha
   obtain ⟨fuel,rfl⟩:∃ k,fuel=k+1:=⟨fuel-1,by omega⟩
   have h1:k<l.length:=by omega
   have hp:=hs _ (List.getElem_mem h1)
   have hp0:=hp.1
   have h23:=norm23 (n:=n) (by omega) l[k] hp acc (k:Int) (fun a b=>qcw n l fuel a b) l[k].hunks_.length 0 [] 0 fuel (by omega) (by omega) (by omega) (by simp;omega) (by omega) (by omega)
   rw[qcw.eq_2,if_pos (by simp;omega),qaa h1,bsome]
   refine Eq.trans h23 ?_
   rw[List.drop_zero,List.nil_append,qm (by omega),bsome,qkt (by omega),bsome,List.drop_eq_getElem_cons h1]
   have e:qil (l[k]::l.drop (k+1))=if qc0 0 l[k].hunks_≠[] then normP l[k]::qil (l.drop (k+1)) else qil (l.drop (k+1)):=by
    unfold qil
    rw[List.map_cons,List.filter_cons]
    show (if decide (qc0 0 l[k].hunks_≠[])=true then _ else _)=_
    by_cases h:qc0 0 l[k].hunks_≠[] <;> simp[h]
   rw[e]
   by_cases h:qc0 0 l[k].hunks_≠[]
   ·
    rw[if_pos h,if_pos h]
    refine Eq.trans (ih (k+1) _ fuel (by omega) (by omega) (by omega) (by simp;omega)) ?_
    rw[List.append_assoc,List.singleton_append]
    rfl
   ·
    rw[if_neg h,if_neg h]
    exact ih (k+1) acc fuel (by omega) (by omega) (by omega) (by omega)
 have:=key l.length 0 [] n rfl (by omega) (by omega) (by simp;omega)
 refine Eq.trans this ?_
 rw[List.nil_append,List.drop_zero]
 have hle:(qil l).length≤l.length:=by
  unfold qil
  refine Nat.le_trans (List.length_filter_le _ _) (by simp)
 exact if_pos ⟨by omega,(nodupG_iff _).2 (qr0 hd)⟩
theorem qkj {p:GPatch} (h:pvalid p=true):Small p:=by
 unfold pvalid at h
 simp only[Bool.and_eq_true,beq_iff_eq] at h
 obtain ⟨h1,h2⟩:=show p.hunks_.length≤40∧okHs 0 p.hunks_=true by
  have:=h.2.2.1
  unfold hckE at this
  split at this
  ·
   cases this
  ·
   split at this
   ·
    rename_i a b;exact ⟨by omega,b⟩
   ·
    cases this
 refine ⟨by omega,?_⟩
 have key:∀ (l:List GHunk) (e:Int),okHs e l=true→∀ x∈l,x.old_.length≤1000∧x.new_.length≤1000:=by
  intro l
  induction l with
  | nil=>intro e _ x hx;cases hx
  | cons y l ih =>
   intro e h x hx
   rw[okHs,Bool.and_eq_true,Bool.and_eq_true] at h
   rcases List.mem_cons.1 hx with rfl | hx
   ·
    obtain ⟨_,_,q3,q4⟩:=qoi h.1
    exact ⟨by omega,by omega⟩
   ·
    exact ih _ h.2.2 x hx
 exact key _ _ h2
theorem qf7 {l:List GPatch} (h:nckE l=0):l.length≤24∧(l.map GPatch.path_).Nodup∧∀ p∈l,pvalid p=true:=by
 unfold nckE at h
 split at h
 ·
  cases h
 ·
  rename_i h1
  split at h
  ·
   cases h
  ·
   rename_i h2
   split at h
   ·
    rename_i h3
    have hd:dupB [] (l.map GPatch.path_)=false:=by simpa using h2
    have key:∀ (ps pre:List S),dupB pre ps=false→ps.Nodup∧∀ p∈ps,p ∉ pre:=by
     intro ps
     induction ps with
     | nil=>intro pre _;simp
     | cons p ps ih =>
      intro pre h
      rw[dupB,Bool.or_eq_false_iff] at h
      obtain ⟨i1,i2⟩:=ih _ h.2
      have hp:p ∉ pre:=by simpa using h.1
      refine ⟨List.nodup_cons.2 ⟨fun hm=>i2 p hm (by simp),i1⟩,fun q hq=>?_⟩
      rcases List.mem_cons.1 hq with rfl | hq
      ·
       exact hp
      ·
       exact fun hm=>i2 q hq (by simp[hm])
    exact ⟨by omega,(key _ _ hd).1,List.all_eq_true.1 h3⟩
   ·
    cases h
end Go.Zv.G
namespace Go.Zv.G
open Go Go.Zv Go.Proofs
set_option maxRecDepth 100000
attribute [local simp high] bsome
theorem refSame_L8 {p q:List S} (hpq:p.length=q.length) (hb:p.length<1000000):∀ (m k fuel:Nat),p.length-k=m→k≤p.length→m<fuel→qb0 p q fuel (k:Int)=some (decide (p.drop k=q.drop k)):=by
 intro m
 induction m with
 | zero =>
  intro k fuel hm hk hf
  obtain ⟨fuel,rfl⟩:∃ k,fuel=k+1:=⟨fuel-1,by omega⟩
  rw[qb0.eq_2,if_neg (by simp;omega),List.drop_of_length_le (by omega),List.drop_of_length_le (by omega)]
  simp
 | succ m ih =>
  intro k fuel hm hk hf
  obtain ⟨fuel,rfl⟩:∃ k,fuel=k+1:=⟨fuel-1,by omega⟩
  have h1:k<p.length:=by omega
  have h2:k<q.length:=by omega
  rw[qb0.eq_2,if_pos (by simp;omega),qaa h1,bsome,qaa h2,bsome,List.drop_eq_getElem_cons h1,List.drop_eq_getElem_cons h2]
  by_cases h:p[k]=q[k]
  ·
   rw[if_neg (by simp[h]),qm (by omega),bsome]
   refine Eq.trans (ih (k+1) fuel (by omega) (by omega) (by omega)) ?_
   exact congrArg some (decide_eq_decide.2 (by rw[List.cons.injEq];exact ⟨fun x=>⟨h,x⟩,fun x=>x.2⟩))
  ·
   rw[if_pos (by simp[h])]
   exact congrArg some (decide_eq_false (by rw[List.cons.injEq];exact fun x=>h x.1)).symm
theorem qkv {n:Nat} {p q:List S} (hb:p.length<1000000) (hn:p.length<n):qex n p q=some (decide (p=q)):=by
 unfold qex
 by_cases h:p.length=q.length
 ·
  rw[if_neg (by simp[h])]
  have:=refSame_L8 h hb p.length 0 n rfl (by omega) hn
  simpa using this
 ·
  rw[if_pos (by simp;omega)]
  have:p≠q:=fun e=>h (by rw[e])
  simp[this]
theorem hunk_eta {a b:GHunk}:a=b↔a.at_=b.at_∧a.old_=b.old_∧a.new_=b.new_:=by
 cases a;cases b;simp
theorem patch_eta {a b:GPatch}:a=b↔a.path_=b.path_∧a.was_=b.was_∧a.stays_=b.stays_∧a.hunks_=b.hunks_:=by
 cases a;cases b;simp
instance:DecidableEq GHunk:=fun _ _=>decidable_of_iff' _ hunk_eta
instance:DecidableEq GPatch:=fun _ _=>decidable_of_iff' _ patch_eta
def HFit (n:Nat) (l:List GHunk):Prop:=l.length<1000000∧l.length<n∧∀ h∈l,h.old_.length<1000000∧h.new_.length<1000000∧h.old_.length<n∧h.new_.length<n
theorem qr1 {n:Nat} (a b:GHunk) (h:a.old_.length<1000000∧a.new_.length<1000000∧a.old_.length<n∧a.new_.length<n):qg9 n a.at_ a.old_ a.new_ b.at_ b.old_ b.new_=some (decide (a=b)):=by
 unfold qg9
 rw[qjb h.1 h.2.2.1,bsome,qjb h.2.1 h.2.2.2,bsome]
 have e:=hunk_eta (a:=a) (b:=b)
 by_cases h1:a.at_=b.at_ <;> by_cases h2:a.old_=b.old_ <;> by_cases h3:a.new_=b.new_ <;> simp[e,h1,h2,h3]
theorem eqF_Hunk {n:Nat} {p q:List GHunk} (hp:HFit n p):qa8 n p q=some (decide (p=q)):=by
 unfold qa8
 by_cases hl:p.length=q.length
 case neg =>
  rw[if_pos (by simp;omega)]
  have:p≠q:=fun e=>hl (by rw[e])
  simp[this]
 rw[if_neg (by simp[hl])]
 obtain ⟨g1,g2,g3⟩:=hp
 have key:∀ (m k fuel:Nat),p.length-k=m→k≤p.length→m<fuel→qab n p q fuel (k:Int)=some (decide (p.drop k=q.drop k)):=by
  intro m
  induction m with
  | zero =>
   intro k fuel hm hk hf
   obtain ⟨fuel,rfl⟩:∃ k,fuel=k+1:=⟨fuel-1,by omega⟩
   rw[qab.eq_2,if_neg (by simp;omega),List.drop_of_length_le (by omega),List.drop_of_length_le (by omega)]
   simp
  | succ m ih =>
   intro k fuel hm hk hf
   obtain ⟨fuel,rfl⟩:∃ k,fuel=k+1:=⟨fuel-1,by omega⟩
   have h1:k<p.length:=by omega
   have h2:k<q.length:=by omega
   rw[qab.eq_2,if_pos (by simp;omega),qaa h1,bsome,qaa h2,bsome,qr1 _ _ (g3 _ (List.getElem_mem h1)),bsome,List.drop_eq_getElem_cons h1,List.drop_eq_getElem_cons h2]
   by_cases h:p[k]=q[k]
   ·
    rw[if_neg (by simp[h]),qm (by omega),bsome]
    refine Eq.trans (ih (k+1) fuel (by omega) (by omega) (by omega)) ?_
    exact congrArg some (decide_eq_decide.2 (by rw[List.cons.injEq];exact ⟨fun x=>⟨h,x⟩,fun x=>x.2⟩))
   ·
    rw[if_pos (by simp[h])]
    exact congrArg some (decide_eq_false (by rw[List.cons.injEq];exact fun x=>h x.1)).symm
 have:=key p.length 0 n rfl (by omega) g2
 simpa using this
theorem qsh {n:Nat} (a b:GPatch) (h:HFit n a.hunks_):qij n a.path_ a.was_ a.stays_ a.hunks_ b.path_ b.was_ b.stays_ b.hunks_=some (decide (a=b)):=by
 unfold qij
 rw[eqF_Hunk h,bsome]
 have e:=patch_eta (a:=a) (b:=b)
 by_cases h1:a.path_=b.path_ <;> by_cases h2:a.was_=b.was_ <;> by_cases h3:a.stays_=b.stays_ <;> by_cases h4:a.hunks_=b.hunks_ <;> simp[e,h1,h2,h3,h4]
theorem f_norm_same_eq {n:Nat} {p q:List GPatch} (hp:p.length<1000000) (hn:p.length<n) (hx:∀ x∈p,HFit n x.hunks_):qjw n p q=some (decide (p=q)):=by
 unfold qjw qcj
 by_cases hl:p.length=q.length
 case neg =>
  rw[if_pos (by simp;omega),bsome]
  have:p≠q:=fun e=>hl (by rw[e])
  simp[this]
 rw[if_neg (by simp[hl])]
 have key:∀ (m k fuel:Nat),p.length-k=m→k≤p.length→m<fuel→qad n p q fuel (k:Int)=some (decide (p.drop k=q.drop k)):=by
  intro m
  induction m with
  | zero =>
   intro k fuel hm hk hf
   obtain ⟨fuel,rfl⟩:∃ k,fuel=k+1:=⟨fuel-1,by omega⟩
   rw[qad.eq_2,if_neg (by simp;omega),List.drop_of_length_le (by omega),List.drop_of_length_le (by omega)]
   simp
  | succ m ih =>
   intro k fuel hm hk hf
   obtain ⟨fuel,rfl⟩:∃ k,fuel=k+1:=⟨fuel-1,by omega⟩
   have h1:k<p.length:=by omega
   have h2:k<q.length:=by omega
   rw[qad.eq_2,if_pos (by simp;omega),qaa h1,bsome,qaa h2,bsome,qsh _ _ (hx _ (List.getElem_mem h1)),bsome,List.drop_eq_getElem_cons h1,List.drop_eq_getElem_cons h2]
   by_cases h:p[k]=q[k]
   ·
    rw[if_neg (by simp[h]),qm (by omega),bsome]
    refine Eq.trans (ih (k+1) fuel (by omega) (by omega) (by omega)) ?_
    exact congrArg some (decide_eq_decide.2 (by rw[List.cons.injEq];exact ⟨fun x=>⟨h,x⟩,fun x=>x.2⟩))
   ·
    rw[if_pos (by simp[h])]
    exact congrArg some (decide_eq_false (by rw[List.cons.injEq];exact fun x=>h x.1)).symm
 have:=key p.length 0 n rfl (by omega) hn
 rw[show ((0:Nat):Int)=0 from rfl] at this
 rw[this,bsome,List.drop_zero,List.drop_zero]
theorem ref15_Same_eq {n:Nat} {p q:List GHunk} (hp:HFit n p):qfw n p q=some (decide (p=q)):=by
 unfold qfw
 by_cases hl:p.length=q.length
 case neg =>
  rw[if_pos (by simp;omega)]
  have:p≠q:=fun e=>hl (by rw[e])
  simp[this]
 rw[if_neg (by simp[hl])]
 obtain ⟨g1,g2,g3⟩:=hp
 have key:∀ (m k fuel:Nat),p.length-k=m→k≤p.length→m<fuel→qb1 n p q fuel (k:Int)=some (decide (p.drop k=q.drop k)):=by
  intro m
  induction m with
  | zero =>
   intro k fuel hm hk hf
   obtain ⟨fuel,rfl⟩:∃ k,fuel=k+1:=⟨fuel-1,by omega⟩
   rw[qb1.eq_2,if_neg (by simp;omega),List.drop_of_length_le (by omega),List.drop_of_length_le (by omega)]
   simp
  | succ m ih =>
   intro k fuel hm hk hf
   obtain ⟨fuel,rfl⟩:∃ k,fuel=k+1:=⟨fuel-1,by omega⟩
   have h1:k<p.length:=by omega
   have h2:k<q.length:=by omega
   obtain ⟨b1,b2,b3,b4⟩:=g3 _ (List.getElem_mem h1)
   rw[qb1.eq_2,if_pos (by simp;omega),qaa h1,bsome,qaa h2,bsome,qkv b1 b3,bsome,qkv b2 b4,bsome,List.drop_eq_getElem_cons h1,List.drop_eq_getElem_cons h2]
   have hno:∀ {c:Bool},p[k]≠q[k]→some false=some (decide (p[k]::p.drop (k+1)=q[k]::q.drop (k+1))):=fun h=>congrArg some (decide_eq_false (by rw[List.cons.injEq];exact fun x=>h x.1)).symm
   by_cases e1:p[k].at_=q[k].at_
   ·
    rw[if_neg (by simp[e1])]
    by_cases e2:p[k].old_=q[k].old_
    ·
     rw[if_neg (by simp[e2])]
     by_cases e3:p[k].new_=q[k].new_
     ·
      rw[if_neg (by simp[e3]),qm (by omega),bsome]
      refine Eq.trans (ih (k+1) fuel (by omega) (by omega) (by omega)) ?_
      have h:=hunk_eta.2 ⟨e1,e2,e3⟩
      exact congrArg some (decide_eq_decide.2 (by rw[List.cons.injEq];exact ⟨fun x=>⟨h,x⟩,fun x=>x.2⟩))
     ·
      rw[if_pos (by simp[e3])];exact hno (c:=true) fun h=>e3 (by rw[h])
    ·
     rw[if_pos (by simp[e2])];exact hno (c:=true) fun h=>e2 (by rw[h])
   ·
    rw[if_pos (by simp[e1])];exact hno (c:=true) fun h=>e1 (by rw[h])
 have:=key p.length 0 n rfl (by omega) g2
 simpa using this
end Go.Zv.G
namespace Go.Zv.G
open Go Go.Zv Go.Proofs
set_option maxRecDepth 100000
attribute [local simp high] bsome
theorem qfl {n:Nat} {p q:List GPatch} (hp:p.length<1000000) (hn:p.length<n) (hx:∀ x∈p,HFit n x.hunks_):qdb n p q=some (decide (p=q)):=by
 unfold qdb
 by_cases hl:p.length=q.length
 case neg =>
  rw[if_pos (by simp;omega)]
  have:p≠q:=fun e=>hl (by rw[e])
  simp[this]
 rw[if_neg (by simp[hl])]
 have key:∀ (m k fuel:Nat),p.length-k=m→k≤p.length→m<fuel→qbp n p q fuel (k:Int)=some (decide (p.drop k=q.drop k)):=by
  intro m
  induction m with
  | zero =>
   intro k fuel hm hk hf
   obtain ⟨fuel,rfl⟩:∃ k,fuel=k+1:=⟨fuel-1,by omega⟩
   rw[qbp.eq_2,if_neg (by simp;omega),List.drop_of_length_le (by omega),List.drop_of_length_le (by omega)]
   simp
  | succ m ih =>
   intro k fuel hm hk hf
   obtain ⟨fuel,rfl⟩:∃ k,fuel=k+1:=⟨fuel-1,by omega⟩
   have h1:k<p.length:=by omega
   have h2:k<q.length:=by omega
   rw[qbp.eq_2,if_pos (by simp;omega),qaa h1,bsome,qaa h2,bsome,ref15_Same_eq (hx _ (List.getElem_mem h1)),bsome,List.drop_eq_getElem_cons h1,List.drop_eq_getElem_cons h2]
   have hno:p[k]≠q[k]→some false=some (decide (p[k]::p.drop (k+1)=q[k]::q.drop (k+1))):=fun h=>congrArg some (decide_eq_false (by rw[List.cons.injEq];exact fun x=>h x.1)).symm
   by_cases e1:p[k].path_=q[k].path_∧p[k].was_=q[k].was_∧p[k].stays_=q[k].stays_
   ·
    rw[if_neg (by simp[e1.1,e1.2.1,e1.2.2])]
    by_cases e2:p[k].hunks_=q[k].hunks_
    ·
     rw[if_neg (by simp[e2]),qm (by omega),bsome]
     refine Eq.trans (ih (k+1) fuel (by omega) (by omega) (by omega)) ?_
     have h:=patch_eta.2 ⟨e1.1,e1.2.1,e1.2.2,e2⟩
     exact congrArg some (decide_eq_decide.2 (by rw[List.cons.injEq];exact ⟨fun x=>⟨h,x⟩,fun x=>x.2⟩))
    ·
     rw[if_pos (by simp[e2])];exact hno fun h=>e2 (by rw[h])
   ·
    rw[if_pos]
    ·
     exact hno fun h=>e1 (by rw[h];exact ⟨rfl,rfl,rfl⟩)
    ·
     simp only[Bool.or_eq_true,Bool.not_eq_true',beq_eq_false_iff_ne]
     by_cases c1:p[k].path_=q[k].path_
     ·
      by_cases c2:p[k].was_=q[k].was_
      ·
       by_cases c3:p[k].stays_=q[k].stays_
       ·
        exact absurd ⟨c1,c2,c3⟩ e1
       ·
        exact .inr c3
      ·
       exact .inl (.inr c2)
     ·
      exact .inl (.inl c1)
 have:=key p.length 0 n rfl (by omega) hn
 simpa using this
theorem hfit_of {n:Nat} (hn:2000<n) {p:GPatch} (h:Small p):HFit n p.hunks_ :=
 ⟨by have:=h.1;omega,by have:=h.1;omega,fun x hx=>by
  obtain ⟨a,b⟩:=h.2 x hx
  exact ⟨by omega,by omega,by omega,by omega⟩⟩
theorem qns:∀ (l:List GHunk) (e:Int),(∀ h∈l,h.old_.length≤1000∧h.new_.length≤1000)→(qc0 e l).length≤l.length∧∀ h∈qc0 e l,h.old_.length≤1000∧h.new_.length≤1000
 | [],e,_=>by simp[qc0]
 | h::l,e,hx=>by
  obtain ⟨a,b⟩:=hx h (by simp)
  obtain ⟨t1,t2⟩:=qml h.old_ h.new_
  rw[qc0]
  split
  ·
   obtain ⟨i1,i2⟩:=qns l (e+((trimL h.old_ h.new_).1.length:Int)+1) fun y hy=>hx y (by simp[hy])
   refine ⟨by simp only[List.length_cons];omega,fun y hy=>?_⟩
   rcases List.mem_cons.1 hy with rfl | hy
   ·
    exact ⟨by show (trimL h.old_ h.new_).1.length≤1000;omega,by show (trimL h.old_ h.new_).2.length≤1000;omega⟩
   ·
    exact i2 y hy
  ·
   obtain ⟨i1,i2⟩:=qns l e fun y hy=>hx y (by simp[hy])
   exact ⟨by simp only[List.length_cons];omega,i2⟩
theorem normP_small {p:GPatch} (h:Small p):Small (normP p):=by
 obtain ⟨a,b⟩:=qns p.hunks_ 0 h.2
 exact ⟨Nat.le_trans a h.1,b⟩
theorem insG_mem (r:GPatch):∀ {l:List GPatch} {x:GPatch},x∈insG r l↔x=r∨x∈l
 | [],x=>by simp[insG]
 | y::l,x=>by
  unfold insG
  split
  ·
   simp only[List.mem_cons,insG_mem r (l:=l)];exact ⟨fun h=>h.elim (fun h=>.inr (.inl h)) fun h=>h.elim .inl fun h=>.inr (.inr h),fun h=>h.elim (fun h=>.inr (.inl h)) fun h=>h.elim .inl fun h=>.inr (.inr h)⟩
  ·
   simp
theorem insG_len (r:GPatch):∀ l:List GPatch,(insG r l).length=l.length+1
 | []=>rfl
 | y::l=>by
  unfold insG
  split
  ·
   simp[insG_len r l]
  ·
   simp
theorem qoj:∀ {l:List GPatch} {x:GPatch},x∈sortP l↔x∈l
 | [],x=>by simp[sortP]
 | y::l,x=>by rw[sortP,insG_mem,qoj,List.mem_cons]
theorem sortP_len:∀ l:List GPatch,(sortP l).length=l.length
 | []=>rfl
 | y::l=>by rw[sortP,insG_len,sortP_len,List.length_cons]
theorem normG_len (l:List GPatch):(normG l).length≤l.length:=by
 unfold normG qil
 rw[sortP_len]
 exact Nat.le_trans (List.length_filter_le _ _) (by simp)
theorem normG_small {l:List GPatch} (h:∀ p∈l,Small p):∀ p∈normG l,Small p:=by
 intro p hp
 unfold normG qil at hp
 have:=(List.mem_filter.1 (qoj.1 hp)).1
 obtain ⟨q,hq,rfl⟩:=List.mem_map.1 this
 exact normP_small (h q hq)
theorem qlv {n:Nat} (hn:2000<n) {a b:List GPatch} (ha:nckE a=0) (hb:nckE b=0):qgb n a b=some (decide (normG a=normG b),0):=by
 obtain ⟨a1,a2,a3⟩:=qf7 ha
 obtain ⟨b1,b2,b3⟩:=qf7 hb
 have hsa:∀ p∈a,Small p:=fun p hp=>qkj (a3 p hp)
 have hsb:∀ p∈b,Small p:=fun p hp=>qkj (b3 p hp)
 have hl:=normG_len a
 unfold qgb
 rw[qf1 (by omega),ha,bsome,if_neg (by simp),qf1 (by omega),hb,bsome,if_neg (by simp),qjn hn (by omega) hsa a2,bsome,qjn hn (by omega) hsb b2,bsome,
  f_norm_same_eq (by omega) (by omega) (fun p hp=>hfit_of hn (normG_small hsa p hp)),bsome]
end Go.Zv.G
namespace Go.Zv.G
open Go Go.Zv Go.Proofs
set_option maxRecDepth 100000
attribute [local simp high] bsome
theorem feed_L5 {n:Nat} (hn:3000<n) (l:List S) (hl:l.length<1000000) (hx:∀ s∈l,s.length≤2000):∀ (m i fuel:Nat),l.length-i=m→i≤l.length→m<fuel→qby n l fuel (i:Int)=some ((l.drop i).any oddLn):=by
 intro m
 induction m with
 | zero =>
  intro i fuel hm hi hf
  obtain ⟨fuel,rfl⟩:∃ k,fuel=k+1:=⟨fuel-1,by omega⟩
  rw[qby.eq_2,if_neg (by simp;omega),List.drop_of_length_le (by omega)]
  rfl
 | succ m ih =>
  intro i fuel hm hi hf
  obtain ⟨fuel,rfl⟩:∃ k,fuel=k+1:=⟨fuel-1,by omega⟩
  have h1:i<l.length:=by omega
  have h2:=hx l[i] (List.getElem_mem h1)
  rw[qby.eq_2,if_pos (by simp;omega),qaa h1,bsome,qo7 _ (by omega) (by omega),bsome,List.drop_eq_getElem_cons h1,List.any_cons,qke]
  by_cases h:(10:UInt8)∈l[i]
  ·
   have:=(qki (c:=10) (s:=l[i])).2 h
   rw[if_pos (by simp;omega)]
   simp[oddLn,h]
  ·
   have:¬0<cnt8 10 l[i]:=fun e=>h (qki.1 e)
   rw[if_neg (by simp;omega),qm (by omega),bsome]
   refine Eq.trans (ih (i+1) fuel (by omega) (by omega) (by omega)) ?_
   simp[oddLn,h]
theorem qps {n:Nat} (hn:3000<n) (l:List S) (hl:l.length<1000000) (hl':l.length<n) (hx:∀ s∈l,s.length≤2000):qfu n l=some (l.any oddLn):=by
 unfold qfu
 exact feed_L5 hn l hl hx l.length 0 n rfl (by omega) hl'
theorem plain_L5r {n:Nat} (hn:3000<n) (l:List S) (hl:l.length<1000000) (hl':l.length<n):∀ (m i fuel:Nat),l.length-i=m→i≤l.length→m<fuel→(∀ s∈l.take i,s.length≤2000)→qbo n l fuel (i:Int)=some (qey l):=by
 intro m
 induction m with
 | zero =>
  intro i fuel hm hi hf hx
  obtain ⟨fuel,rfl⟩:∃ k,fuel=k+1:=⟨fuel-1,by omega⟩
  have e:i=l.length:=by omega
  subst e
  rw[List.take_length] at hx
  rw[qbo.eq_2,if_neg (by simp)]
  have hbad:l.any badLn=l.any oddLn:=by
   rw[Bool.eq_iff_iff,List.any_eq_true,List.any_eq_true]
   refine ⟨fun ⟨s,h1,h2⟩=>⟨s,h1,?_⟩,fun ⟨s,h1,h2⟩=>⟨s,h1,by unfold badLn;simp[h2]⟩⟩
   have:=hx s h1
   unfold badLn at h2
   simpa[show ¬2000<s.length by omega] using h2
  unfold qey
  rw[hbad]
  by_cases h:l.length≤60
  ·
   rw[if_pos (by simp;omega),qps hn l hl hl' hx,bsome]
   simp[h]
  ·
   rw[if_neg (by simp;omega)]
   simp[h]
 | succ m ih =>
  intro i fuel hm hi hf hx
  obtain ⟨fuel,rfl⟩:∃ k,fuel=k+1:=⟨fuel-1,by omega⟩
  have h1:i<l.length:=by omega
  rw[qbo.eq_2,if_pos (by simp;omega),qaa h1,bsome]
  by_cases h:2000<l[i].length
  ·
   rw[if_pos (by simp;omega)]
   have:l.any badLn=true:=by
    rw[List.any_eq_true]
    exact ⟨l[i],List.getElem_mem h1,by unfold badLn;simp[h]⟩
   unfold qey
   rw[this];simp
  ·
   rw[if_neg (by simp;omega),qm (by omega),bsome]
   refine ih (i+1) fuel (by omega) (by omega) (by omega) fun s hs=>?_
   rw[List.take_succ_eq_append_getElem h1,List.mem_append,List.mem_singleton] at hs
   rcases hs with hs | rfl
   ·
    exact hx s hs
   ·
    omega
theorem qj0 {n:Nat} (hn:3000<n) (l:List S) (hl:l.length<1000000) (hl':l.length<n):qei n l=some (qey l):=by
 unfold qei
 exact plain_L5r hn l hl hl' l.length 0 n rfl (by omega) hl' (fun s hs=>by simp at hs)
def Fits (n:Nat) (h:GHunk):Prop:=h.old_.length<1000000∧h.new_.length<1000000∧h.old_.length<n∧h.new_.length<n
theorem qo8 {n:Nat} (hn:3000<n) (h:GHunk) (hf:Fits n h):qfd n h.at_ h.old_ h.new_=some (qhw h):=by
 unfold qfd qhw
 rw[qj0 hn _ hf.1 hf.2.2.1,bsome,qj0 hn _ hf.2.1 hf.2.2.2,bsome]
 by_cases h1:0≤h.at_
 ·
  rw[if_pos (by simpa using h1)]
  by_cases h2:h.at_≤60
  ·
   rw[if_pos (by simpa using h2)]
   cases qey h.old_ with
   | false=>simp
   | true =>
    cases qey h.new_ with
    | false=>simp
    | true =>
     rw[if_pos rfl,if_pos rfl]
     by_cases h3:0<h.old_.length
     ·
      rw[if_pos (by simp;omega)]
      have:decide (0<h.old_.length+h.new_.length)=true:=decide_eq_true (by omega)
      rw[this];simp[h1,h2]
     ·
      rw[if_neg (by rw[decide_eq_true_eq];omega)]
      have:decide ((h.new_.length:Int)>0)=decide (0<h.old_.length+h.new_.length):=decide_eq_decide.2 (by omega)
      rw[this];simp[h1,h2]
  ·
   rw[if_neg (by simpa using h2)];simp[h2]
 ·
  rw[if_neg (by simpa using h1)];simp[h1]
theorem hcheck8 {n:Nat} (hn:3000<n) {l:List GHunk} (hl:l.length≤40) (hx:∀ h∈l,Fits n h):∀ (m k:Nat) (e:Int) (fuel:Nat),l.length-k=m→k≤l.length→m<fuel→(k=0∧e=0∨∃ h,0<k∧l[k-1]?=some h∧qhw h=true∧e=h.at_+(h.old_.length:Int)+1)→qa4 n l fuel (k:Int)=some (if okHs e (l.drop k)=true then 0 else 8):=by
 intro m
 induction m with
 | zero =>
  intro k e fuel hm hk hf _
  obtain ⟨fuel,rfl⟩:∃ k,fuel=k+1:=⟨fuel-1,by omega⟩
  rw[qa4.eq_2,if_neg (by simp;omega),List.drop_of_length_le (by omega)]
  rfl
 | succ m ih =>
  intro k e fuel hm hk hf he
  obtain ⟨fuel,rfl⟩:∃ k,fuel=k+1:=⟨fuel-1,by omega⟩
  have h1:k<l.length:=by omega
  rw[qa4.eq_2,if_pos (by simp;omega),qaa h1,bsome,qo8 hn _ (hx _ (List.getElem_mem h1)),bsome,List.drop_eq_getElem_cons h1,okHs]
  cases e1:qhw l[k] with
  | false=>simp
  | true =>
   obtain ⟨v1,v2,v3,v4⟩:=qoi e1
   have hrec:=ih (k+1) (l[k].at_+(l[k].old_.length:Int)+1) fuel (by clear he;omega) (by clear he;omega) (by clear he;omega) (.inr ⟨l[k],by clear he;omega,by simp[h1],e1,rfl⟩)
   rw[if_neg (by simp)]
   rcases he with ⟨rfl,rfl⟩ | ⟨h,h0,h2,h3,rfl⟩
   ·
    rw[if_neg (by simp),qm (by omega),bsome]
    refine Eq.trans hrec ?_
    simp[v1]
   ·
    obtain ⟨w1,w2,w3,w4⟩:=qoi h3
    have hix:ix l ((k:Int)-1)=some h:=by
     rw[show ((k:Int)-1)=((k-1:Nat):Int) by omega]
     exact ix_get h2
    rw[if_pos (by simp;omega),qgi (by omega) (by omega),bsome,hix,bsome,bsome,hix,bsome,qgi (by omega) (by omega),bsome]
    by_cases hc:l[k].at_≤h.at_+(h.old_.length:Int)
    ·
     rw[if_pos (by simpa using hc)]
     have:¬(h.at_+(h.old_.length:Int)+1≤l[k].at_):=by omega
     simp[this]
    ·
     rw[if_neg (by simpa using hc),qm (by omega),bsome]
     refine Eq.trans hrec ?_
     have:h.at_+(h.old_.length:Int)+1≤l[k].at_:=by omega
     simp[this]
theorem qj1 {n:Nat} (hn:3000<n) (l:List GHunk) (hx:∀ h∈l,Fits n h):qdy n l=some (hckE l):=by
 unfold qdy hckE
 by_cases h:40<l.length
 ·
  rw[if_pos (by simp;omega),if_pos h]
 ·
  rw[if_neg (by simp;omega),if_neg h]
  exact hcheck8 hn (by omega) hx l.length 0 0 n rfl (by omega) (by omega) (.inl ⟨rfl,rfl⟩)
theorem qo9 {n:Nat} (hn:3000<n) (p:GPatch) (hx:∀ h∈p.hunks_,Fits n h):qfe n p.path_ p.was_ p.stays_ p.hunks_=some (pvalid p):=by
 unfold qfe pvalid
 rw[qpr _ (by omega),bsome,qj1 hn _ hx,bsome]
 unfold qeb qea
 cases qmi p.path_ with
 | false=>simp
 | true =>
  rw[if_neg (by simp)]
  by_cases hc:hckE p.hunks_=0
  ·
   rw[hc,if_neg (by simp)]
   cases hh:p.hunks_ with
   | nil=>cases p.was_ <;> cases p.stays_ <;> simp
   | cons h t =>
    cases t with
    | cons h2 t2 =>
     have:(((h::h2::t2).length:Int) != 1)=true:=by simp;omega
     rw[this]
     cases p.was_ <;> cases p.stays_ <;> simp
    | nil =>
     rw[ixc]
     simp only[bsome]
     rw[len0,len0]
     by_cases ha:h.at_=0
     ·
      rw[ha]
      generalize (h.old_.length==0)=b1
      generalize (h.new_.length==0)=b2
      cases p.was_ <;> cases p.stays_ <;> cases b1 <;> cases b2 <;> simp
     ·
      cases p.was_ <;> cases p.stays_ <;> simp[ha]
  ·
   have hc':(hckE p.hunks_ != 0)=true:=by simpa using hc
   rw[hc',if_pos rfl]
   simp[hc]
theorem qj2 {n:Nat} (hn:3000<n) (l:List GPatch) (hx:∀ p∈l,∀ h∈p.hunks_,Fits n h):qa0 n l=some (nckE l):=by
 unfold qa0 nckE
 by_cases h:24<l.length
 ·
  rw[if_pos (by simp;omega),if_pos h]
 rw[if_neg (by simp;omega),if_neg h]
 have k40:∀ (m k fuel:Nat),l.length-k=m→k≤l.length→m<fuel→qbd n l fuel (k:Int)=some (if (l.drop k).all pvalid=true then 0 else 8):=by
  intro m
  induction m with
  | zero =>
   intro k fuel hm hk hf
   obtain ⟨fuel,rfl⟩:∃ k,fuel=k+1:=⟨fuel-1,by omega⟩
   rw[qbd.eq_2,if_neg (by simp;omega),List.drop_of_length_le (by omega)]
   rfl
  | succ m ih =>
   intro k fuel hm hk hf
   obtain ⟨fuel,rfl⟩:∃ k,fuel=k+1:=⟨fuel-1,by omega⟩
   have h1:k<l.length:=by omega
   rw[qbd.eq_2,if_pos (by simp;omega),qaa h1,bsome,qo9 hn _ (hx _ (List.getElem_mem h1)),bsome,List.drop_eq_getElem_cons h1,List.all_cons]
   cases pvalid l[k] with
   | false=>simp
   | true =>
    rw[if_neg (by simp),qm (by omega),bsome]
    exact ih (k+1) fuel (by omega) (by omega) (by omega)
 have k17:∀ (k:Nat) (h1:k<l.length) (rec:Int→Option Int) (m j fuel:Nat),k-j=m→j≤k→m<fuel→qbc l (k:Int) rec fuel (j:Int)=if (((l.take k).drop j).map GPatch.path_).contains l[k].path_=true then some 14 else rec ((k+1:Nat):Int):=by
  intro k h1 rec m
  induction m with
  | zero =>
   intro j fuel hm hj hf
   obtain ⟨fuel,rfl⟩:∃ k,fuel=k+1:=⟨fuel-1,by omega⟩
   rw[qbc.eq_2,if_neg (by simp;omega),qm (by omega),bsome,List.drop_of_length_le (by simp;omega)]
   simp
  | succ m ih =>
   intro j fuel hm hj hf
   obtain ⟨fuel,rfl⟩:∃ k,fuel=k+1:=⟨fuel-1,by omega⟩
   have h2:j<(l.take k).length:=by simp;omega
   have h3:(l.take k)[j]=l[j]'(by omega):=by simp
   rw[qbc.eq_2,if_pos (by simp;omega),qaa h1,bsome,qaa (show j<l.length by omega),bsome,List.drop_eq_getElem_cons h2,List.map_cons,List.contains_cons,h3]
   cases e:(l[k].path_==l[j].path_) with
   | true=>simp
   | false =>
    rw[if_neg (by simp),qm (by omega),bsome]
    refine Eq.trans (ih (j+1) fuel (by omega) (by omega) (by omega)) ?_
    rw[Bool.false_or]
 have key:∀ (m k fuel:Nat),l.length-k=m→k≤l.length→m+30<fuel→qaw n l fuel (k:Int)=some (if dupB ((l.take k).map GPatch.path_) ((l.drop k).map GPatch.path_)=true then 14 else if l.all pvalid=true then 0 else 8):=by
  intro m
  induction m with
  | zero =>
   intro k fuel hm hk hf
   obtain ⟨fuel,rfl⟩:∃ k,fuel=k+1:=⟨fuel-1,by omega⟩
   rw[qaw.eq_2,if_neg (by simp;omega),List.drop_of_length_le (by omega)]
   exact k40 l.length 0 n rfl (by omega) (by omega)
  | succ m ih =>
   intro k fuel hm hk hf
   obtain ⟨fuel,rfl⟩:∃ k,fuel=k+1:=⟨fuel-1,by omega⟩
   have h1:k<l.length:=by omega
   have:=k17 k h1 (fun a=>qaw n l fuel a) k 0 fuel (by omega) (by omega) (by omega)
   rw[qaw.eq_2,if_pos (by simp;omega)]
   refine Eq.trans this ?_
   rw[List.drop_zero,List.drop_eq_getElem_cons h1,List.map_cons,dupB]
   cases e:((l.take k).map GPatch.path_).contains l[k].path_ with
   | true=>simp
   | false =>
    rw[if_neg (by simp),ih (k+1) fuel (by omega) (by omega) (by omega)]
    rw[List.take_succ_eq_append_getElem h1,List.map_append]
    rfl
 have:=key l.length 0 n rfl (by omega) (by omega)
 simpa using this
end Go.Zv.G
namespace Go.Zv.G
open Go Go.Zv Go.Proofs
set_option maxRecDepth 100000
attribute [local simp high] bsome
theorem qpa:∀ (a b:List S),∃ s,a=s++(cutF a b).1∧b=s++(cutF a b).2
 | [],b=>⟨[],by rw[qlc];simp⟩
 | x::a,[]=>⟨[],by rw[qld];simp⟩
 | x::a,y::b=>by
  rw[qmk]
  obtain ⟨s,h1,h2⟩:=qpa a b
  by_cases h:x=y
  ·
   rw[if_pos h]
   refine ⟨x::s,?_,?_⟩
   ·
    rw[List.cons_append,←h1]
   ·
    rw[List.cons_append,←h2,h]
  ·
   rw[if_neg h]
   exact ⟨[],by simp⟩
theorem cutB_prefix (a b:List S):∃ s,a=(cutB a b).1++s∧b=(cutB a b).2++s:=by
 obtain ⟨s,h1,h2⟩:=qpa a.reverse b.reverse
 refine ⟨s.reverse,?_,?_⟩
 ·
  have:=congrArg List.reverse h1
  simpa[cutB] using this
 ·
  have:=congrArg List.reverse h2
  simpa[cutB] using this
theorem trimL_mem {a b:List S} {x:S}:(x∈(trimL a b).1→x∈a)∧(x∈(trimL a b).2→x∈b):=by
 obtain ⟨s,h1,h2⟩:=qpa a b
 obtain ⟨t,h3,h4⟩:=cutB_prefix (cutF a b).1 (cutF a b).2
 constructor
 ·
  intro h
  rw[h1,h3]
  exact List.mem_append_right _ (List.mem_append_left _ h)
 ·
  intro h
  rw[h2,h4]
  exact List.mem_append_right _ (List.mem_append_left _ h)
theorem plainB_sub {a b:List S} (h:qey b=true) (hl:a.length≤b.length) (hm:∀ x∈a,x∈b):qey a=true:=by
 unfold qey at *
 simp only[Bool.and_eq_true,decide_eq_true_eq,Bool.not_eq_true'] at *
 refine ⟨by omega,?_⟩
 rw[List.any_eq_false]
 intro x hx
 exact (List.any_eq_false.1 h.2) x (hm x hx)
theorem normHs_ok:∀ (l:List GHunk) (e f:Int),0≤e→e≤f→okHs f l=true→okHs e (qc0 e l)=true
 | [],e,f,_,_,_=>rfl
 | h::l,e,f,h0,hef,hk=>by
  rw[okHs,Bool.and_eq_true,Bool.and_eq_true] at hk
  obtain ⟨hv,hat,hk⟩:=hk
  have hat':f≤h.at_:=by simpa using hat
  have hv2:=hv
  unfold qhw at hv
  simp only[Bool.and_eq_true,decide_eq_true_eq] at hv
  obtain ⟨v1,v2,v3,v4,v5⟩:=hv
  have tl:=qml h.old_ h.new_
  rw[qc0]
  by_cases hc:0<(trimL h.old_ h.new_).1.length+(trimL h.old_ h.new_).2.length
  ·
   rw[if_pos hc,okHs,Bool.and_eq_true,Bool.and_eq_true]
   refine ⟨?_,by simp,?_⟩
   ·
    unfold qhw
    simp only[Bool.and_eq_true,decide_eq_true_eq]
    exact ⟨h0,by omega,plainB_sub v3 tl.1 fun x hx=>trimL_mem.1 hx,plainB_sub v4 tl.2 fun x hx=>trimL_mem.2 hx,hc⟩
   ·
    exact normHs_ok l _ _ (by dsimp only;omega) (by dsimp only;omega) hk
  ·
   rw[if_neg hc]
   exact normHs_ok l e _ h0 (by omega) hk
theorem qle {l:List GHunk} (h:hckE l=0):l.length≤40∧okHs 0 l=true:=by
 unfold hckE at h
 split at h
 ·
  cases h
 ·
  split at h
  ·
   rename_i a b;exact ⟨by omega,b⟩
  ·
   cases h
theorem zero_hckE {l:List GHunk} (h1:l.length≤40) (h2:okHs 0 l=true):hckE l=0:=by
 unfold hckE
 rw[if_neg (by omega),if_pos h2]
theorem normHs_le (l:List GHunk):∀ e:Int,(qc0 e l).length≤l.length:=by
 induction l with
 | nil=>intro e;exact Nat.le_refl _
 | cons h l ih =>
  intro e
  rw[qc0]
  split
  ·
   simpa using ih _
  ·
   exact Nat.le_succ_of_le (ih e)
end Go.Zv.G
