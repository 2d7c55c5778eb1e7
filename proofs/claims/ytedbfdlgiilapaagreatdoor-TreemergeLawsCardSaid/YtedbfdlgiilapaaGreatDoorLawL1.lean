/- Plain laws: what the plain functions say. No condition. -/
import Derived.Tactics
import Derived.Test.YtedbfdlgiilapaaGreatDoorPlainL
import Derived.Sort.Walk0
set_option linter.unusedSimpArgs false
set_option linter.unusedVariables false
namespace Go.Zv
structure Hk (α:Type) where
 at_:Nat
 old:List α
 new:List α
section
variable {α:Type}
inductive Pairs (a b:List α):Nat→Nat→List (Nat×Nat)→Prop
 | last (i k:Nat):i≤a.length→k≤b.length→Pairs a b i k [(a.length,b.length)]
 | pair {i k x y:Nat} {ps:List (Nat×Nat)} (h:x<a.length) (h':y<b.length):i≤x→k≤y→a[x]=b[y]→Pairs a b (x+1) (y+1) ps→Pairs a b i k ((x,y)::ps)
theorem Pairs.le {a b:List α} {i k:Nat} {ps:List (Nat×Nat)} (h:Pairs a b i k ps):i≤a.length∧k≤b.length:=by
 cases h with
 | last _ _ h1 h2=>exact ⟨h1,h2⟩
 | pair h h' h1 h2=>exact ⟨by omega,by omega⟩
inductive Gaps:Nat→List (Hk α)→Prop
 | nil (n:Nat):Gaps n []
 | cons {n:Nat} {h:Hk α} {hs:List (Hk α)}:n≤h.at_→0<h.old.length+h.new.length→Gaps (h.at_+h.old.length+1) hs→Gaps n (h::hs)
theorem Gaps.mono {n m:Nat} {hs:List (Hk α)} (h:Gaps n hs) (hm:m≤n):Gaps m hs:=by
 cases h with
 | nil=>exact .nil _
 | cons h1 h2 h3=>exact .cons (by omega) h2 h3
variable [DecidableEq α]
def common:List α→List α→Nat
 | [],_=>0
 | x::xs,[]=>0
 | x::xs,y::ys=>if x=y then common xs ys+1 else max (common xs (y::ys)) (common (x::xs) ys)
termination_by a b=>a.length+b.length
theorem common_nil (a:List α):common a []=0:=by
 cases a <;> simp[common]
theorem common_pair {a b:List α} {i k:Nat} (hi:i<a.length) (hk:k<b.length):common (a.drop i) (b.drop k)=if a[i]=b[k] then common (a.drop (i+1)) (b.drop (k+1))+1 else max (common (a.drop (i+1)) (b.drop k)) (common (a.drop i) (b.drop (k+1))):=by
 rw[List.drop_eq_getElem_cons hi,List.drop_eq_getElem_cons hk,common]
theorem common_find {a b:List α}:∀ (n i k:Nat),(a.length-i)+(b.length-k)≤n→0<common (a.drop i) (b.drop k)→∃ x y,∃ (hx:x<a.length) (hy:y<b.length),i≤x∧k≤y∧a[x]=b[y]∧common (a.drop (x+1)) (b.drop (y+1))+1=common (a.drop i) (b.drop k):=by
 intro n
 induction n with
 | zero =>
  intro i k h hc
  rw[List.drop_of_length_le (by omega)] at hc
  simp[common] at hc
 | succ n ih =>
  intro i k h hc
  by_cases hi:i<a.length
  ·
   by_cases hk:k<b.length
   ·
    rw[common_pair hi hk] at hc ⊢
    by_cases he:a[i]=b[k]
    ·
     rw[if_pos he] at hc ⊢
     exact ⟨i,k,hi,hk,Nat.le_refl _,Nat.le_refl _,he,rfl⟩
    ·
     rw[if_neg he] at hc ⊢
     by_cases hm:common (a.drop i) (b.drop (k+1))≤common (a.drop (i+1)) (b.drop k)
     ·
      rw[Nat.max_eq_left hm] at hc ⊢
      obtain ⟨x,y,hx,hy,h1,h2,h3,h4⟩:=ih (i+1) k (by omega) hc
      exact ⟨x,y,hx,hy,by omega,h2,h3,h4⟩
     ·
      rw[Nat.max_eq_right (by omega)] at hc ⊢
      obtain ⟨x,y,hx,hy,h1,h2,h3,h4⟩:=ih i (k+1) (by omega) hc
      exact ⟨x,y,hx,hy,h1,by omega,h3,h4⟩
   ·
    rw[List.drop_of_length_le (l:=b) (by omega),common_nil] at hc
    omega
  ·
   rw[List.drop_of_length_le (l:=a) (by omega)] at hc
   simp[common] at hc
end
end Go.Zv
namespace Go.Zv.G
open Go Go.Zv Go.Proofs
set_option maxRecDepth 100000
abbrev S:=List UInt8
theorem bsome {α β:Type} (x:α) (f:α→Option β):(some x).bind f=f x:=Eq.trans (Option.bind_some x f) (Eq.refl _)
attribute [local simp high] bsome
theorem ix_nat {α:Type} {l:List α} {i:Nat} (h:i<l.length):ix l (i:Int)=some l[i]:=by
 unfold ix
 rw[if_pos (by omega)]
 simp[h]
theorem ix_zero {α:Type} {l:List α} (h:0<l.length):ix l 0=some l[0]:=ix_nat (i:=0) h
theorem rng_ok {x:Int} (h1:-9223372036854775808≤x) (h2:x<9223372036854775808):rng x=some x:=by
 unfold rng;rw[if_pos ⟨h1,h2⟩]
theorem rng_nat {x:Nat} (h2:x<4611686018427387904):rng (x:Int)=some (x:Int):=rng_ok (by omega) (by omega)
theorem rng_succ {x:Nat} (h2:x<4611686018427387904):rng ((x:Int)+1)=some ((x+1:Nat):Int):=rng_ok (by omega) (by omega)
theorem need_ok {p:Prop} [Decidable p] (h:p):need p=some ():=by unfold need;rw[if_pos h]
theorem cutI_nat {α:Type} {l:List α} {a b:Nat} (h1:a≤b) (h2:b≤l.length):cutI l (a:Int) (b:Int)=some ((l.take b).drop a):=by
 unfold cutI
 rw[if_pos (by omega)]
 simp
theorem cutI_end {α:Type} {l:List α} {a:Nat} (h1:a≤l.length):cutI l (a:Int) (l.length:Int)=some (l.drop a):=by
 rw[cutI_nat h1 (Nat.le_refl _),List.take_length]
theorem cutI_front {α:Type} {l:List α} {b:Nat} (h2:b≤l.length):cutI l 0 (b:Int)=some (l.take b):=cutI_nat (a:=0) (by omega) h2
def splitC (c:UInt8):S→List S
 | []=>[[]]
 | x::xs=>if x=c then []::splitC c xs else match splitC c xs with
  | []=>[[x]]
  | p::ps=>(x::p)::ps
theorem splitC_ne (c:UInt8):∀ s:S,splitC c s≠[]
 | []=>by simp[splitC]
 | x::xs=>by
  unfold splitC
  split
  ·
   simp
  ·
   split <;> simp
theorem splitC_length (c:UInt8):∀ s:S,(splitC c s).length=cnt8 c s+1
 | []=>rfl
 | x::xs=>by
  unfold splitC cnt8
  by_cases h:x=c
  ·
   simp[h,splitC_length c xs]
  ·
   have:=splitC_length c xs
   split
   ·
    rename_i e;exact absurd e h
   ·
    split
    ·
     rename_i e;exact absurd e (splitC_ne c xs)
    ·
     rename_i p ps e
     rw[e] at this
     have hb:(x==c)=false:=by simpa using h
     simp only[hb,cond_false,List.length_cons]
     simpa using this
theorem splitC_none (c:UInt8):∀ s:S,c ∉ s→splitC c s=[s]
 | [],_=>rfl
 | x::xs,h=>by
  have h1:x≠c:=fun e=>h (by simp[e])
  have h2:c ∉ xs:=fun e=>h (by simp[e])
  unfold splitC
  rw[if_neg h1,splitC_none c xs h2]
theorem splitC_mid (c:UInt8):∀ (a b:S),c ∉ a→splitC c (a++c::b)=a::splitC c b
 | [],b,_=>by simp[splitC]
 | x::xs,b,h=>by
  have h1:x≠c:=fun e=>h (by simp[e])
  have h2:c ∉ xs:=fun e=>h (by simp[e])
  rw[List.cons_append,splitC,if_neg h1,splitC_mid c xs b h2]
theorem cnt8_pos {c:UInt8}:∀ {s:S},0<cnt8 c s↔c∈s
 | []=>by simp[cnt8]
 | x::xs=>by
  unfold cnt8
  by_cases h:x=c
  ·
   simp[h]
  ·
   have hb:(x==c)=false:=by simpa using h
   simp only[hb,cond_false,cnt8_pos (s:=xs),List.mem_cons]
   exact ⟨.inr,fun e=>e.resolve_left fun e=>h e.symm⟩
theorem cnt8_le {c:UInt8}:∀ {s:S},cnt8 c s≤s.length
 | []=>by simp[cnt8]
 | x::xs=>by
  unfold cnt8
  have:=cnt8_le (c:=c) (s:=xs)
  cases x==c <;> simp <;> omega
theorem cnt8_append (c:UInt8):∀ (a b:S),cnt8 c (a++b)=cnt8 c a+cnt8 c b
 | [],b=>by simp[cnt8]
 | x::xs,b=>by
  rw[List.cons_append,cnt8,cnt8,cnt8_append c xs b]
  cases x==c <;> simp <;> omega
theorem idx8_spec (c:UInt8):∀ (s:S) (k:Nat),(c ∉ s∧idx8 c s k=-1)∨∃ a b,s=a++c::b∧c ∉ a∧idx8 c s k=((k+a.length:Nat):Int)
 | [],k=>.inl ⟨by simp,rfl⟩
 | x::xs,k=>by
  by_cases h:x=c
  ·
   subst h
   exact .inr ⟨[],xs,by simp,by simp,by simp[idx8]⟩
  ·
   have hb:(x==c)=false:=by simpa using h
   rcases idx8_spec c xs (k+1) with ⟨h1,h2⟩ | ⟨a,b,h1,h2,h3⟩
   ·
    refine .inl ⟨by simp[h1];exact fun e=>h e.symm,?_⟩
    simp only[idx8,hb,cond_false,h2]
   ·
    refine .inr ⟨x::a,b,by simp[h1],by simp[h2];exact fun e=>h e.symm,?_⟩
    simp only[idx8,hb,cond_false,h3,List.length_cons]
    omega
def okB (c:UInt8):Bool:=!letG c.toNat
def okPart (s:S):Bool:=!((s==[])||(s==[46])||(s==[46,46]))&&s.all okB
def okPath (s:S):Bool:=decide (s.length≤60)&&(splitC 47 s).all okPart
theorem f_norm_path_1_eq (n:Nat) (s:S):f_norm_path_1 n s=some (!okPart s):=by
 unfold f_norm_path_1 okPart
 cases e:(((s==([]:List UInt8))||(s==([46]:List UInt8)))||(s==([46,46]:List UInt8))) with
 | true=>simp
 | false =>
  simp only[Bool.false_eq_true,if_false,Bool.not_false,Bool.true_and]
  congr 1
  unfold okB
  rw[List.all_eq_not_any_not]
  simp
theorem f_slices_IndexFunc_string_by_norm_path_1_L5_eq (n:Nat) (l:List S) (hl:l.length<1000000):∀ (m i:Nat),l.length<m+i→i≤l.length→∃ r,f_slices_IndexFunc_string_by_norm_path_1_L5 n l m (i:Int)=some r∧decide (r≥0)=(l.drop i).any fun s=>!okPart s
 | 0,i,h1,h2=>by omega
 | m+1,i,h1,h2=>by
  rw[f_slices_IndexFunc_string_by_norm_path_1_L5]
  by_cases hi:i<l.length
  ·
   rw[if_pos (by simpa using hi),ix_nat hi]
   simp only[bsome,f_norm_path_1_eq,rng_succ (show i<4611686018427387904 by omega)]
   rw[List.drop_eq_getElem_cons hi,List.any_cons]
   cases e:(!okPart l[i]) with
   | true=>exact ⟨i,by simp,by simp⟩
   | false =>
    obtain ⟨r,h3,h4⟩:=f_slices_IndexFunc_string_by_norm_path_1_L5_eq n l hl m (i+1) (by omega) (by omega)
    exact ⟨r,by simpa using h3,by simpa using h4⟩
  ·
   rw[if_neg (by simpa using hi)]
   have:i=l.length:=by omega
   subst this
   exact ⟨-1,rfl,by simp⟩
theorem f_slices_ContainsFunc_string_by_norm_path_1_eq {n:Nat} {l:List S} (hl:l.length<1000000) (hn:l.length<n):f_slices_ContainsFunc_string_by_norm_path_1 n l=some (!(l.all okPart)):=by
 unfold f_slices_ContainsFunc_string_by_norm_path_1 f_slices_IndexFunc_string_by_norm_path_1
 obtain ⟨r,h3,h4⟩:=f_slices_IndexFunc_string_by_norm_path_1_L5_eq n l hl n 0 (by omega) (by omega)
 rw[show ((0:Nat):Int)=0 from rfl] at h3
 rw[h3]
 simp only[bsome,h4,List.drop_zero]
 congr 1
 rw[List.all_eq_not_any_not]
 simp
theorem f_stringslite_Index_one (n:Nat) (s:S) (c:UInt8):f_stringslite_Index n s [c]=some (idx8 c s 0):=by
 simp[f_stringslite_Index,f_stringslite_IndexByte,ix]
 rintro rfl
 simp[idx8]
theorem f_strings_Index_one (n:Nat) (s:S) (c:UInt8):f_strings_Index n s [c]=some (idx8 c s 0):=by
 simp[f_strings_Index,f_stringslite_Index_one]
theorem f_strings_Count_one (n:Nat) (s:S) (c:UInt8):f_strings_Count n s [c]=some ((cnt8 c s:Nat):Int):=by
 simp[f_strings_Count,ix]
theorem f_strings_genSplit_L32_eq (n:Nat) (c:UInt8):∀ (m:Nat) (s:S) (done:List S) (k:Nat),cnt8 c s=k→k<m→done.length+k<1000000→s.length<1000000 →
  f_strings_genSplit_L32 n [c] 0 ((done.length+k:Nat):Int) m s (done++List.replicate (k+1) []) (done.length:Int)=some (done++splitC c s)
 | 0,s,done,k,hk,hm,hd,hs=>by omega
 | m+1,s,done,k,hk,hm,hd,hs=>by
  rw[f_strings_genSplit_L32]
  have fin:∀ k',k'=k→c ∉ s→f_strings_genSplit_J19 s (done++List.replicate (k'+1) []) (done.length:Int)=some (done++[s]):=by
   intro k' hk' hc
   have h0:k'=0:=by
    subst hk';subst hk
    have:=mt cnt8_pos.1 hc
    omega
   subst h0
   unfold f_strings_genSplit_J19
   rw[ix_nat (by simp)]
   simp only[bsome,rng_succ (show done.length<4611686018427387904 by omega)]
   rw[cutI_front (by simp)]
   simp[List.take_of_length_le]
  by_cases h0:0<k
  ·
   rw[if_pos (by simp;omega),f_strings_Index_one]
   simp only[bsome]
   rcases idx8_spec c s 0 with ⟨h1,h2⟩ | ⟨a,b,h1,h2,h3⟩
   ·
    exact absurd (cnt8_pos.1 (hk ▸ h0)) h1
   ·
    rw[h3]
    have hcb:cnt8 c s=cnt8 c b+1:=by
     rw[h1,cnt8_append]
     have:cnt8 c a=0:=by
      have:=mt cnt8_pos.1 h2;omega
     simp[cnt8,this]
    have hla:a.length≤s.length:=by rw[h1];simp
    rw[if_neg (by simp),Int.add_zero,Nat.zero_add,rng_nat (by omega)]
    simp only[bsome]
    rw[cutI_front hla]
    simp only[bsome]
    rw[ix_nat (by simp)]
    simp only[bsome,List.length_singleton]
    rw[show ((a.length:Int)+((1:Nat):Int))=((a.length+1:Nat):Int) by omega,rng_nat (by omega)]
    simp only[bsome]
    rw[cutI_end (by rw[h1];simp)]
    simp only[bsome,rng_succ (show done.length<4611686018427387904 by omega)]
    obtain ⟨k',rfl⟩:∃ k',k=k'+1:=⟨k-1,by omega⟩
    have hta:s.take a.length=a:=by rw[h1];simp
    have hdb:s.drop (a.length+1)=b:=by rw[h1];simp
    rw[hta,hdb]
    have hset:(done++List.replicate (k'+1+1) ([]:S)).set (Int.toNat (done.length:Int)) a=(done++[a])++List.replicate (k'+1) []:=by
     rw[Int.toNat_natCast,List.set_append_right _ _ (Nat.le_refl _),Nat.sub_self,List.replicate_succ,List.set_cons_zero,List.append_assoc,List.singleton_append]
    rw[hset]
    have ih:=f_strings_genSplit_L32_eq n c m b (done++[a]) k' (by omega) (by omega) (by simp;omega) (by rw[h1] at hs;simp at hs;omega)
    rw[List.length_append,List.length_singleton] at ih
    rw[show ((done.length+(k'+1):Nat):Int)=((done.length+1+k':Nat):Int) by omega]
    rw[ih,h1,splitC_mid c a b h2]
    simp
  ·
   have hk0:k=0:=by omega
   subst hk0
   have hc:c ∉ s:=fun e=>by have:=cnt8_pos.2 e;omega
   rw[if_neg (by simp),fin 0 rfl hc,splitC_none c s hc]
theorem f_strings_Split_eq {n:Nat} {s:S} {c:UInt8} (hs:s.length<1000000) (hn:s.length<n):f_strings_Split n s [c]=some (splitC c s):=by
 unfold f_strings_Split f_strings_genSplit
 have hle:=cnt8_le (c:=c) (s:=s)
 simp only[f_strings_Count_one,bsome]
 rw[if_neg (by decide),if_neg (by simp),if_pos (by decide),rng_succ (by omega)]
 simp only[bsome]
 unfold f_strings_genSplit_J8
 rw[rng_succ (by omega)]
 simp only[bsome]
 have hmin:(if ((s.length+1:Nat):Int)<((cnt8 c s+1:Nat):Int) then ((s.length+1:Nat):Int) else ((cnt8 c s+1:Nat):Int))=((cnt8 c s+1:Nat):Int):=if_neg (by omega)
 rw[hmin,need_ok ⟨by omega,by omega,by unfold lim;omega⟩]
 simp only[bsome]
 rw[show (((cnt8 c s+1:Nat):Int)-1)=((cnt8 c s:Nat):Int) by omega,rng_nat (by omega)]
 simp only[bsome,Int.toNat_natCast]
 have:=f_strings_genSplit_L32_eq n c n s [] (cnt8 c s) rfl (by omega) (by simp;omega) hs
 simp only[List.length_nil,Nat.zero_add,List.nil_append] at this
 rw[show ((0:Nat):Int)=0 from rfl] at this
 rw[this]
 rfl
theorem f_norm_path_eq {n:Nat} (s:S) (hn:100<n):f_norm_path n s=some (okPath s):=by
 unfold f_norm_path okPath
 by_cases h0:s.length=0
 ·
  have:s=[]:=List.length_eq_zero_iff.1 h0
  subst this
  rfl
 by_cases h1:60<s.length
 ·
  rw[if_pos (by simp;omega)]
  have:decide (s.length≤60)=false:=by simpa using h1
  rw[this,Bool.false_and]
 ·
  rw[if_neg (by simp;exact ⟨fun e=>h0 (by simp[e]),by omega⟩),f_strings_Split_eq (by omega) (by omega)]
  simp only[bsome]
  have hl:=splitC_length 47 s
  have hc:=cnt8_le (c:=47) (s:=s)
  rw[f_slices_ContainsFunc_string_by_norm_path_1_eq (by omega) (by omega)]
  have:decide (s.length≤60)=true:=by simpa using h1
  simp[this]
theorem f_norm_valid_new {n:Nat} (s:S) (hn:100<n):f_norm_valid n s true true []=some (okPath s):=by
 unfold f_norm_valid
 rw[f_norm_path_eq s hn]
 simp only[bsome]
 have h85:f_hunk_Check n []=some 0:=by
  obtain ⟨m,rfl⟩:∃ m,n=m+1:=⟨n-1,by omega⟩
  simp[f_hunk_Check,f_hunk_Check_L9]
 rw[h85]
 cases okPath s <;> simp[f_norm_valid_J2]
theorem f_tree_path_eq {n:Nat} (s:S) (hn:100<n):f_tree_path n s=some (okPath s):=by
 unfold f_tree_path f_norm_Check
 obtain ⟨m,rfl⟩:∃ m,n=m+1+1:=⟨n-2,by omega⟩
 have h53:f_norm_Check_2 (m+1+1) s true true []=some (!okPath s):=by simp[f_norm_Check_2,f_norm_valid_new s hn]
 have h51b:f_slices_ContainsFunc_Patch_by_norm_Check_2 (m+1+1) [⟨s,true,true,[]⟩]=some (!okPath s):=by
  simp only[f_slices_ContainsFunc_Patch_by_norm_Check_2,f_slices_IndexFunc_Patch_by_norm_Check_2,f_slices_IndexFunc_Patch_by_norm_Check_2_L5]
  rw[if_pos (by simp),ix_zero (by simp)]
  simp only[bsome,List.getElem_cons_zero,h53]
  cases okPath s <;> simp[rng,f_slices_IndexFunc_Patch_by_norm_Check_2_L5]
 have h51:f_slices_ContainsFunc_Patch_by_norm_Check_1 (m+1+1) [] s true true []=some false:=by simp[f_slices_ContainsFunc_Patch_by_norm_Check_1,f_slices_IndexFunc_Patch_by_norm_Check_1,f_slices_IndexFunc_Patch_by_norm_Check_1_L5]
 rw[if_neg (by simp),f_norm_Check_L8]
 rw[if_pos (by simp),ix_zero (by simp)]
 simp only[bsome,List.getElem_cons_zero]
 rw[show cutI [(⟨s,true,true,[]⟩:GPatch)] 0 0=some [] from rfl]
 simp only[bsome,h51,Bool.false_eq_true,if_false]
 rw[show rng (0+1)=some 1 from rfl]
 simp only[bsome,f_norm_Check_L8]
 rw[if_neg (by simp),h51b]
 cases okPath s <;> simp
theorem letG_iff (c:UInt8):okB c=!((((((!((decide ((c.toNat:Int)≥97))&&(decide ((c.toNat:Int)≤122))))&&(!((decide ((c.toNat:Int)≥65))&&(decide ((c.toNat:Int)≤90)))))&&(!((decide ((c.toNat:Int)≥48))&&(decide ((c.toNat:Int)≤57)))))&&((c.toNat:Int) != 45))&&((c.toNat:Int) != 95))&&((c.toNat:Int) != 46)):=by
 unfold okB letG
 have e1:∀ a b:Nat,Nat.ble a b=decide ((a:Int)≤(b:Int)):=fun a b=>by
  rw[Bool.eq_iff_iff,Nat.ble_eq,decide_eq_true_eq];omega
 have e2:∀ a b:Nat,Nat.beq a b=decide ((a:Int)=(b:Int)):=fun a b=>by
  rw[Bool.eq_iff_iff,Nat.beq_eq,decide_eq_true_eq];omega
 rw[Bool.eq_iff_iff]
 simp only[e1,e2]
 simp
theorem f_sidingref17_part_L8_eq (s:S) (hs:s.length<1000000):∀ (m i:Nat),s.length<m+i→i≤s.length→f_sidingref17_part_L8 s m (i:Int)=some ((s.drop i).all okB)
 | 0,i,h1,h2=>by omega
 | m+1,i,h1,h2=>by
  rw[f_sidingref17_part_L8]
  by_cases hi:i<s.length
  ·
   rw[if_pos (by simpa using hi),ix_nat hi]
   simp only[bsome,rng_succ (show i<4611686018427387904 by omega)]
   rw[List.drop_eq_getElem_cons hi,List.all_cons,letG_iff s[i]]
   generalize ((((((!((decide ((s[i].toNat:Int)≥97))&&(decide ((s[i].toNat:Int)≤122))))&&(!((decide ((s[i].toNat:Int)≥65))&&(decide ((s[i].toNat:Int)≤90)))))&&(!((decide ((s[i].toNat:Int)≥48))&&(decide ((s[i].toNat:Int)≤57)))))&&((s[i].toNat:Int) != 45))&&((s[i].toNat:Int) != 95))&&((s[i].toNat:Int) != 46))=q
   cases q with
   | true=>simp
   | false=>simpa using f_sidingref17_part_L8_eq s hs m (i+1) (by omega) (by omega)
  ·
   rw[if_neg (by simpa using hi)]
   have:i=s.length:=by omega
   subst this
   simp
theorem f_sidingref17_part_eq {n:Nat} (s:S) (hs:s.length<1000000) (hn:s.length<n):f_sidingref17_part n s=some (okPart s):=by
 unfold f_sidingref17_part okPart
 have h:=f_sidingref17_part_L8_eq s hs n 0 (by omega) (by omega)
 rw[show ((0:Nat):Int)=0 from rfl,List.drop_zero] at h
 rw[h]
 have e:((s.length:Int)==0)=(s==[]):=by
  rw[Bool.eq_iff_iff];cases s <;> simp;omega
 rw[e]
 cases (((s==([]:List UInt8))||(s==([46]:List UInt8)))||(s==([46,46]:List UInt8))) <;> simp
theorem f_sidingref17_Path_L9_eq (n:Nat) (s:S) (hs:s.length<1000000) (hn:s.length<n):∀ (m a i:Nat),s.length<m+i→a≤i→i≤s.length→47 ∉ (s.take i).drop a→f_sidingref17_Path_L9 n s m (a:Int) (i:Int)=some ((splitC 47 (s.drop a)).all okPart)
 | 0,a,i,h1,h2,h3,h4=>by omega
 | m+1,a,i,h1,h2,h3,h4=>by
  rw[f_sidingref17_Path_L9]
  by_cases hi:i<s.length
  ·
   rw[if_pos (by simpa using hi),ix_nat hi]
   simp only[bsome,rng_succ (show i<4611686018427387904 by omega)]
   by_cases hc:s[i]=47
   ·
    rw[if_pos (by rw[hc];rfl),cutI_nat h2 (by omega)]
    simp only[bsome]
    rw[f_sidingref17_part_eq _ (by simp;omega) (by simp;omega)]
    have hsp:s.drop a=(s.take i).drop a++47::s.drop (i+1):=by
     have e1:s=s.take i++s[i]::s.drop (i+1):=by simp
     have e2:s.drop a=(s.take i++s[i]::s.drop (i+1)).drop a:=by rw[←e1]
     rw[e2,List.drop_append_of_le_length (by simp;omega),hc]
    rw[hsp,splitC_mid 47 _ _ h4,List.all_cons]
    cases e:okPart ((s.take i).drop a) with
    | false=>simp
    | true =>
     simp only[bsome,Bool.not_true,Bool.false_eq_true,if_false,Bool.true_and]
     exact f_sidingref17_Path_L9_eq n s hs hn m (i+1) (i+1) (by omega) (Nat.le_refl _) (by omega) (by simp)
   ·
    rw[if_neg (by simp;exact fun e=>hc (by rw[←UInt8.toNat_inj];exact Int.ofNat.inj e))]
    refine f_sidingref17_Path_L9_eq n s hs hn m a (i+1) (by omega) (by omega) (by omega) ?_
    rw[List.take_succ_eq_append_getElem hi,List.drop_append_of_le_length (by simp;omega)]
    simp[h4]
    exact fun e=>hc e.symm
  ·
   rw[if_neg (by simpa using hi),cutI_end (by omega)]
   have:i=s.length:=by omega
   subst this
   simp only[bsome]
   rw[f_sidingref17_part_eq _ (by simp;omega) (by simp;omega)]
   rw[List.take_length] at h4
   rw[splitC_none 47 _ h4]
   simp
theorem f_sidingref17_Path_eq {n:Nat} (s:S) (hn:100<n):f_sidingref17_Path n s=some (okPath s):=by
 unfold f_sidingref17_Path okPath
 by_cases h1:60<s.length
 ·
  rw[if_pos (by simp;omega)]
  have:decide (s.length≤60)=false:=by simpa using h1
  rw[this,Bool.false_and]
 ·
  rw[if_neg (by simp;omega)]
  have:=f_sidingref17_Path_L9_eq n s (by omega) (by omega) n 0 0 (by omega) (Nat.le_refl _) (by omega) (by simp)
  rw[show ((0:Nat):Int)=0 from rfl] at this
  rw[this]
  have:decide (s.length≤60)=true:=by simpa using h1
  simp[this]
def txtE (s:S):Int:=if s.length≤2000∧cnt8 10 s<60 then 0 else 4
theorem f_lines_Check_eq {n:Nat} (s:S):f_lines_Check n s=some (txtE s):=by
 unfold f_lines_Check txtE
 by_cases h:2000<s.length
 ·
  rw[if_pos (by simp;omega),if_neg (by omega)]
 ·
  rw[if_neg (by simp;omega)]
  have:f_bytes_Count n s [(10:UInt8)]=some ((cnt8 10 s:Nat):Int):=by simp[f_bytes_Count,ix]
  rw[this]
  simp only[bsome]
  by_cases h2:cnt8 10 s<60
  ·
   rw[if_neg (by simp;omega),if_pos (by omega)]
  ·
   rw[if_pos (by simp;omega),if_neg (by omega)]
theorem f_sidingref13_Parts_L7_eq (s:S) (hs:s.length<1000000):∀ (m a i:Nat) (done:List S),s.length<m+i→a≤i→i≤s.length→10 ∉ (s.take i).drop a→done.length+s.length-i<1000000 →
  f_sidingref13_Parts_L7 s m (done++[[]]) (a:Int) (i:Int)=some (done++splitC 10 (s.drop a))
 | 0,a,i,done,h1,h2,h3,h4,h5=>by omega
 | m+1,a,i,done,h1,h2,h3,h4,h5=>by
  rw[f_sidingref13_Parts_L7]
  have e1:((done++[([]:S)]).length:Int)-1=((done.length:Nat):Int):=by simp
  by_cases hi:i<s.length
  ·
   rw[if_pos (by simpa using hi),ix_nat hi]
   simp only[bsome,rng_succ (show i<4611686018427387904 by omega)]
   by_cases hc:s[i]=10
   ·
    rw[if_pos (by rw[hc];rfl),e1,rng_nat (by omega),cutI_nat h2 (by omega)]
    simp only[bsome]
    rw[ix_nat (by simp),need_ok (by unfold lim;simp;omega)]
    simp only[bsome,Int.toNat_natCast]
    have hsp:s.drop a=(s.take i).drop a++10::s.drop (i+1):=by
     have e1:s=s.take i++s[i]::s.drop (i+1):=by simp
     have e2:s.drop a=(s.take i++s[i]::s.drop (i+1)).drop a:=by rw[←e1]
     rw[e2,List.drop_append_of_le_length (by simp;omega),hc]
    rw[hsp,splitC_mid 10 _ _ h4,List.set_append_right _ _ (Nat.le_refl _),Nat.sub_self,List.set_cons_zero]
    rw[f_sidingref13_Parts_L7_eq s hs m (i+1) (i+1) (done++[(s.take i).drop a]) (by omega) (Nat.le_refl _) (by omega) (by simp) (by simp;omega)]
    simp
   ·
    rw[if_neg (by simp;exact fun e=>hc (by rw[←UInt8.toNat_inj];exact Int.ofNat.inj e))]
    refine f_sidingref13_Parts_L7_eq s hs m a (i+1) done (by omega) (by omega) (by omega) ?_ (by omega)
    rw[List.take_succ_eq_append_getElem hi,List.drop_append_of_le_length (by simp;omega)]
    simp[h4]
    exact fun e=>hc e.symm
  ·
   rw[if_neg (by simpa using hi),e1,rng_nat (by omega),cutI_end (by omega)]
   have:i=s.length:=by omega
   subst this
   simp only[bsome]
   rw[ix_nat (by simp)]
   rw[List.take_length] at h4
   rw[splitC_none 10 _ h4]
   simp
theorem f_sidingref13_Parts_eq {n:Nat} (s:S) (hs:s.length<500000) (hn:s.length<n):f_sidingref13_Parts n s=some (splitC 10 s):=by
 unfold f_sidingref13_Parts
 have:=f_sidingref13_Parts_L7_eq s (by omega) n 0 0 [] (by omega) (Nat.le_refl _) (by omega) (by simp) (by simp;omega)
 simpa using this
theorem f_sidingref13_Check_eq {n:Nat} (s:S) (hn:3000<n):f_sidingref13_Check n s=some (txtE s):=by
 unfold f_sidingref13_Check txtE
 by_cases h:2000<s.length
 ·
  rw[if_pos (by simp;omega),if_neg (by omega)]
 ·
  rw[if_neg (by simp;omega),f_sidingref13_Parts_eq s (by omega) (by omega)]
  simp only[bsome,splitC_length]
  by_cases h2:cnt8 10 s<60
  ·
   rw[if_neg (by simp;omega),if_pos (by omega)]
  ·
   rw[if_pos (by simp;omega),if_neg (by omega)]
def okFrom (t:List GFile) (i:Nat):Bool:=((List.range' i (t.length-i)).all fun j=>match t[j]? with
 | some x=>okPath x.path_&&(decide (j=0)||match t[j-1]? with
  | some y=>decide (y.path_<x.path_)
  | none=>false)
 | none=>false)
theorem okFrom_end {t:List GFile}:okFrom t t.length=true:=by simp[okFrom]
theorem okFrom_step {t:List GFile} {i:Nat} (h:i<t.length):okFrom t i=(okPath t[i].path_&&(decide (i=0)||decide ((t[i-1]'(by omega)).path_<t[i].path_))&&okFrom t (i+1)):=by
 unfold okFrom
 rw[show t.length-i=(t.length-(i+1))+1 by omega,List.range'_succ,List.all_cons]
 congr 1
 simp only[List.getElem?_eq_getElem h,List.getElem?_eq_getElem (show i-1<t.length by omega)]
def txtFrom (t:List GFile) (i:Nat):Int:=match (t.drop i).find? fun x=>txtE x.text_ != 0 with
 | some x=>txtE x.text_
 | none=>0
theorem txtFrom_end {t:List GFile}:txtFrom t t.length=0:=by simp[txtFrom]
theorem txtFrom_step {t:List GFile} {i:Nat} (h:i<t.length):txtFrom t i=if txtE t[i].text_ != 0 then txtE t[i].text_ else txtFrom t (i+1):=by
 unfold txtFrom
 rw[List.drop_eq_getElem_cons h,List.find?_cons]
 cases e:(txtE t[i].text_ != 0) <;> simp
def chk (t:List GFile):Int:=if 12<t.length then 4 else if okFrom t 0=true then txtFrom t 0 else 8
theorem f_tree_Check_L39_eq {n:Nat} (t:List GFile) (ht:t.length≤12):∀ (m i:Nat),t.length<m+i→i≤t.length→f_tree_Check_L39 n t m (i:Int)=some (txtFrom t i)
 | 0,i,h1,h2=>by omega
 | m+1,i,h1,h2=>by
  rw[f_tree_Check_L39]
  by_cases hi:i<t.length
  ·
   rw[if_pos (by simpa using hi),ix_nat hi]
   simp only[bsome,f_lines_Check_eq,rng_succ (show i<4611686018427387904 by omega)]
   rw[txtFrom_step hi]
   cases e:(txtE t[i].text_ != 0) with
   | true=>simp
   | false=>simpa using f_tree_Check_L39_eq t ht m (i+1) (by omega) (by omega)
  ·
   rw[if_neg (by simpa using hi)]
   have:i=t.length:=by omega
   subst this
   rw[txtFrom_end]
theorem f_sidingref21_Check_L39_eq {n:Nat} (hn:3000<n) (t:List GFile) (ht:t.length≤12):∀ (m i:Nat),t.length<m+i→i≤t.length→f_sidingref21_Check_L39 n t m (i:Int)=some (txtFrom t i)
 | 0,i,h1,h2=>by omega
 | m+1,i,h1,h2=>by
  rw[f_sidingref21_Check_L39]
  by_cases hi:i<t.length
  ·
   rw[if_pos (by simpa using hi),ix_nat hi]
   simp only[bsome,f_sidingref13_Check_eq _ hn,rng_succ (show i<4611686018427387904 by omega)]
   rw[txtFrom_step hi]
   cases e:(txtE t[i].text_ != 0) with
   | true=>simp
   | false=>simpa using f_sidingref21_Check_L39_eq hn t ht m (i+1) (by omega) (by omega)
  ·
   rw[if_neg (by simpa using hi)]
   have:i=t.length:=by omega
   subst this
   rw[txtFrom_end]
theorem less_eq (a b:S):Op.bytesLess a b=decide (a<b):=bytesLess_eq a b
theorem f_tree_Check_L8_eq {n:Nat} (hn:3000<n) (t:List GFile) (ht:t.length≤12):∀ (m i:Nat),t.length<m+i→i≤t.length→f_tree_Check_L8 n t m (i:Int)=some (if okFrom t i=true then txtFrom t 0 else 8)
 | 0,i,h1,h2=>by omega
 | m+1,i,h1,h2=>by
  rw[f_tree_Check_L8]
  by_cases hi:i<t.length
  ·
   rw[if_pos (by simpa using hi),ix_nat hi]
   simp only[bsome,f_tree_path_eq _ (show 100<n by omega),rng_succ (show i<4611686018427387904 by omega)]
   rw[okFrom_step hi]
   cases e:okPath t[i].path_ with
   | false=>simp
   | true =>
    simp only[if_true]
    have ih:=f_tree_Check_L8_eq hn t ht m (i+1) (by omega) (by omega)
    by_cases h0:0<i
    ·
     rw[if_pos (by simpa using h0),show ((i:Int)-1)=((i-1:Nat):Int) by omega,rng_nat (by omega)]
     simp only[bsome]
     rw[ix_nat (show i-1<t.length by omega)]
     simp only[bsome,less_eq]
     have hz:decide (i=0)=false:=by simp;omega
     rw[hz,Bool.false_or,Bool.true_and]
     by_cases hl:(t[i-1]'(by omega)).path_<t[i].path_
     ·
      rw[decide_eq_true hl];simpa using ih
     ·
      rw[decide_eq_false hl];simp
    ·
     rw[if_neg (by simpa using h0)]
     have hz:i=0:=by omega
     subst hz
     simpa using ih
  ·
   rw[if_neg (by simpa using hi)]
   have:i=t.length:=by omega
   subst this
   rw[okFrom_end,if_pos rfl]
   exact f_tree_Check_L39_eq t ht n 0 (by omega) (by omega)
theorem f_sidingref21_Check_L8_eq {n:Nat} (hn:3000<n) (t:List GFile) (ht:t.length≤12):∀ (m i:Nat),t.length<m+i→i≤t.length→f_sidingref21_Check_L8 n t m (i:Int)=some (if okFrom t i=true then txtFrom t 0 else 8)
 | 0,i,h1,h2=>by omega
 | m+1,i,h1,h2=>by
  rw[f_sidingref21_Check_L8]
  by_cases hi:i<t.length
  ·
   rw[if_pos (by simpa using hi),ix_nat hi]
   simp only[bsome,f_sidingref17_Path_eq _ (show 100<n by omega),rng_succ (show i<4611686018427387904 by omega)]
   rw[okFrom_step hi]
   cases e:okPath t[i].path_ with
   | false=>simp
   | true =>
    simp only[Bool.not_true,Bool.false_eq_true,if_false]
    have ih:=f_sidingref21_Check_L8_eq hn t ht m (i+1) (by omega) (by omega)
    by_cases h0:0<i
    ·
     rw[if_pos (by simpa using h0),show ((i:Int)-1)=((i-1:Nat):Int) by omega,rng_nat (by omega)]
     simp only[bsome]
     rw[ix_nat (show i-1<t.length by omega)]
     simp only[bsome,less_eq]
     have hz:decide (i=0)=false:=by simp;omega
     rw[hz,Bool.false_or,Bool.true_and]
     by_cases hl:(t[i-1]'(by omega)).path_<t[i].path_
     ·
      rw[decide_eq_true hl];simpa using ih
     ·
      rw[decide_eq_false hl];simp
    ·
     rw[if_neg (by simpa using h0)]
     have hz:i=0:=by omega
     subst hz
     simpa using ih
  ·
   rw[if_neg (by simpa using hi)]
   have:i=t.length:=by omega
   subst this
   rw[okFrom_end,if_pos rfl]
   exact f_sidingref21_Check_L39_eq hn t ht n 0 (by omega) (by omega)
theorem f_tree_Check_eq {n:Nat} (hn:3000<n) (t:List GFile):f_tree_Check n t=some (chk t):=by
 unfold f_tree_Check chk
 by_cases h:12<t.length
 ·
  rw[if_pos (by simp;omega),if_pos h]
 ·
  rw[if_neg (by simp;omega),if_neg h]
  exact f_tree_Check_L8_eq hn t (by omega) n 0 (by omega) (by omega)
theorem f_sidingref21_Check_eq {n:Nat} (hn:3000<n) (t:List GFile):f_sidingref21_Check n t=some (chk t):=by
 unfold f_sidingref21_Check chk
 by_cases h:12<t.length
 ·
  rw[if_pos (by simp;omega),if_pos h]
 ·
  rw[if_neg (by simp;omega),if_neg h]
  exact f_sidingref21_Check_L8_eq hn t (by omega) n 0 (by omega) (by omega)
theorem f_sidingref21_Long_eq {n:Nat} (hn:100<n) (t:List GFile):∃ r,f_sidingref21_Long n t=some r∧(r=false→t.length≤40∧∀ x∈t,x.path_.length≤200∧x.text_.length≤3000):=by
 have key:∀ (m i:Nat),42<m+i→i≤t.length→i≤41→(∀ x∈t.take i,x.path_.length≤200∧x.text_.length≤3000)→∃ r,f_sidingref21_Long_L5 t m (i:Int)=some r∧(r=false→t.length≤40∧∀ x∈t,x.path_.length≤200∧x.text_.length≤3000):=by
  intro m
  induction m with
  | zero=>intro i h1 h2 h3;omega
  | succ m ih =>
   intro i h1 h2 h3 h4
   rw[f_sidingref21_Long_L5]
   by_cases hi:i<t.length∧i≤40
   ·
    obtain ⟨hi,hi2⟩:=hi
    rw[if_pos (by simp;omega),ix_nat hi]
    simp only[bsome,rng_succ (show i<4611686018427387904 by omega)]
    cases e:((decide ((t[i].path_.length:Int)>200))||(decide ((t[i].text_.length:Int)>3000))) with
    | true=>exact ⟨true,by simp,by simp⟩
    | false =>
     simp only[Bool.false_eq_true,if_false]
     simp at e
     refine ih (i+1) (by omega) (by omega) (by omega) ?_
     intro x hx
     rw[List.take_succ_eq_append_getElem hi,List.mem_append] at hx
     rcases hx with hx | hx
     ·
      exact h4 x hx
     ·
      simp at hx;subst hx;omega
   ·
    rw[if_neg (by simp;omega)]
    refine ⟨_,rfl,fun hr=>?_⟩
    simp at hr
    have:i=t.length:=by omega
    subst this
    rw[List.take_length] at h4
    exact ⟨by omega,h4⟩
 exact key n 0 (by omega) (by omega) (by omega) (by simp)
theorem f_sidingref21_Has_eq {n:Nat} (t:List GFile) (p:S) (ht:t.length<1000000) (hn:t.length<n):f_sidingref21_Has n t p=some (match t.find? fun x=>x.path_==p with
  | some x=>(x.text_,true)
  | none=>([],false)):=by
 have key:∀ (m i:Nat),t.length<m+i→i≤t.length→f_sidingref21_Has_L5 t p m (i:Int)=some (match (t.drop i).find? fun x=>x.path_==p with
  | some x=>(x.text_,true)
  | none=>([],false)):=by
  intro m
  induction m with
  | zero=>intro i h1 h2;omega
  | succ m ih =>
   intro i h1 h2
   rw[f_sidingref21_Has_L5]
   by_cases hi:i<t.length
   ·
    rw[if_pos (by simpa using hi),ix_nat hi]
    simp only[bsome,rng_succ (show i<4611686018427387904 by omega)]
    rw[List.drop_eq_getElem_cons hi,List.find?_cons]
    cases e:(t[i].path_==p) with
    | true=>simp
    | false=>simpa using ih (i+1) (by omega) (by omega)
   ·
    rw[if_neg (by simpa using hi)]
    have:i=t.length:=by omega
    subst this
    simp
 exact key n 0 (by omega) (by omega)
theorem s_irrefl (a:S):¬a<a:=List.lt_irrefl a
theorem s_trans {a b c:S} (h1:a<b) (h2:b<c):a<c:=List.lt_trans h1 h2
theorem s_tri:∀ (a b:S),a<b∨a=b∨b<a
 | [],[]=>.inr (.inl rfl)
 | [],b::v=>.inl (by simp)
 | a::u,[]=>.inr (.inr (by simp))
 | a::u,b::v=>by
  simp only[List.cons_lt_cons_iff,List.cons.injEq]
  by_cases h:a<b
  ·
   exact .inl (.inl h)
  ·
   by_cases h':b<a
   ·
    exact .inr (.inr (.inl h'))
   ·
    have he:a=b:=by
     have e1:¬a.toNat<b.toNat:=fun e=>h (UInt8.lt_iff_toNat_lt.2 e)
     have e2:¬b.toNat<a.toNat:=fun e=>h' (UInt8.lt_iff_toNat_lt.2 e)
     exact UInt8.toNat_inj.1 (by omega)
    subst he
    rcases s_tri u v with h1 | h1 | h1
    ·
     exact .inl (.inr ⟨rfl,h1⟩)
    ·
     exact .inr (.inl ⟨rfl,h1⟩)
    ·
     exact .inr (.inr (.inr ⟨rfl,h1⟩))
abbrev Sorted (t:List GFile):Prop:=t.Pairwise fun x y=>x.path_<y.path_
theorem okFrom_all {t:List GFile}:∀ {i:Nat},i≤t.length→okFrom t i=true→∀ j (h:j<t.length),i≤j→okPath t[j].path_=true∧(j=0∨(t[j-1]'(by omega)).path_<t[j].path_):=by
 intro i hi ho j h hij
 unfold okFrom at ho
 rw[List.all_eq_true] at ho
 have:=ho j (List.mem_range'_1.2 ⟨hij,by omega⟩)
 rw[List.getElem?_eq_getElem h,List.getElem?_eq_getElem (show j-1<t.length by omega)] at this
 simpa using this
theorem okFrom_of {t:List GFile} (h:∀ j (h:j<t.length),okPath t[j].path_=true∧(j=0∨(t[j-1]'(by omega)).path_<t[j].path_)):okFrom t 0=true:=by
 unfold okFrom
 rw[List.all_eq_true]
 intro j hj
 have hj':j<t.length:=by have:=List.mem_range'_1.1 hj;omega
 rw[List.getElem?_eq_getElem hj',List.getElem?_eq_getElem (show j-1<t.length by omega)]
 simpa using h j hj'
theorem sorted_of_ok {t:List GFile} (h:okFrom t 0=true):Sorted t:=by
 have hs:=okFrom_all (Nat.zero_le _) h
 rw[Sorted,List.pairwise_iff_getElem]
 intro i j hi hj hij
 have key:∀ d,∀ j (hj:j<t.length),j=i+d+1→t[i].path_<t[j].path_:=by
  intro d
  induction d with
  | zero =>
   intro j hj e
   have:=(hs j hj (by omega)).2.resolve_left (by omega)
   simpa[show j-1=i by omega] using this
  | succ d ih =>
   intro j hj e
   have h1:=ih (j-1) (by omega) (by omega)
   have h2:=(hs j hj (by omega)).2.resolve_left (by omega)
   exact s_trans h1 h2
 exact key (j-i-1) j hj (by omega)
theorem chk_iff {t:List GFile}:chk t=0↔t.length≤12∧(∀ x∈t,okPath x.path_=true)∧Sorted t∧∀ x∈t,txtE x.text_=0:=by
 unfold chk
 by_cases h:12<t.length
 ·
  rw[if_pos h];simp;omega
 rw[if_neg h]
 by_cases ho:okFrom t 0=true
 ·
  rw[if_pos ho]
  have hs:=okFrom_all (Nat.zero_le _) ho
  have hp:∀ x∈t,okPath x.path_=true:=by
   intro x hx
   obtain ⟨j,hj,rfl⟩:=List.mem_iff_getElem.1 hx
   exact (hs j hj (by omega)).1
  have ht:txtFrom t 0=0↔∀ x∈t,txtE x.text_=0:=by
   unfold txtFrom
   rw[List.drop_zero]
   cases e:t.find? (fun x=>txtE x.text_ != 0) with
   | none =>
    rw[List.find?_eq_none] at e
    simpa using e
   | some x =>
    have h1:=List.mem_of_find?_eq_some e
    have h2:=List.find?_some e
    simp at h2
    simp only
    exact ⟨fun h=>absurd h h2,fun h=>absurd (h x h1) h2⟩
  rw[ht]
  exact ⟨fun h4=>⟨by omega,hp,sorted_of_ok ho,h4⟩,fun h=>h.2.2.2⟩
 ·
  rw[if_neg ho]
  refine ⟨fun h=>by omega,fun ⟨_,h2,h3,_⟩=>absurd (okFrom_of fun j hj=>⟨h2 _ (List.getElem_mem hj),?_⟩) ho⟩
  by_cases h0:j=0
  ·
   exact .inl h0
  ·
   exact .inr (List.pairwise_iff_getElem.1 h3 (j-1) j (by omega) hj (by omega))
theorem find_none {t:List GFile} {p:S} (h:∀ x∈t,x.path_≠p):t.find? (fun y=>y.path_==p)=none:=by
 rw[List.find?_eq_none]
 intro x hx
 simpa using h x hx
structure Good (t:List GFile):Prop where
 le:t.length≤12
 path:∀ x∈t,okPath x.path_=true
 sorted:Sorted t
 text:∀ x∈t,txtE x.text_=0
theorem good_iff {t:List GFile}:chk t=0↔Good t:=by
 rw[chk_iff]
 exact ⟨fun ⟨a,b,c,d⟩=>⟨a,b,c,d⟩,fun ⟨a,b,c,d⟩=>⟨a,b,c,d⟩⟩
theorem txt_le {s:S} (h:txtE s=0):s.length≤lim:=by
 unfold txtE at h
 split at h
 ·
  unfold lim;omega
 ·
  cases h
theorem lmt_ok {α:Type} {l:List α} (h:l.length≤lim):lmt l=some l:=by unfold lmt;rw[if_pos h]
theorem ixO_nat {α:Type} {l:List (Option α)} {i:Nat} {x:α} (h:l[i]?=some (some x)):ixO l (i:Int)=some x:=by
 unfold ixO ix
 rw[if_pos (by omega)]
 simp[h]
theorem ix_get {α:Type} {l:List α} {i:Nat} {x:α} (h:l[i]?=some x):ix l (i:Int)=some x:=by
 unfold ix
 rw[if_pos (by omega)]
 simpa using h
def Filled (a b:List S) (t:List (Option (List Int))) (fin:Nat→Nat→Prop):Prop :=
 t.length=a.length+1∧∀ x,x≤a.length→∃ row:List Int,t[x]?=some (some row)∧row.length=b.length+1∧∀ y,y≤b.length→fin x y→row[y]?=some ((common (a.drop x) (b.drop y):Nat):Int)
theorem Filled.mono {a b:List S} {t:List (Option (List Int))} {f g:Nat→Nat→Prop} (h:Filled a b t f) (hfg:∀ x y,x≤a.length→y≤b.length→g x y→f x y):Filled a b t g:=by
 refine ⟨h.1,fun x hx=>?_⟩
 obtain ⟨row,h1,h2,h3⟩:=h.2 x hx
 exact ⟨row,h1,h2,fun y hy hg=>h3 y hy (hfg x y hx hy hg)⟩
theorem Filled.set {a b:List S} {t:List (Option (List Int))} {f:Nat→Nat→Prop} {x y:Nat} {row:List Int} (h:Filled a b t f) (hx:x<a.length+1) (hy:y≤b.length) (hr:t[x]?=some (some row)) :
  Filled a b (t.set x (some (row.set y ((common (a.drop x) (b.drop y):Nat):Int)))) (fun x' y'=>f x' y'∨(x'=x∧y'=y)):=by
 refine ⟨by simp[h.1],fun x' hx'=>?_⟩
 obtain ⟨row',h1,h2,h3⟩:=h.2 x' hx'
 by_cases hxx:x=x'
 ·
  subst hxx
  rw[hr] at h1
  have e:row=row':=by simpa using h1
  subst e
  refine ⟨row.set y ((common (a.drop x) (b.drop y):Nat):Int),?_,by simp[h2],fun y' hy' hf=>?_⟩
  ·
   rw[List.getElem?_set];simp[h.1,hx]
  ·
   rw[List.getElem?_set]
   by_cases hyy:y=y'
   ·
    subst hyy;simp;omega
   ·
    rw[if_neg hyy]
    rcases hf with hf | hf
    ·
     exact h3 y' hy' hf
    ·
     exact absurd hf.2.symm hyy
 ·
  refine ⟨row',by rw[List.getElem?_set,if_neg hxx];exact h1,h2,fun y' hy' hf=>?_⟩
  rcases hf with hf | hf
  ·
   exact h3 y' hy' hf
  ·
   exact absurd hf.1.symm hxx
theorem tab45 {a b:List S} (ha:a.length<1000000) (hb:b.length<1000000) {m:Nat} (hm:m<a.length) (rec:List (Option (List Int))→Int→Option (List (Option (List Int)))):∀ (c fuel:Nat) (t:List (Option (List Int))),c≤b.length→c<fuel→Filled a b t (fun x y=>m<x∨y=b.length∨(x=m∧c≤y)) →
  ∃ t',Filled a b t' (fun x y=>m≤x∨y=b.length)∧f_lcs_table_L45 a b (m:Int) rec fuel t ((c:Int)-1)=rec t' ((m:Int)-1):=by
 intro c
 induction c with
 | zero =>
  intro fuel t _ hf ht
  obtain ⟨fuel,rfl⟩:∃ k,fuel=k+1:=⟨fuel-1,by omega⟩
  refine ⟨t,ht.mono fun x y _ _ h=>?_,?_⟩
  ·
   rcases h with h | h
   ·
    rcases Nat.lt_or_eq_of_le h with h | h
    ·
     exact Or.inl h
    ·
     exact Or.inr (Or.inr ⟨h.symm,Nat.zero_le _⟩)
   ·
    exact Or.inr (Or.inl h)
  ·
   unfold f_lcs_table_L45
   rw[if_neg (by simp)]
   rw[rng_ok (by omega) (by omega)]
   simp
 | succ c ih =>
  intro fuel t hc hf ht
  obtain ⟨fuel,rfl⟩:∃ k,fuel=k+1:=⟨fuel-1,by omega⟩
  have e0:((c+1:Nat):Int)-1=(c:Int):=by omega
  have hcb:c<b.length:=by omega
  obtain ⟨row,r1,r2,r3⟩:=ht.2 m (by omega)
  obtain ⟨row',s1,s2,s3⟩:=ht.2 (m+1) (by omega)
  have v1:=s3 (c+1) (by omega) (Or.inl (by omega))
  have v2:=s3 c (by omega) (Or.inl (by omega))
  have v3:=r3 (c+1) (by omega) (Or.inr (Or.inr ⟨rfl,Nat.le_refl _⟩))
  have hp:=common_pair (a:=a) (b:=b) hm hcb
  have bound:∀ (p q:List S),common p q≤p.length:=by
   intro p q
   fun_induction common p q <;> simp_all <;> omega
  have b1:=bound (a.drop (m+1)) (b.drop (c+1))
  have b0:(a.drop (m+1)).length≤a.length:=by simp
  have hset:=ht.set (x:=m) (y:=c) (row:=row) (by omega) (by omega) r1
  have e1:((m:Int)+1)=((m+1:Nat):Int):=by omega
  have e2:((c:Int)+1)=((c+1:Nat):Int):=by omega
  unfold f_lcs_table_L45
  rw[e0,if_pos (by simp),ix_nat hm,bsome,ix_nat hcb,bsome]
  obtain ⟨t',h1,h2⟩:=ih fuel _ (by omega) (by omega) (hset.mono fun x y _ _ h=>by
   rcases h with h | h | ⟨h,h'⟩
   ·
    exact Or.inl (Or.inl h)
   ·
    exact Or.inl (Or.inr (Or.inl h))
   ·
    rcases Nat.lt_or_eq_of_le h' with h' | h'
    ·
     exact Or.inl (Or.inr (Or.inr ⟨h,h'⟩))
    ·
     exact Or.inr ⟨h,h'.symm⟩)
  refine ⟨t',h1,?_⟩
  by_cases hab:a[m]=b[c]
  ·
   rw[if_pos (by simp[hab])]
   rw[if_pos hab] at hp
   rw[need_ok (by rw[ht.1];omega),bsome,ixO_nat r1,bsome,rng_succ (by omega),bsome,need_ok (by rw[ht.1];omega),bsome,ixO_nat s1,bsome,rng_succ (by omega),bsome,ix_get v1,bsome,rng_ok (by omega) (by omega),bsome]
   rw[show ix row (c:Int)=some row[c] from ix_nat (by omega),bsome,rng_ok (by omega) (by omega),bsome]
   rw[←h2,hp]
   simp[Int.add_comm]
  ·
   rw[if_neg (by simp[hab])]
   rw[if_neg hab] at hp
   rw[need_ok (by rw[ht.1];omega),bsome,ixO_nat r1,bsome,rng_succ (by omega),bsome,need_ok (by rw[ht.1];omega),bsome,ixO_nat s1,bsome,ix_get v2,bsome,rng_succ (by omega),bsome,ix_get v3,bsome]
   rw[show ix row (c:Int)=some row[c] from ix_nat (by omega),bsome,rng_ok (by omega) (by omega),bsome]
   rw[←h2,hp]
   have em:(if ((common (a.drop m) (b.drop (c+1)):Nat):Int)>((common (a.drop (m+1)) (b.drop c):Nat):Int) then ((common (a.drop m) (b.drop (c+1)):Nat):Int) else ((common (a.drop (m+1)) (b.drop c):Nat):Int))=((max (common (a.drop (m+1)) (b.drop c)) (common (a.drop m) (b.drop (c+1))):Nat):Int):=by
    split <;> omega
   rw[em]
   simp
theorem tab32 {a b:List S} (ha:a.length<1000000) (hb:b.length<1000000):∀ (m fuel:Nat) (t:List (Option (List Int))),m≤a.length→m+b.length+1<fuel→Filled a b t (fun x y=>m≤x∨y=b.length) →
  ∃ t',Filled a b t' (fun _ _=>True)∧f_lcs_table_L32 a b fuel t ((m:Int)-1)=some t':=by
 intro m
 induction m with
 | zero =>
  intro fuel t _ hf ht
  obtain ⟨fuel,rfl⟩:∃ k,fuel=k+1:=⟨fuel-1,by omega⟩
  refine ⟨t,ht.mono fun x y _ _ _=>Or.inl (Nat.zero_le _),?_⟩
  unfold f_lcs_table_L32
  rw[if_neg (by simp)]
 | succ m ih =>
  intro fuel t hm hf ht
  obtain ⟨fuel,rfl⟩:∃ k,fuel=k+1:=⟨fuel-1,by omega⟩
  have e0:((m+1:Nat):Int)-1=(m:Int):=by omega
  obtain ⟨t1,h1,h2⟩:=tab45 ha hb (m:=m) (by omega) (fun a103 a104=>f_lcs_table_L32 a b fuel a103 a104) b.length fuel t (Nat.le_refl _) (by omega) (ht.mono fun x y hx hy h=>by
   rcases h with h | h | h
   ·
    exact Or.inl (by omega)
   ·
    exact Or.inr h
   ·
    exact Or.inr (by omega))
  obtain ⟨t',h3,h4⟩:=ih fuel t1 (by omega) (by omega) h1
  refine ⟨t',h3,?_⟩
  unfold f_lcs_table_L32
  rw[e0,if_pos (by simp),rng_ok (by omega) (by omega),bsome,h2,h4]
theorem common_nil_left (b:List S):common ([]:List S) b=0:=by simp[common]
theorem tab9 {a b:List S} (ha:a.length<1000000) (hb:b.length<1000000) (hl:(1000001:Int)≤(lim:Int)) (n:Nat) (hn:a.length+b.length+2<n):∀ (c fuel:Nat) (t:List (Option (List Int))),c≤a.length+1→a.length+1-c<fuel→t.length=a.length+1→(∀ x,x<c→t[x]?=some (some (List.replicate (b.length+1) 0))) →
  ∃ t',Filled a b t' (fun _ _=>True)∧f_lcs_table_L9 n a b ((a.length:Int)+1) fuel t (c:Int)=some t':=by
 have main:∀ (k c fuel:Nat) (t:List (Option (List Int))),a.length+1-c=k→c≤a.length+1→a.length+1-c<fuel→t.length=a.length+1→(∀ x,x<c→t[x]?=some (some (List.replicate (b.length+1) 0))) →
  ∃ t',Filled a b t' (fun _ _=>True)∧f_lcs_table_L9 n a b ((a.length:Int)+1) fuel t (c:Int)=some t':=by
  intro k
  induction k with
  | zero =>
   intro c fuel t hk hc hf hlen ht
   obtain ⟨fuel,rfl⟩:∃ k,fuel=k+1:=⟨fuel-1,by omega⟩
   have fil:Filled a b t (fun x y=>a.length≤x∨y=b.length):=by
    refine ⟨hlen,fun x hx=>⟨_,ht x (by omega),by simp,fun y hy h=>?_⟩⟩
    rw[List.getElem?_replicate,if_pos (by omega)]
    rcases h with h | h
    ·
     rw[List.drop_of_length_le (l:=a) h,common_nil_left];rfl
    ·
     rw[List.drop_of_length_le (l:=b) (by omega),common_nil];rfl
   obtain ⟨t',h1,h2⟩:=tab32 ha hb a.length n t (Nat.le_refl _) (by omega) fil
   refine ⟨t',h1,?_⟩
   unfold f_lcs_table_L9
   rw[if_neg (by simp;omega),rng_ok (by omega) (by omega),bsome,h2]
  | succ k ih =>
   intro c fuel t hk hc hf hlen ht
   obtain ⟨fuel,rfl⟩:∃ k,fuel=k+1:=⟨fuel-1,by omega⟩
   have e1:((b.length:Int)+1).toNat=b.length+1:=by omega
   obtain ⟨t',h1,h2⟩:=ih (c+1) fuel (t.set c (some (List.replicate (b.length+1) 0))) (by omega) (by omega) (by omega) (by simp[hlen]) (fun x hx=>by
    rw[List.getElem?_set]
    by_cases hxc:c=x
    ·
     subst hxc;simp;omega
    ·
     rw[if_neg hxc];exact ht x (by omega))
   refine ⟨t',h1,?_⟩
   obtain ⟨w,hw⟩:∃ w,t[c]?=some w:=⟨t[c]'(by omega),List.getElem?_eq_getElem (by omega)⟩
   unfold f_lcs_table_L9
   rw[if_pos (by simp;omega),rng_ok (by omega) (by omega),bsome,need_ok (by omega),bsome,need_ok (by omega),bsome,ix_get hw,bsome,rng_succ (by omega),bsome]
   rw[←h2,e1]
   simp
 intro c fuel t
 exact main _ c fuel t rfl
theorem table_law {a b:List S} (ha:a.length<1000000) (hb:b.length<1000000) (hl:(1000001:Int)≤(lim:Int)) (n:Nat) (hn:a.length+b.length+2<n) :
  ∃ t',Filled a b t' (fun _ _=>True)∧f_lcs_table n a b=some t':=by
 have e1:((a.length:Int)+1).toNat=a.length+1:=by omega
 obtain ⟨t',h1,h2⟩:=tab9 ha hb hl n hn 0 n (List.replicate (a.length+1) none) (by omega) (by omega) (by simp) (fun x hx=>by omega)
 refine ⟨t',h1,?_⟩
 unfold f_lcs_table
 rw[rng_ok (by omega) (by omega),bsome,need_ok (by omega),bsome,e1]
 exact h2
structure GoodP (a b:List S) (w:Nat) (x y:Nat):Prop where
 hx:x<a.length
 hy:y<b.length
 eq:a[x]=b[y]
 rest:common (a.drop (x+1)) (b.drop (y+1))+1=w
theorem Filled.at {a b:List S} {t:List (Option (List Int))} (h:Filled a b t (fun _ _=>True)) {x y:Nat} (hx:x≤a.length) (hy:y≤b.length):∃ row:List Int,t[x]?=some (some row)∧row[y]?=some ((common (a.drop x) (b.drop y):Nat):Int):=by
 obtain ⟨row,h1,_,h3⟩:=h.2 x hx
 exact ⟨row,h1,h3 y hy trivial⟩
theorem next15 {a b:List S} (ha:a.length<1000000) (hb:b.length<1000000) {t:List (Option (List Int))} (ht:Filled a b t (fun _ _=>True)) {w:Nat} (hw:w<1000000) {x:Nat} (hx:x<a.length) (rec:Int→Option (Int×Int)):∀ (k c fuel:Nat),b.length-c=k→c≤b.length→k<fuel →
  (∃ y,c≤y∧GoodP a b w x y∧f_lcs_next_L15 a b t (w:Int) (x:Int) rec fuel (c:Int)=some ((x:Int),(y:Int)))∨((∀ y,c≤y→¬GoodP a b w x y)∧f_lcs_next_L15 a b t (w:Int) (x:Int) rec fuel (c:Int)=rec ((x+1:Nat):Int)):=by
 intro k
 induction k with
 | zero =>
  intro c fuel hk hc hf
  obtain ⟨fuel,rfl⟩:∃ k,fuel=k+1:=⟨fuel-1,by omega⟩
  refine Or.inr ⟨fun y hy hg=>?_,?_⟩
  ·
   have:=hg.hy
   omega
  ·
   unfold f_lcs_next_L15
   rw[if_neg (by simp;omega),rng_succ (by omega),bsome]
 | succ k ih =>
  intro c fuel hk hc hf
  obtain ⟨fuel,rfl⟩:∃ k,fuel=k+1:=⟨fuel-1,by omega⟩
  have hcb:c<b.length:=by omega
  obtain ⟨row,r1,r2⟩:=ht.at (x:=x+1) (y:=c+1) (by omega) (by omega)
  have step:¬GoodP a b w x c→f_lcs_next_L15 a b t (w:Int) (x:Int) rec (fuel+1) (c:Int)=f_lcs_next_L15 a b t (w:Int) (x:Int) rec fuel ((c+1:Nat):Int):=by
   intro hng
   rw[f_lcs_next_L15.eq_2]
   rw[if_pos (by simp;omega),ix_nat hx,bsome,ix_nat hcb,bsome]
   by_cases hab:a[x]=b[c]
   ·
    rw[if_pos (by simp[hab]),rng_succ (by omega),bsome,ixO_nat r1,bsome,rng_succ (by omega),bsome,ix_get r2,bsome,rng_ok (by omega) (by omega),bsome]
    rw[if_neg (by
     intro hh
     have hh':((common (a.drop (x+1)) (b.drop (c+1)):Nat):Int)=(w:Int)-1:=by simpa using hh
     exact hng ⟨hx,hcb,hab,by omega⟩),bsome]
   ·
    rw[if_neg (by simp[hab]),rng_succ (by omega),bsome]
  by_cases hg:GoodP a b w x c
  ·
   refine Or.inl ⟨c,Nat.le_refl _,hg,?_⟩
   have hr:=hg.rest
   rw[f_lcs_next_L15.eq_2]
   rw[if_pos (by simp;omega),ix_nat hx,bsome,ix_nat hcb,bsome,if_pos (by simp[hg.eq]),rng_succ (by omega),bsome,ixO_nat r1,bsome,rng_succ (by omega),bsome,ix_get r2,bsome,rng_ok (by omega) (by omega),bsome]
   rw[if_pos (by simp;omega)]
  ·
   rw[step hg]
   rcases ih (c+1) fuel (by omega) (by omega) (by omega) with ⟨y,h1,h2,h3⟩ | ⟨h1,h2⟩
   ·
    exact Or.inl ⟨y,by omega,h2,h3⟩
   ·
    refine Or.inr ⟨fun y hy hgy=>?_,h2⟩
    rcases Nat.lt_or_eq_of_le hy with hy | hy
    ·
     exact h1 y hy hgy
    ·
     subst hy;exact hg hgy
theorem next8 {a b:List S} (ha:a.length<1000000) (hb:b.length<1000000) {t:List (Option (List Int))} (ht:Filled a b t (fun _ _=>True)) {w:Nat} (hw:w<1000000) {k:Nat} (hk:k≤b.length) {x0 y0:Nat} (hy0:k≤y0) (hg0:GoodP a b w x0 y0):∀ (m x fuel:Nat),x0-x=m→x≤x0→m+b.length+1<fuel →
  ∃ x' y',x≤x'∧k≤y'∧GoodP a b w x' y'∧f_lcs_next_L8 a b t (k:Int) (w:Int) fuel (x:Int)=some ((x':Int),(y':Int)):=by
 intro m
 induction m with
 | zero =>
  intro x fuel hm hx hf
  have e:x=x0:=by omega
  subst e
  obtain ⟨fuel,rfl⟩:∃ k,fuel=k+1:=⟨fuel-1,by omega⟩
  rw[f_lcs_next_L8.eq_2]
  rcases next15 ha hb ht hw hg0.hx (fun a48=>f_lcs_next_L8 a b t (k:Int) (w:Int) fuel a48) _ k fuel rfl hk (by omega) with ⟨y,h1,h2,h3⟩ | ⟨h1,_⟩
  ·
   exact ⟨x,y,Nat.le_refl _,h1,h2,h3⟩
  ·
   exact absurd hg0 (h1 y0 hy0)
 | succ m ih =>
  intro x fuel hm hx hf
  obtain ⟨fuel,rfl⟩:∃ k,fuel=k+1:=⟨fuel-1,by omega⟩
  have hxa:x<a.length:=by have:=hg0.hx;omega
  rw[f_lcs_next_L8.eq_2]
  rcases next15 ha hb ht hw hxa (fun a48=>f_lcs_next_L8 a b t (k:Int) (w:Int) fuel a48) _ k fuel rfl hk (by omega) with ⟨y,h1,h2,h3⟩ | ⟨_,h2⟩
  ·
   exact ⟨x,y,Nat.le_refl _,h1,h2,h3⟩
  ·
   rw[h2]
   obtain ⟨x',y',h3,h4,h5,h6⟩:=ih (x+1) fuel (by omega) (by omega) (by omega)
   exact ⟨x',y',by omega,h4,h5,h6⟩
theorem common_le_left:∀ (p q:List S),common p q≤p.length:=by
 intro p q
 fun_induction common p q <;> simp_all <;> omega
theorem next_law {a b:List S} (ha:a.length<1000000) (hb:b.length<1000000) {t:List (Option (List Int))} (ht:Filled a b t (fun _ _=>True)) {n:Nat} (hn:a.length+b.length+2<n) {i k:Nat} (hi:i≤a.length) (hk:k≤b.length) (hc:0<common (a.drop i) (b.drop k)) :
  ∃ x y,i≤x∧k≤y∧GoodP a b (common (a.drop i) (b.drop k)) x y∧f_lcs_next n a b t (i:Int) (k:Int)=some ((x:Int),(y:Int)):=by
 obtain ⟨x0,y0,hx,hy,h1,h2,h3,h4⟩:=common_find _ i k (Nat.le_refl _) hc
 have hle:=common_le_left (a.drop i) (b.drop k)
 have hlen:(a.drop i).length≤a.length:=by simp
 obtain ⟨row,r1,r2⟩:=ht.at hi hk
 obtain ⟨x,y,g1,g2,g3,g4⟩:=next8 ha hb ht (w:=common (a.drop i) (b.drop k)) (by omega) hk h2 ⟨hx,hy,h3,h4⟩ _ i n rfl h1 (by omega)
 refine ⟨x,y,g1,g2,g3,?_⟩
 unfold f_lcs_next
 rw[ixO_nat r1,bsome,ix_get r2,bsome,g4]
def asMatch (p:Nat×Nat):GMatch:=⟨(p.1:Int),(p.2:Int)⟩
def oddLn (s:S):Bool:=decide ((10:UInt8)∈s)
theorem f_lines_odd_1_eq {n:Nat} (s:S):f_lines_odd_1 n s=some (oddLn s):=by
 unfold f_lines_odd_1 f_strings_IndexByte f_stringslite_IndexByte oddLn
 rw[bsome,bsome]
 rw[show ((10:Int).toNat.toUInt8)=(10:UInt8) from rfl]
 rcases idx8_spec 10 s 0 with ⟨h1,h2⟩ | ⟨a,b,h1,h2,h3⟩
 ·
  rw[h2];simp[h1]
 ·
  rw[h3];subst h1;simp
theorem oddL5_eq (n:Nat) (l:List S) (hl:l.length<1000000):∀ (m i:Nat),i≤l.length→l.length<m+i→∃ r:Int,f_slices_IndexFunc_string_by_lines_odd_1_L5 n l m (i:Int)=some r∧decide (r≥0)=(l.drop i).any oddLn:=by
 intro m
 induction m with
 | zero=>intro i h1 h2;omega
 | succ m ih =>
  intro i h1 h2
  rw[f_slices_IndexFunc_string_by_lines_odd_1_L5.eq_2]
  by_cases hi:i<l.length
  ·
   rw[if_pos (by simpa using hi),ix_nat hi,bsome,f_lines_odd_1_eq,bsome,List.drop_eq_getElem_cons hi,List.any_cons]
   cases e:oddLn l[i] with
   | true=>exact ⟨i,by simp,by simp⟩
   | false =>
    obtain ⟨r,h3,h4⟩:=ih (i+1) (by omega) (by omega)
    refine ⟨r,?_,by simpa using h4⟩
    rw[if_neg (by simp),rng_succ (by omega),bsome]
    exact h3
  ·
   rw[if_neg (by simpa using hi)]
   have:i=l.length:=by omega
   subst this
   exact ⟨-1,rfl,by simp⟩
theorem f_lines_odd_eq {n:Nat} {l:List S} (hl:l.length<1000000) (hn:l.length<n):f_lines_odd n l=some (l.any oddLn):=by
 unfold f_lines_odd f_slices_ContainsFunc_string_by_lines_odd_1 f_slices_IndexFunc_string_by_lines_odd_1
 obtain ⟨r,h3,h4⟩:=oddL5_eq n l hl n 0 (by omega) (by omega)
 rw[show ((0:Nat):Int)=0 from rfl] at h3
 rw[h3,bsome,bsome,h4,List.drop_zero]
def sizeL (l:List S):Nat:=(l.map List.length).sum
def linE (l:List S):Int:=if 60<l.length then 4 else if 2001<sizeL l+l.length then 4 else if l.length=0 then 8 else if l.any oddLn then 8 else 0
theorem lines_L11 {n:Nat} {l:List S} (hl:l.length≤60) (hz:sizeL l<1000000000) (hn:l.length<n):∀ (m k fuel:Nat) (z:Int),l.length-k=m→k≤l.length→m<fuel→z=((sizeL (l.take k):Nat):Int)+(l.length:Int)-1→f_lines_check_L11 n l fuel z (k:Int)=some (linE l):=by
 intro m
 induction m with
 | zero =>
  intro k fuel z hm hk hf hzz
  obtain ⟨fuel,rfl⟩:∃ k,fuel=k+1:=⟨fuel-1,by omega⟩
  rw[List.take_of_length_le (by omega)] at hzz
  rw[f_lines_check_L11.eq_2,if_neg (by simp;omega),f_lines_odd_eq (by omega) hn,bsome]
  by_cases h1:2001<sizeL l+l.length
  ·
   have hE:linE l=4:=by unfold linE;rw[if_neg (by omega),if_pos h1]
   rw[if_pos (by simp;omega),hE]
  ·
   rw[if_neg (by simp;omega)]
   by_cases h2:l.length=0
   ·
    have hE:linE l=8:=by unfold linE;rw[if_neg (by omega),if_neg h1,if_pos h2]
    rw[if_pos (by simp[h2]),hE]
   ·
    have hE:linE l=if l.any oddLn then 8 else 0:=by unfold linE;rw[if_neg (by omega),if_neg h1,if_neg h2]
    rw[if_neg (by simp only[beq_iff_eq];omega),hE]
    cases l.any oddLn <;> simp
 | succ m ih =>
  intro k fuel z hm hk hf hzz
  obtain ⟨fuel,rfl⟩:∃ k,fuel=k+1:=⟨fuel-1,by omega⟩
  have hkl:k<l.length:=by omega
  have e1:sizeL (l.take (k+1))=sizeL (l.take k)+l[k].length:=by
   unfold sizeL
   rw[List.take_succ_eq_append_getElem hkl,List.map_append,List.sum_append];rfl
  have e2:sizeL (l.take (k+1))≤sizeL l:=by
   have:sizeL l=sizeL (l.take (k+1))+sizeL (l.drop (k+1)):=by
    unfold sizeL
    rw[←List.sum_append,←List.map_append,List.take_append_drop]
   omega
  rw[f_lines_check_L11.eq_2,if_pos (by simp;omega),ix_nat hkl,bsome,rng_ok (by omega) (by omega),bsome,rng_succ (by omega),bsome]
  exact ih (k+1) fuel _ (by omega) (by omega) (by omega) (by omega)
theorem f_lines_check_eq {n:Nat} {l:List S} (hz:sizeL l<1000000000) (hn:l.length<n) (hb:l.length<1000000):f_lines_check n l=some (linE l):=by
 unfold f_lines_check
 by_cases h:60<l.length
 ·
  rw[if_pos (by simp;omega)]
  unfold linE;rw[if_pos h]
 ·
  rw[if_neg (by simp;omega),rng_ok (by omega) (by omega),bsome]
  exact lines_L11 (by omega) hz hn l.length 0 n _ rfl (by omega) (by omega) (by simp[sizeL])
theorem join_split (c:UInt8):∀ s:S,joinL (splitC c s) [c]=s
 | []=>by simp[splitC,joinL]
 | x::xs=>by
  have ih:=join_split c xs
  unfold splitC
  by_cases h:x=c
  ·
   rw[if_pos h]
   subst h
   cases e:splitC x xs with
   | nil=>exact absurd e (splitC_ne x xs)
   | cons y ys=>rw[joinL,←e,ih];rfl
  ·
   rw[if_neg h]
   cases e:splitC c xs with
   | nil=>exact absurd e (splitC_ne c xs)
   | cons y ys =>
    rw[e] at ih
    cases ys with
    | nil=>simp only[joinL] at ih ⊢;rw[ih]
    | cons z zs=>simp only[joinL] at ih ⊢;rw[List.cons_append,ih]
theorem split_odd (s:S):(splitC 10 s).any oddLn=false:=by
 induction s with
 | nil=>simp[splitC,oddLn]
 | cons x xs ih =>
  unfold splitC
  by_cases h:x=10
  ·
   rw[if_pos h,List.any_cons,ih];simp[oddLn]
  ·
   rw[if_neg h]
   cases e:splitC 10 xs with
   | nil=>exact absurd e (splitC_ne 10 xs)
   | cons y ys =>
    rw[e] at ih
    simp only[List.any_cons,Bool.or_eq_false_iff] at ih ⊢
    refine ⟨?_,ih.2⟩
    have:=ih.1
    simp[oddLn] at this ⊢
    exact ⟨fun hh=>h hh.symm,this⟩
theorem split_size (s:S):sizeL (splitC 10 s)+(splitC 10 s).length=s.length+1:=by
 induction s with
 | nil=>simp[splitC,sizeL]
 | cons x xs ih =>
  unfold splitC
  by_cases h:x=10
  ·
   rw[if_pos h]
   simp only[sizeL,List.map_cons,List.sum_cons,List.length_cons,List.length_nil] at ih ⊢
   omega
  ·
   rw[if_neg h]
   cases e:splitC 10 xs with
   | nil=>exact absurd e (splitC_ne 10 xs)
   | cons y ys =>
    rw[e] at ih
    simp only[sizeL,List.map_cons,List.sum_cons,List.length_cons] at ih ⊢
    omega
theorem linE_split (s:S):linE (splitC 10 s)=txtE s:=by
 have h1:=split_size s
 have h2:=splitC_length 10 s
 unfold linE txtE
 by_cases a1:60<(splitC 10 s).length
 ·
  rw[if_pos a1,if_neg (by omega)]
 ·
  rw[if_neg a1]
  by_cases a2:2001<sizeL (splitC 10 s)+(splitC 10 s).length
  ·
   rw[if_pos a2,if_neg (by omega)]
  ·
   rw[if_neg a2,if_neg (by omega),split_odd,if_neg (by simp),if_pos (by omega)]
theorem joinI_ok {l:List S} {sep:S} (h1:l.length≤lim) (h2:(joinL l sep).length≤lim):joinI l sep=some (joinL l sep):=by
 unfold joinI;rw[if_pos ⟨h1,h2⟩]
theorem split_of_txt {s:S} (h:txtE s=0):s.length≤2000∧cnt8 10 s<60:=by
 unfold txtE at h
 by_cases hc:s.length≤2000∧cnt8 10 s<60
 ·
  exact hc
 ·
  rw[if_neg hc] at h;exact absurd h (by decide)
theorem lines_of_txt {s:S} (h:txtE s=0):(splitC 10 s).length≤60∧sizeL (splitC 10 s)≤2001:=by
 obtain ⟨h1,h2⟩:=split_of_txt h
 have h3:=split_size s
 have h4:=splitC_length 10 s
 omega
theorem f_lines_Join_split {n:Nat} {s:S} (h:txtE s=0) (hn:100<n) (hl:2000000≤lim):f_lines_Join n (splitC 10 s)=some (s,0):=by
 obtain ⟨h1,h2⟩:=lines_of_txt h
 obtain ⟨h3,_⟩:=split_of_txt h
 unfold f_lines_Join
 rw[f_lines_check_eq (by omega) (by omega) (by omega),bsome,linE_split,h,if_neg (by simp),joinI_ok (by omega) (by rw[join_split];omega),bsome,join_split]
theorem f_lines_Split_eq {n:Nat} {s:S} (h:txtE s=0) (hn:3000<n):f_lines_Split n s=some (splitC 10 s,0):=by
 obtain ⟨h3,_⟩:=split_of_txt h
 unfold f_lines_Split
 rw[f_lines_Check_eq,bsome,h,if_neg (by simp),f_strings_Split_eq (by omega) (by omega),bsome]
theorem lcs_check_split {n:Nat} {s t:S} (hs:txtE s=0) (ht:txtE t=0) (hn:100<n) (hl:2000000≤lim):f_lcs_check n (splitC 10 s) (splitC 10 t)=some 0:=by
 unfold f_lcs_check
 rw[f_lines_Join_split hs hn hl,bsome,if_neg (by simp),f_lines_Join_split ht hn hl,bsome]
theorem equal_L8 {p q:List S} (hpq:p.length=q.length) (hb:p.length<1000000):∀ (m k fuel:Nat),p.length-k=m→k≤p.length→m<fuel→f_slices_Equal_string_L8 p q fuel (k:Int)=some (decide (p.drop k=q.drop k)):=by
 intro m
 induction m with
 | zero =>
  intro k fuel hm hk hf
  obtain ⟨fuel,rfl⟩:∃ k,fuel=k+1:=⟨fuel-1,by omega⟩
  rw[f_slices_Equal_string_L8.eq_2,if_neg (by simp;omega),List.drop_of_length_le (by omega),List.drop_of_length_le (by omega)]
  simp
 | succ m ih =>
  intro k fuel hm hk hf
  obtain ⟨fuel,rfl⟩:∃ k,fuel=k+1:=⟨fuel-1,by omega⟩
  have h1:k<p.length:=by omega
  have h2:k<q.length:=by omega
  rw[f_slices_Equal_string_L8.eq_2,if_pos (by simp;omega),ix_nat h1,bsome,ix_nat h2,bsome,List.drop_eq_getElem_cons h1,List.drop_eq_getElem_cons h2]
  by_cases h:p[k]=q[k]
  ·
   rw[if_neg (by simp[h]),rng_succ (by omega),bsome]
   refine Eq.trans (ih (k+1) fuel (by omega) (by omega) (by omega)) ?_
   exact congrArg some (decide_eq_decide.2 (by rw[List.cons.injEq];exact ⟨fun x=>⟨h,x⟩,fun x=>x.2⟩))
  ·
   rw[if_pos (by simp[h])]
   exact congrArg some (decide_eq_false (by rw[List.cons.injEq];exact fun x=>h x.1)).symm
theorem f_slices_Equal_string_eq {n:Nat} {p q:List S} (hb:p.length<1000000) (hn:p.length<n):f_slices_Equal_string n p q=some (decide (p=q)):=by
 unfold f_slices_Equal_string
 by_cases h:p.length=q.length
 ·
  rw[if_neg (by simp[h])]
  have:=equal_L8 h hb p.length 0 n rfl (by omega) hn
  simpa using this
 ·
  rw[if_pos (by simp;omega)]
  have:p≠q:=fun e=>h (by rw[e])
  simp[this]
def badLn (s:S):Bool:=decide (2000<s.length)||oddLn s
theorem mem_size {l:List S} {x:S} (h:x∈l):x.length+l.length≤sizeL l+l.length:=by
 induction l with
 | nil=>cases h
 | cons y ys ih =>
  simp only[sizeL,List.map_cons,List.sum_cons] at ih ⊢
  rcases List.mem_cons.1 h with rfl | h
  ·
   omega
  ·
   have:=ih h;omega
theorem split_good {s x:S} (h:txtE s=0) (hx:x∈splitC 10 s):badLn x=false:=by
 have h1:=split_odd s
 rw[List.any_eq_false] at h1
 have h2:=mem_size hx
 have h3:=split_size s
 have h4:=(split_of_txt h).1
 have h5:0<(splitC 10 s).length:=List.length_pos_of_mem hx
 have h6:=h1 x hx
 unfold badLn
 simp only[Bool.or_eq_false_iff,decide_eq_false_iff_not]
 exact ⟨by omega,by simpa using h6⟩
theorem hlim:2000000≤lim:=by decide
theorem f_sidingref21_Same_iff {n:Nat} (a b:List GFile) (ha:a.length<1000000) (hn:a.length<n):∃ r,f_sidingref21_Same n a b=some r∧(r=true↔a=b):=by
 unfold f_sidingref21_Same
 by_cases hl:a.length=b.length
 case neg=>exact ⟨false,by rw[if_pos (by simp;omega)],by simp;intro e;exact hl (by rw[e])⟩
 rw[if_neg (by simp;omega)]
 have key:∀ (m k fuel:Nat),a.length-k=m→k≤a.length→m<fuel→∃ r,f_sidingref21_Same_L8 a b fuel (k:Int)=some r∧(r=true↔a.drop k=b.drop k):=by
  intro m
  induction m with
  | zero =>
   intro k fuel hm hk hf
   obtain ⟨fuel,rfl⟩:∃ k,fuel=k+1:=⟨fuel-1,by omega⟩
   exact ⟨true,by rw[f_sidingref21_Same_L8.eq_2,if_neg (by simp;omega)],by simp[List.drop_of_length_le (show a.length≤k by omega),List.drop_of_length_le (show b.length≤k by omega)]⟩
  | succ m ih =>
   intro k fuel hm hk hf
   obtain ⟨fuel,rfl⟩:∃ k,fuel=k+1:=⟨fuel-1,by omega⟩
   have h1:k<a.length:=by omega
   have h2:k<b.length:=by omega
   rw[f_sidingref21_Same_L8.eq_2,if_pos (by simp;omega),ix_nat h1,bsome,ix_nat h2,bsome,List.drop_eq_getElem_cons h1,List.drop_eq_getElem_cons h2]
   by_cases e1:a[k].path_=b[k].path_
   ·
    rw[if_neg (by simp[e1])]
    by_cases e2:a[k].text_=b[k].text_
    ·
     rw[if_neg (by simp[e2]),rng_succ (by omega),bsome]
     obtain ⟨r,h3,h4⟩:=ih (k+1) fuel (by omega) (by omega) (by omega)
     refine ⟨r,h3,h4.trans ?_⟩
     have:a[k]=b[k]:=by
      cases ea:a[k];cases eb:b[k]
      rw[ea,eb] at e1 e2
      simp_all
     rw[this,List.cons.injEq];exact ⟨fun h=>⟨rfl,h⟩,fun h=>h.2⟩
    ·
     exact ⟨false,by rw[if_pos (by simp[e2])],by
      simp only[Bool.false_eq_true,false_iff,List.cons.injEq,not_and]
      intro h;exact absurd (by rw[h]) e2⟩
   ·
    exact ⟨false,by rw[if_pos (by simp[e1])],by
     simp only[Bool.false_eq_true,false_iff,List.cons.injEq,not_and]
     intro h;exact absurd (by rw[h]) e1⟩
 have:=key a.length 0 n rfl (by omega) hn
 simpa using this
end Go.Zv.G
