/- Zv: a pure interpreter of the translated code over values, and that it is right. No condition. -/
import Derived.Test.YtedbfdlgiilapaaGreatDoorZvL6
import Derived.Shelf.Strings.FuncGrows
set_option linter.unusedSimpArgs false
set_option linter.unusedVariables false
namespace Go.Zv
open Go Go.RowKit Go.Proofs
theorem decode_high (s:ByteArray) (i:Nat) (h:128≤(s.get! i).toNat):128≤(Utf8.decode s i).1:=by
 unfold Utf8.decode
 simp only[Nat.add_zero]
 rw[if_neg (by omega)]
 repeat' first
  | (show 128≤Utf8.runeError;decide)
  | (split;skip)
  | omega
  | (simp only[Bool.and_eq_true,decide_eq_true_eq] at *;omega)
theorem decode_low (s:ByteArray) (i:Nat) (h:(s.get! i).toNat<128):Utf8.decode s i=((s.get! i).toNat,1):=by
 unfold Utf8.decode
 simp only[Nat.add_zero]
 rw[if_pos (by omega)]
theorem idx_any (p:Nat→Bool) (hp:∀ x,128≤x→p x=true) (s:ByteArray):∀ (f pos:Nat),s.size≤pos+f→decide (0≤Lib.idxFuncFrom p true s f pos)=(s.data.toList.drop pos).any fun b=>p b.toNat
 | 0,pos,h=>by
  rw[List.drop_of_length_le (by have:s.data.toList.length=s.size:=rfl;omega)]
  rfl
 | f+1,pos,h=>by
  unfold Lib.idxFuncFrom
  by_cases hps:pos<s.size
  ·
   have hl:pos<s.data.toList.length:=hps
   have hg:s.get! pos=s.data.toList[pos]:=by
    show s.data.get!Internal pos=_
    simp only[Array.get!Internal_eq_getElem!]
    rw[getElem!_pos s.data pos hps]
    simp
   rw[if_pos hps,List.drop_eq_getElem_cons hl,List.any_cons,←hg]
   by_cases hb:(s.get! pos).toNat<128
   ·
    rw[decode_low s pos hb]
    cases hpb:p (s.get! pos).toNat with
    | true=>simp
    | false =>
     simp only[Bool.false_eq_true,if_false,Bool.false_or]
     exact idx_any p hp s f (pos+1) (by omega)
   ·
    have h1:=decode_high s pos (by omega)
    rw[hp _ h1,hp _ (by omega)]
    simp
  ·
   rw[if_neg hps,List.drop_of_length_le (by have:s.data.toList.length=s.size:=rfl;omega)]
   rfl
section
variable {P:Program} {G:Nat→Option (List V)}
def primContains (g:Nat) (p:Nat→Bool):List V→Option (V×List V)
 | [.str s,.fn f []]=>cond (Nat.beq f g) (some (.bool (s.any fun b=>p b.toNat),[.ud,.ud])) none
 | _=>none
theorem contains_ok {f g:Nat} {p:Nat→Bool} {args outs:List V} {res:V} (he:∀ (vs:Array Value) (w:World),(callFunc f vs).run P w=.ok (.enter f vs) w)
  (heg:∀ (vs:Array Value) (w:World),(callFunc g vs).run P w=.ok (.enter g vs) w) (hp:∀ x,128≤x→p x=true)
  (hg:∀ (c:Nat) (w:World),Calls P g #[.int .i32 (c:Int)] w fun e w'=>e=.returned (.bool (p c))∧w'=w)
  (hc:∀ (lb:Array Value) (s:ByteArray) (w:World),PredGrows P g lb p w→Calls P f #[.string s,.func (.func g) #[] lb] w fun e w'=>e=.returned (.bool (decide (0≤Lib.idxFunc p true s)))∧Below w.heap.size w w')
  (h:primContains g p args=some (res,outs)):Does P G f args res outs:=by
 unfold primContains at h
 split at h
 ·
  rename_i s f'
  cases e:Nat.beq f' g with
  | false=>rw[e] at h;cases h
  | true =>
   rw[e] at h
   have:=Nat.eq_of_beq_eq_true e
   subst this
   simp only[cond_true,Option.some.injEq,Prod.mk.injEq] at h
   obtain ⟨rfl,rfl⟩:=h
   refine does_calls he fun S w vs O hG=>?_
   obtain ⟨u,v,O1,O2,rfl,r1,r2⟩:=two hG.rep
   cases r1 with
   | str s =>
   cases r2 with
   | fn hcaps =>
   rename_i caps
   have hcs:caps=#[]:=by
    obtain ⟨l⟩:=caps
    cases hcaps;rfl
   subst hcs
   refine (hc #[] s w fun W x _ hb=>(hg x W).mono fun e w' ⟨h1,h2⟩=>?_).mono fun e w' ⟨h1,h2⟩=>⟨_,[],h1,h2,?_,by simp,by simp⟩
   ·
    subst h2;exact ⟨h1,Below.refl _ _⟩
   ·
    unfold Lib.idxFunc
    rw[idx_any p hp s s.size 0 (by omega),List.drop_zero]
    exact .bool _
 ·
  cases h
end
end Go.Zv
