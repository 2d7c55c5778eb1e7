/- siding/sidinglaw22.TreemergeNames: by the kernel. No condition. -/
import Derived.Test.YtedbfdlgiilapaaGreatDoorPrimsK
import Derived.KernelRfl
import Derived.Test.YtedbfdlgiilapaaGreatDoorRunK4
import Derived.Test.YtedbfdlgiilapaaGreatDoorRunK5
import Derived.Test.YtedbfdlgiilapaaGreatDoorRunK1
set_option linter.unusedSimpArgs false
set_option linter.unusedVariables false
namespace Go.Proofs.YtedbfdlgiilapaaGreatDoor.G
open Go Go.Zv Go.Zv.G Go.Proofs Go.Proofs.YtedbfdlgiilapaaGreatDoor
set_option maxRecDepth 1000000
set_option maxHeartbeats 0
set_option linter.unusedVariables false
def dB:List V→Option UInt8
  | [.int .u8 a]=>match a with
    | .ofNat k=>cond (Nat.blt k 256) (some (UInt8.ofNat k)) none
    | .negSucc _=>none
  | _=>none
theorem dB_ok:∀ {x:List V} {a:UInt8},dB x=some a→x=encB a:=by
  intro x a h
  unfold dB at h
  split at h
  · split at h
    · rename_i k
      cases e:Nat.blt k 256 with
      | false=>rw[e] at h;cases h
      | true =>
        rw[e] at h
        simp only[cond_true,Option.some.injEq] at h
        subst h
        have:k<256:=by simp[Nat.blt] at e;omega
        simp only[encB,List.cons.injEq,V.int.injEq,true_and,and_true]
        have e2:(UInt8.ofNat k).toNat=k:=by simp[UInt8.toNat_ofNat'];omega
        rw[e2];rfl
    · cases h
  · cases h
def dL {α β:Type} (f:β→Option α):List β→Option (List α)
  | []=>some []
  | x::xs=>(f x).bind fun a=>(dL f xs).bind fun bs=>some (a::bs)
theorem dL_ok {α β:Type} {f:β→Option α} {g:α→β} (hf:∀ {x:β} {a:α},f x=some a→x=g a):∀ {l:List β} {bs:List α},dL f l=some bs→l=bs.map g
  | [],_,h=>by cases h;rfl
  | x::xs,_,h=>by
    simp only[dL] at h
    obtain ⟨a,e1,h⟩:=Option.bind_eq_some_iff.1 h
    obtain ⟨bs,e2,h⟩:=Option.bind_eq_some_iff.1 h
    cases h
    rw[hf e1,dL_ok hf e2];rfl
def dGFile:List V→Option GFile
  | [.str a0,.sl 1 false a1]=>(dL dB a1).bind fun b1=>some ⟨a0,b1⟩
  | _=>none
theorem dGFile_ok:∀ {x:List V} {a:GFile},dGFile x=some a→x=eGF a:=by
  intro x a h
  unfold dGFile at h
  split at h
  · obtain ⟨b1,e1,h⟩:=Option.bind_eq_some_iff.1 h
    cases h
    rw[dL_ok (@dB_ok) e1]
    rfl
  · cases h
def ask25 (n:Nat) (args:List V):Option (V×List V) :=
  match args with
  | []=>(f_sidinglaw22_alive n).bind fun rs=>some (.bool rs,[])
  | _=>none
theorem ask25_ok (n:Nat) {args outs:List V} {res:V} (h:ask25 n args=some (res,outs)):Does Tryz.prog tab.glob.get 25 args res outs:=by
  unfold ask25 at h
  split at h
  · obtain ⟨rs,hF,h⟩:=Option.bind_eq_some_iff.1 h
    simp only[Option.some.injEq,Prod.mk.injEq] at h
    obtain ⟨rfl,rfl⟩:=h
    exact callD_sound tab_ok prims_ok (by kernel_rfl) _ 25 _ _ _ (f_sidinglaw22_alive_ok n 0  rs hF)
  · cases h
def ask27 (n:Nat) (args:List V):Option (V×List V) :=
  match args with
  | [.sl 2 f1 r_p1,.own false 2 r_p2,.sl 2 f2 r_p3]=>(dL dGFile r_p1).bind fun p1=>(dL dGFile r_p2).bind fun p2=>(dL dGFile r_p3).bind fun p3=>(f_treemerge_Merge n p1 p2 p3).bind fun rs=>some (.tup [.own false 2 (rs.1.map eGF),.own false 2 (rs.2.1.map encGTrouble),.int .i64 rs.2.2.1],[.ud,.own false 2 (rs.2.2.2.map eGF),.ud])
  | [.sl 2 f1 r_p1,.sl 2 f2 r_p2,.sl 2 f3 r_p3]=>(dL dGFile r_p1).bind fun p1=>(dL dGFile r_p2).bind fun p2=>(dL dGFile r_p3).bind fun p3=>(f_treemerge_Merge_b n p1 p2 p3).bind fun rs=>some (.tup [.own false 2 (rs.1.map eGF),.own false 2 (rs.2.1.map encGTrouble),.int .i64 rs.2.2],[.ud,.sl 2 f2 (p2.map eGF),.ud])
  | _=>none
theorem ask27_ok (n:Nat) {args outs:List V} {res:V} (h:ask27 n args=some (res,outs)):Does Tryz.prog tab.glob.get 27 args res outs:=by
  unfold ask27 at h
  split at h
  · obtain ⟨p1,e_p1,h⟩:=Option.bind_eq_some_iff.1 h
    obtain ⟨p2,e_p2,h⟩:=Option.bind_eq_some_iff.1 h
    obtain ⟨p3,e_p3,h⟩:=Option.bind_eq_some_iff.1 h
    obtain ⟨rs,hF,h⟩:=Option.bind_eq_some_iff.1 h
    simp only[Option.some.injEq,Prod.mk.injEq] at h
    obtain ⟨rfl,rfl⟩:=h
    obtain rfl:=dL_ok (@dGFile_ok) e_p1
    obtain rfl:=dL_ok (@dGFile_ok) e_p2
    obtain rfl:=dL_ok (@dGFile_ok) e_p3
    exact callD_sound tab_ok prims_ok (by kernel_rfl) _ 27 _ _ _ (f_treemerge_Merge_ok n 0 p1 p2 p3 rs hF)
  · obtain ⟨p1,e_p1,h⟩:=Option.bind_eq_some_iff.1 h
    obtain ⟨p2,e_p2,h⟩:=Option.bind_eq_some_iff.1 h
    obtain ⟨p3,e_p3,h⟩:=Option.bind_eq_some_iff.1 h
    obtain ⟨rs,hF,h⟩:=Option.bind_eq_some_iff.1 h
    simp only[Option.some.injEq,Prod.mk.injEq] at h
    obtain ⟨rfl,rfl⟩:=h
    obtain rfl:=dL_ok (@dGFile_ok) e_p1
    obtain rfl:=dL_ok (@dGFile_ok) e_p2
    obtain rfl:=dL_ok (@dGFile_ok) e_p3
    exact callD_sound tab_ok prims_ok (by kernel_rfl) _ 27 _ _ _ (f_treemerge_Merge_b_ok n 0 p1 p2 p3 rs hF)
  · cases h
def ask31 (n:Nat) (args:List V):Option (V×List V) :=
  match args with
  | [.sl 2 f1 r_p1,.sl 2 f2 r_p2]=>(dL dGFile r_p1).bind fun p1=>(dL dGFile r_p2).bind fun p2=>(f_sidingref21_Same n p1 p2).bind fun rs=>some (.bool rs,[.ud,.ud])
  | _=>none
theorem ask31_ok (n:Nat) {args outs:List V} {res:V} (h:ask31 n args=some (res,outs)):Does Tryz.prog tab.glob.get 31 args res outs:=by
  unfold ask31 at h
  split at h
  · obtain ⟨p1,e_p1,h⟩:=Option.bind_eq_some_iff.1 h
    obtain ⟨p2,e_p2,h⟩:=Option.bind_eq_some_iff.1 h
    obtain ⟨rs,hF,h⟩:=Option.bind_eq_some_iff.1 h
    simp only[Option.some.injEq,Prod.mk.injEq] at h
    obtain ⟨rfl,rfl⟩:=h
    obtain rfl:=dL_ok (@dGFile_ok) e_p1
    obtain rfl:=dL_ok (@dGFile_ok) e_p2
    exact callD_sound tab_ok prims_ok (by kernel_rfl) _ 31 _ _ _ (f_sidingref21_Same_ok n 0 p1 p2 rs hF)
  · cases h
def ask34 (n:Nat) (args:List V):Option (V×List V) :=
  match args with
  | [.str p1,.str p2]=>(f_sidinglaw22_file n p1 p2).bind fun rs=>some (.agg [.str rs.1,.sl 1 false (rs.2.map encB)],[.ud,.ud])
  | _=>none
theorem ask34_ok (n:Nat) {args outs:List V} {res:V} (h:ask34 n args=some (res,outs)):Does Tryz.prog tab.glob.get 34 args res outs:=by
  unfold ask34 at h
  split at h
  · obtain ⟨rs,hF,h⟩:=Option.bind_eq_some_iff.1 h
    simp only[Option.some.injEq,Prod.mk.injEq] at h
    obtain ⟨rfl,rfl⟩:=h
    exact callD_sound tab_ok prims_ok (by kernel_rfl) _ 34 _ _ _ (f_sidinglaw22_file_ok n 0 _ _ rs hF)
  · cases h
def ask35 (n:Nat) (args:List V):Option (V×List V) :=
  match args with
  | [.sl 2 f1 r_p1,.sl 2 f2 r_p2,.sl 2 f3 r_p3]=>(dL dGFile r_p1).bind fun p1=>(dL dGFile r_p2).bind fun p2=>(dL dGFile r_p3).bind fun p3=>(f_treemerge_Paths n p1 p2 p3).bind fun rs=>some (.tup [.own false 1 (rs.1.map Zv.encS),.int .i64 rs.2],[.ud,.ud,.ud])
  | _=>none
theorem ask35_ok (n:Nat) {args outs:List V} {res:V} (h:ask35 n args=some (res,outs)):Does Tryz.prog tab.glob.get 35 args res outs:=by
  unfold ask35 at h
  split at h
  · obtain ⟨p1,e_p1,h⟩:=Option.bind_eq_some_iff.1 h
    obtain ⟨p2,e_p2,h⟩:=Option.bind_eq_some_iff.1 h
    obtain ⟨p3,e_p3,h⟩:=Option.bind_eq_some_iff.1 h
    obtain ⟨rs,hF,h⟩:=Option.bind_eq_some_iff.1 h
    simp only[Option.some.injEq,Prod.mk.injEq] at h
    obtain ⟨rfl,rfl⟩:=h
    obtain rfl:=dL_ok (@dGFile_ok) e_p1
    obtain rfl:=dL_ok (@dGFile_ok) e_p2
    obtain rfl:=dL_ok (@dGFile_ok) e_p3
    exact callD_sound tab_ok prims_ok (by kernel_rfl) _ 35 _ _ _ (f_treemerge_Paths_ok n 0 p1 p2 p3 rs hF)
  · cases h
noncomputable def prims2 (n f:Nat) (args:List V):Option (V×List V) :=
  cond (Nat.beq f 35) (ask35 n args) (cond (Nat.beq f 34) (ask34 n args) (cond (Nat.beq f 31) (ask31 n args) (cond (Nat.beq f 27) (ask27 n args) (cond (Nat.beq f 25) (ask25 n args) (prims f args)))))
theorem prims2_ok (n:Nat):PrimsOK Tryz.prog tab (prims2 n):=by
  intro f args res outs h
  unfold prims2 at h
  cases e35:Nat.beq f 35 with
  | true=>rw[e35,cond_true] at h;obtain rfl:=Nat.eq_of_beq_eq_true e35;exact ask35_ok n h
  | false =>
  rw[e35,cond_false] at h
  cases e34:Nat.beq f 34 with
  | true=>rw[e34,cond_true] at h;obtain rfl:=Nat.eq_of_beq_eq_true e34;exact ask34_ok n h
  | false =>
  rw[e34,cond_false] at h
  cases e31:Nat.beq f 31 with
  | true=>rw[e31,cond_true] at h;obtain rfl:=Nat.eq_of_beq_eq_true e31;exact ask31_ok n h
  | false =>
  rw[e31,cond_false] at h
  cases e27:Nat.beq f 27 with
  | true=>rw[e27,cond_true] at h;obtain rfl:=Nat.eq_of_beq_eq_true e27;exact ask27_ok n h
  | false =>
  rw[e27,cond_false] at h
  cases e25:Nat.beq f 25 with
  | true=>rw[e25,cond_true] at h;obtain rfl:=Nat.eq_of_beq_eq_true e25;exact ask25_ok n h
  | false =>
  rw[e25,cond_false] at h
  exact prims_ok f args res outs h
theorem closed:callD tab (prims2 60000) 60000 40 6 []=some (.bool true,[]):=by kernel_rfl
#print axioms closed
end Go.Proofs.YtedbfdlgiilapaaGreatDoor.G
