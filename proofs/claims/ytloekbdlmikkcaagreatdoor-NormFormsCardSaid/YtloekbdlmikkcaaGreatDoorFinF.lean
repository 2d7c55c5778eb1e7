/- siding/sidinglaw17.NormForms: whatever the arguments, the call gives true, and the arguments read as before. No condition. -/
import Derived.Test.YtloekbdlmikkcaaGreatDoorLawF3
import Derived.Test.YtloekbdlmikkcaaGreatDoorRunF4
import Derived.Test.YtloekbdlmikkcaaGreatDoorZvF7
import Derived.Test.YtloekbdlmikkcaaGreatDoorCards
import Derived.Test.YtloekbdlmikkcaaGreatDoorTie
import Derived.ProofKit
import Derived.OpenShut
import Derived.Lay
import Derived.Carry
import Derived.Deep.DeepHandedRow
set_option linter.unusedSimpArgs false
set_option linter.unusedVariables false
namespace Go.Proofs.YtloekbdlmikkcaaGreatDoor
open Go Go.Zv Go.RowKit Go.Proofs Go.ChangeShapes Go.WideShapes Go.ChangeAt
set_option maxRecDepth 100000
theorem own:ownKnob Tryz.prog.godebug=none:=by kernel_rfl
theorem mixed:Tryz.prog.follows .mixedOrders=true:=by kernel_rfl
theorem laidOut:laidOutB Tryz.prog=true:=by kernel_rfl
theorem normForms_does (x0:List (G.GPatch)) (x1:List (G.GPatch)):Does Tryz.prog G.tab.glob.get 4 [V.sl 4 false (x0.map G.eGP),V.sl 4 false (x1.map G.eGP)] (.bool true) [.ud,.ud] :=
 qou G.tab_ok prims_ok mixed _ 4 _ _ _ (G.qmq 60000 0  x0 x1 true (G.qrg (by decide)  x0 x1))
section
variable {H:Type} {enc:TypeId×Value→H} {w:World} {spare:Nat→Bool} {held:Bool}
theorem opens9:Opens enc Tryz.prog w spare held 9 fun s:List UInt8=>[V.str s]:=opens_str Tryz.underlying9
theorem opens4:Opens enc Tryz.prog w spare held 4 fun b:Bool=>[V.bool b]:=opens_bool Tryz.underlying4
theorem opens3:Opens enc Tryz.prog w spare held 3 Zv.encI:=opens_int Tryz.underlying3
theorem opens55:Opens enc Tryz.prog w spare held 55 fun l:List (List UInt8)=>[V.sl 1 false (l.map encS)] :=
 qow (e:=9) Tryz.underlying55 (by kernel_rfl) (by decide) (fun _=>rfl) opens9
theorem opens59:Opens enc Tryz.prog w spare held 59 G.eGH :=
 opens_struct3 (e0:=Zv.encI) (e1:=(fun l:List (List UInt8)=>[V.sl 1 false (l.map encS)])) (e2:=(fun l:List (List UInt8)=>[V.sl 1 false (l.map encS)])) (fun a b c=>⟨a,b,c⟩) G.eGH (fun _ _ _=>rfl) Tryz.underlying59 (by kernel_rfl) (by kernel_rfl) (by kernel_rfl) (by kernel_rfl) opens3 opens55 opens55
theorem opens37:Opens enc Tryz.prog w spare held 37 fun l:List (G.GHunk)=>[V.sl 3 false (l.map G.eGH)] :=
 qow (e:=59) Tryz.underlying37 (by kernel_rfl) (by decide) (fun _=>rfl) opens59
theorem opens39:Opens enc Tryz.prog w spare held 39 G.eGP :=
 opens_struct4 (e0:=(fun s:List UInt8=>[V.str s])) (e1:=(fun b:Bool=>[V.bool b])) (e2:=(fun b:Bool=>[V.bool b])) (e3:=(fun l:List (G.GHunk)=>[V.sl 3 false (l.map G.eGH)])) (fun a b c d=>⟨a,b,c,d⟩) G.eGP (fun _ _ _ _=>rfl) Tryz.underlying39 (by kernel_rfl) (by kernel_rfl) (by kernel_rfl) (by kernel_rfl) (by kernel_rfl) opens9 opens4 opens4 opens37
theorem opens25:Opens enc Tryz.prog w spare held 25 fun l:List (G.GPatch)=>[V.sl 4 false (l.map G.eGP)] :=
 qow (e:=39) Tryz.underlying25 (by kernel_rfl) (by decide) (fun _=>rfl) opens39
end
theorem contract (H:Type) (enc:TypeId×Value→H) (W:World) (base:Nat) (args:Array Value) (ds gs:List (DataW H)) (before:List MemPlace)
  (hval:∀ (j:Nat) t v,Tryz.f4.params[j]?=some t→args[j]?=some v→Value.okWide Tryz.prog W .any base t v)
  (hW:DataW.Whole enc Tryz.prog Tryz.f4.params.toList Rows.normFormsSpec.vars false W args.toList ds gs before) (hL:laidMet Tryz.prog Rows.normFormsRow.laid W) :
  Calls Tryz.prog 4 args W fun e W'=>∃ v,e=.returned v∧Rows.normFormsSpec.post enc Tryz.prog Tryz.f4 false true false false W args v W':=by
 have hW':=hW
 obtain ⟨p,q,hA0,hV,rfl,hfz,hnd⟩:=hW
 have hA:DataW.TrodAll enc Tryz.prog W 0 (fun _=>true) true [25,25] args.toList ds p:=hA0
 obtain ⟨v0,v1,d0,d1,p0,p1,rfl,rfl,rfl,h0,h1⟩:=trodAll_two hA
 obtain ⟨rfl,rfl⟩:=trodVars_none hV
 obtain ⟨a0,l0,c0,rfl⟩:=okWide_slice Tryz.underlying25 (hval 0 25 v0 rfl rfl)
 obtain ⟨n0,k0⟩:=id h0
 obtain ⟨x0,r0,_⟩:=opens25 n0 _ _ k0
 obtain ⟨a1,l1,c1,rfl⟩:=okWide_slice Tryz.underlying25 (hval 1 25 v1 rfl rfl)
 obtain ⟨n1,k1⟩:=id h1
 obtain ⟨x1,r1,_⟩:=opens25 n1 _ _ k1
 have hr:Reps (allS W) W [Value.slice a0 l0 c0,Value.slice a1 l1 c1] [V.sl 4 false (x0.map G.eGP),V.sl 4 false (x1.map G.eGP)] []:=by
  exact qis (us:=[Value.slice a0 l0 c0]) r0 (r1)
 have hlt:∀ y∈p0++p1++[],y.block<W.heap.size:=fun y hy=>hW'.lt y hy
 have g0 := glob_ints (n := "siding/sha.first") (k := .u32) (m := 8) (t := 105) (e := 104) (g := 0) 5 Go.Zv.G.glob0 hL (by kernel_rfl) (by kernel_rfl) (by kernel_rfl) Tryz.underlying105 Tryz.underlying104 (by kernel_rfl) (by kernel_rfl)
 have g2 := glob_ints (n := "siding/sha.constants") (k := .u32) (m := 64) (t := 182) (e := 104) (g := 2) 4 Go.Zv.G.glob2 hL (by kernel_rfl) (by kernel_rfl) (by kernel_rfl) Tryz.underlying182 Tryz.underlying104 (by kernel_rfl) (by kernel_rfl)
 have hG:G.globT.All fun g cs=>GlobAt (allS W) W g cs:=by
  unfold G.globT
  simp only[Tr.All,and_true,true_and,and_assoc]
  exact ⟨g0,g2⟩
 refine (open_callsG (G:=G.tab.glob.get) (fun _ _ h=>hG.get h) Tryz.call4 (normForms_does (x0) (x1)) hr).mono fun e W' ⟨he,hb⟩=>?_
 subst he
 refine ⟨_,rfl,[d0,d1],[],p0++p1++[],[],(p0++p1),[],hW',?_,?_,rfl,hb.frame _,fun h=>by cases h⟩
 ·
  exact trodAll_cons_mk (shut_bool Tryz.underlying4 _) trodAll_mk0
 ·
  exact trodAll_mk2 (Below.trod laidOut (by kernel_rfl) (of_decide_eq_true (by kernel_rfl)) h0 hb fun y hy=>hlt y (by simp[hy])) (Below.trod laidOut (by kernel_rfl) (of_decide_eq_true (by kernel_rfl)) h1 hb fun y hy=>hlt y (by simp[hy]))
def wargs:Array Value:=#[.slice none 0 0,.slice none 0 0]
theorem laid_met (os:Os):laidMet Tryz.prog Rows.normFormsRow.laid ((World.laidAll Tryz.prog os Rows.normFormsRow.laid).forCall (fun _ _=>0) ⟨#[],wargs,[]⟩).memory :=
 laidMet_laidAll _ (by kernel_rfl) (by kernel_rfl)
theorem reads (os:Os) {H:Type} (enc:TypeId×Value→H):∃ places,DataW.whole enc Tryz.prog ((World.laidAll Tryz.prog os Rows.normFormsRow.laid).forCall (fun _ _=>0) ⟨#[],wargs,[]⟩).memory Tryz.f4.params.toList Rows.normFormsSpec.vars false wargs.toList 8=some ([.nil,.nil],[],places) :=
 ⟨[],by kernel_rfl⟩
set_option maxRecDepth 100000 in
theorem lifted (os:Os) (started:os.Started) (H:Type) (enc:TypeId×Value→H) (F:Stop.Interp) :
  ReturnsInHanded {} Tryz.checked os 4 .any ((OpenSpec.ofChange Rows.normFormsSpec).preRow enc Tryz.prog Tryz.f4 Rows.normFormsRow.domain false Rows.normFormsRow.laid) (((OpenSpec.ofChange Rows.normFormsSpec).at F).post enc Tryz.prog Tryz.f4 false true false false):=by
 obtain ⟨places,hx⟩:=reads os enc
 refine returnsInHanded_of_row (C:=Tryz.checked) (s:=OpenSpec.ofChange Rows.normFormsSpec) own started (by kernel_rfl) Tryz.func4
  (witness_row_at (enc:=enc) (C:=Tryz.checked) false (World.laidAll Tryz.prog os Rows.normFormsRow.laid) wargs (World.laidAll_os _ _ _) (by kernel_rfl) (by kernel_rfl) (by kernel_rfl)
   (OpenSpec.preRow_of_cond 8 hx (by kernel_rfl) (fun k hk=>by cases hk) (by kernel_rfl) (laid_met os))) ?_
 intro W base args ds gs before hval hW _ _ _ hL _ _
 exact contract H enc W base args ds gs before hval hW hL
theorem said:Rows.NormFormsSaid :=
 OpenClaim.holds_of_cond 4 Tryz.f4 rfl rfl rfl rfl rfl rfl rfl ⟨rfl,rfl,rfl,rfl,rfl⟩ rfl rfl rfl rfl rfl (by kernel_rfl) Tryz.func4 (by kernel_rfl)
  (of_decide_eq_true (by kernel_rfl)) (by unfold Func.isWrapper;first | (rw[if_pos (by decide +kernel)];kernel_rfl) | (rw[if_neg (by decide +kernel)];exact ⟨rfl,rfl⟩))
  (fun os started H enc _ F=>by rw[OpenClaim.pre_eq_preRow];exact lifted os started H enc F)
theorem plain (f : FuncId) (fn : Func) (hf : Tryz.pinned.checked.prog.funcNamed "siding/sidinglaw17.NormForms" = some f) (hfn : Tryz.pinned.checked.prog.funcs[f]? = some fn) :
  false=Tryz.pinned.checked.prog.looks []∧∀ (j:Nat) t,fn.params[j]?=some t→Tryz.pinned.checked.prog.wantsStandIn t=false:=by
 obtain rfl : f = 4 := Option.some.inj ((show Tryz.prog.funcNamed "siding/sidinglaw17.NormForms" = some 4 by kernel_rfl).symm.trans hf) |>.symm
 obtain rfl:fn=Tryz.f4:=(Option.some.inj (Tryz.func4.symm.trans hfn)).symm
 refine ⟨by kernel_rfl,fun j t ht=>?_⟩
 have hp:Tryz.f4.params=#[25,25]:=by kernel_rfl
 have key:∀ t∈[25,25],Tryz.pinned.checked.prog.wantsStandIn t=false:=by
  intro t ht
  simp only[List.mem_cons,List.not_mem_nil,or_false] at ht
  rcases ht with rfl | rfl <;> kernel_rfl
 rw[hp] at ht
 refine key t ?_
 have:=List.mem_of_getElem? (l:=[25,25]) (i:=j) (a:=t) (by simpa using ht)
 exact this
theorem normForms_card:Rows.NormFormsCardSaid :=
 Claim7.holds_tied_plain_at .later [] _ _ _ _ said (fun _ h=>by cases h) (by kernel_rfl) (fun _ h=>by cases h) normForms_row_tie rfl ⟨rfl,rfl⟩ (by kernel_rfl) rfl plain (by kernel_rfl)
#print axioms normForms_card
end Go.Proofs.YtloekbdlmikkcaaGreatDoor
