/- siding/sidinglaw22.TreemergeTexts: whatever the arguments, the call gives true, and the arguments read as before. No condition. -/
import Derived.Test.YtedbfdlgiilapaaGreatDoorLawX3
import Derived.Test.YtedbfdlgiilapaaGreatDoorAliveX
import Derived.Test.YtedbfdlgiilapaaGreatDoorRunX5
import Derived.Test.YtedbfdlgiilapaaGreatDoorZvX8
import Derived.Test.YtedbfdlgiilapaaGreatDoorCards
import Derived.Test.YtedbfdlgiilapaaGreatDoorTie
import Derived.ProofKit
import Derived.OpenShut
import Derived.Lay
import Derived.Carry
import Derived.Deep.DeepHandedRow
set_option linter.unusedSimpArgs false
set_option linter.unusedVariables false
namespace Go.Proofs.YtedbfdlgiilapaaGreatDoor
open Go Go.Zv Go.RowKit Go.Proofs Go.ChangeShapes Go.WideShapes Go.ChangeAt
set_option maxRecDepth 100000
theorem own:ownKnob Tryz.prog.godebug=none:=by kernel_rfl
theorem mixed:Tryz.prog.follows .mixedOrders=true:=by kernel_rfl
theorem laidOut:laidOutB Tryz.prog=true:=by kernel_rfl
theorem treemergeTexts_does (x0:List UInt8) (x1:List UInt8) (x2:List UInt8) (x3:List UInt8):Does Tryz.prog G.tab.glob.get 5 [V.str x0,V.sl 1 false (x1.map encB),V.sl 1 false (x2.map encB),V.sl 1 false (x3.map encB)] (.bool true) [.ud,.ud,.ud,.ud] :=
 callD_sound G.tab_ok prims_ok mixed _ 5 _ _ _ (G.f_sidinglaw22_TreemergeTexts_ok 60000 0  x0 x1 x2 x3 true (G.law_TreemergeTexts (by decide) G.A_f_sidinglaw22_alive x0 x1 x2 x3))
section
variable {H:Type} {enc:TypeId×Value→H} {w:World} {spare:Nat→Bool} {held:Bool}
theorem opens23:Opens enc Tryz.prog w spare held 23 fun l:List UInt8=>[V.sl 1 false (l.map encB)] :=
 opens_slice (e:=5) Tryz.underlying23 (by kernel_rfl) (by decide) (fun _=>rfl) (opens_u8 Tryz.underlying5)
end
theorem contract (H:Type) (enc:TypeId×Value→H) (W:World) (base:Nat) (args:Array Value) (ds gs:List (DataW H)) (before:List MemPlace)
  (hval:∀ (j:Nat) t v,Tryz.f5.params[j]?=some t→args[j]?=some v→Value.okWide Tryz.prog W .any base t v)
  (hW:DataW.Whole enc Tryz.prog Tryz.f5.params.toList Rows.treemergeTextsSpec.vars false W args.toList ds gs before) (hL:laidMet Tryz.prog Rows.treemergeTextsRow.laid W) :
  Calls Tryz.prog 5 args W fun e W'=>∃ v,e=.returned v∧Rows.treemergeTextsSpec.post enc Tryz.prog Tryz.f5 false true false false W args v W':=by
 have hW':=hW
 obtain ⟨p,q,hA0,hV,rfl,hfz,hnd⟩:=hW
 have hA:DataW.TrodAll enc Tryz.prog W 0 (fun _=>true) true [9,23,23,23] args.toList ds p:=hA0
 obtain ⟨v0,v1,v2,v3,d0,d1,d2,d3,p0,p1,p2,p3,rfl,rfl,rfl,h0,h1,h2,h3⟩:=trodAll_four hA
 obtain ⟨rfl,rfl⟩:=trodVars_none hV
 obtain ⟨s0,rfl⟩:=okWide_string Tryz.underlying9 (hval 0 9 v0 rfl rfl)
 obtain ⟨a1,l1,c1,rfl⟩:=okWide_slice Tryz.underlying23 (hval 1 23 v1 rfl rfl)
 obtain ⟨n1,k1⟩:=id h1
 obtain ⟨x1,r1,_⟩:=opens23 n1 _ _ k1
 obtain ⟨a2,l2,c2,rfl⟩:=okWide_slice Tryz.underlying23 (hval 2 23 v2 rfl rfl)
 obtain ⟨n2,k2⟩:=id h2
 obtain ⟨x2,r2,_⟩:=opens23 n2 _ _ k2
 obtain ⟨a3,l3,c3,rfl⟩:=okWide_slice Tryz.underlying23 (hval 3 23 v3 rfl rfl)
 obtain ⟨n3,k3⟩:=id h3
 obtain ⟨x3,r3,_⟩:=opens23 n3 _ _ k3
 have hr:Reps (allS W) W [Value.string s0,Value.slice a1 l1 c1,Value.slice a2 l2 c2,Value.slice a3 l3 c3] [V.str s0.data.toList,V.sl 1 false (x1.map encB),V.sl 1 false (x2.map encB),V.sl 1 false (x3.map encB)] []:=by
  have r0:Reps (allS W) W [Value.string s0] [V.str s0.data.toList] []:=.cons (O1:=[]) (O2:=[]) (.str s0) .nil
  exact reps_append (us:=[Value.string s0]) r0 (reps_append (us:=[Value.slice a1 l1 c1]) r1 (reps_append (us:=[Value.slice a2 l2 c2]) r2 (r3)))
 have hlt:∀ y∈p0++p1++p2++p3++[],y.block<W.heap.size:=fun y hy=>hW'.lt y hy
 have hG:G.globT.All fun g cs=>GlobAt (allS W) W g cs:=by
  unfold G.globT
  simp only[Tr.All,and_true,true_and,and_assoc]
 refine (open_callsG (G:=G.tab.glob.get) (fun _ _ h=>hG.get h) Tryz.call5 (treemergeTexts_does (s0.data.toList) (x1) (x2) (x3)) hr).mono fun e W' ⟨he,hb⟩=>?_
 subst he
 refine ⟨_,rfl,[d0,d1,d2,d3],[],p0++p1++p2++p3++[],[],(p0++(p1++(p2++p3))),[],hW',?_,?_,rfl,hb.frame _,fun h=>by cases h⟩
 ·
  exact trodAll_cons_mk (shut_bool Tryz.underlying4 _) trodAll_mk0
 ·
  exact trodAll_mk4 (Below.trod laidOut (by kernel_rfl) (of_decide_eq_true (by kernel_rfl)) h0 hb fun y hy=>hlt y (by simp[hy])) (Below.trod laidOut (by kernel_rfl) (of_decide_eq_true (by kernel_rfl)) h1 hb fun y hy=>hlt y (by simp[hy])) (Below.trod laidOut (by kernel_rfl) (of_decide_eq_true (by kernel_rfl)) h2 hb fun y hy=>hlt y (by simp[hy])) (Below.trod laidOut (by kernel_rfl) (of_decide_eq_true (by kernel_rfl)) h3 hb fun y hy=>hlt y (by simp[hy]))
def wargs:Array Value:=#[.string ⟨#[]⟩,.slice none 0 0,.slice none 0 0,.slice none 0 0]
theorem laid_met (os:Os):laidMet Tryz.prog Rows.treemergeTextsRow.laid ((World.laidAll Tryz.prog os Rows.treemergeTextsRow.laid).forCall (fun _ _=>0) ⟨#[],wargs,[]⟩).memory :=
 laidMet_laidAll _ (by kernel_rfl) (by kernel_rfl)
theorem reads (os:Os) {H:Type} (enc:TypeId×Value→H):∃ places,DataW.whole enc Tryz.prog ((World.laidAll Tryz.prog os Rows.treemergeTextsRow.laid).forCall (fun _ _=>0) ⟨#[],wargs,[]⟩).memory Tryz.f5.params.toList Rows.treemergeTextsSpec.vars false wargs.toList 8=some ([.lit (.string []),.nil,.nil,.nil],[],places) :=
 ⟨[],by kernel_rfl⟩
set_option maxRecDepth 100000 in
theorem lifted (os:Os) (started:os.Started) (H:Type) (enc:TypeId×Value→H) (F:Stop.Interp) :
  ReturnsInHanded {} Tryz.checked os 5 .any ((OpenSpec.ofChange Rows.treemergeTextsSpec).preRow enc Tryz.prog Tryz.f5 Rows.treemergeTextsRow.domain false Rows.treemergeTextsRow.laid) (((OpenSpec.ofChange Rows.treemergeTextsSpec).at F).post enc Tryz.prog Tryz.f5 false true false false):=by
 obtain ⟨places,hx⟩:=reads os enc
 refine returnsInHanded_of_row (C:=Tryz.checked) (s:=OpenSpec.ofChange Rows.treemergeTextsSpec) own started (by kernel_rfl) Tryz.func5
  (witness_row_at (enc:=enc) (C:=Tryz.checked) false (World.laidAll Tryz.prog os Rows.treemergeTextsRow.laid) wargs (World.laidAll_os _ _ _) (by kernel_rfl) (by kernel_rfl) (by kernel_rfl)
   (OpenSpec.preRow_of_cond 8 hx (by kernel_rfl) (fun k hk=>by cases hk) (by kernel_rfl) (laid_met os))) ?_
 intro W base args ds gs before hval hW _ _ _ hL _ _
 exact contract H enc W base args ds gs before hval hW hL
theorem said:Rows.TreemergeTextsSaid :=
 OpenClaim.holds_of_cond 5 Tryz.f5 rfl rfl rfl rfl rfl rfl rfl ⟨rfl,rfl,rfl,rfl,rfl⟩ rfl rfl rfl rfl rfl (by kernel_rfl) Tryz.func5 (by kernel_rfl)
  (of_decide_eq_true (by kernel_rfl)) (by unfold Func.isWrapper;first | (rw[if_pos (by decide +kernel)];kernel_rfl) | (rw[if_neg (by decide +kernel)];exact ⟨rfl,rfl⟩))
  (fun os started H enc _ F=>by rw[OpenClaim.pre_eq_preRow];exact lifted os started H enc F)
theorem plain (f : FuncId) (fn : Func) (hf : Tryz.pinned.checked.prog.funcNamed "siding/sidinglaw22.TreemergeTexts" = some f) (hfn : Tryz.pinned.checked.prog.funcs[f]? = some fn) :
  false=Tryz.pinned.checked.prog.looks []∧∀ (j:Nat) t,fn.params[j]?=some t→Tryz.pinned.checked.prog.wantsStandIn t=false:=by
 obtain rfl : f = 5 := Option.some.inj ((show Tryz.prog.funcNamed "siding/sidinglaw22.TreemergeTexts" = some 5 by kernel_rfl).symm.trans hf) |>.symm
 obtain rfl:fn=Tryz.f5:=(Option.some.inj (Tryz.func5.symm.trans hfn)).symm
 refine ⟨by kernel_rfl,fun j t ht=>?_⟩
 have hp:Tryz.f5.params=#[9,23,23,23]:=by kernel_rfl
 have key:∀ t∈[9,23,23,23],Tryz.pinned.checked.prog.wantsStandIn t=false:=by
  intro t ht
  simp only[List.mem_cons,List.not_mem_nil,or_false] at ht
  rcases ht with rfl | rfl | rfl | rfl <;> kernel_rfl
 rw[hp] at ht
 refine key t ?_
 have:=List.mem_of_getElem? (l:=[9,23,23,23]) (i:=j) (a:=t) (by simpa using ht)
 exact this
theorem treemergeTexts_card:Rows.TreemergeTextsCardSaid :=
 Claim7.holds_tied_plain_at .later [] _ _ _ _ said (fun _ h=>by cases h) (by kernel_rfl) (fun _ h=>by cases h) treemergeTexts_row_tie rfl ⟨rfl,rfl⟩ (by kernel_rfl) rfl plain (by kernel_rfl)
#print axioms treemergeTexts_card
end Go.Proofs.YtedbfdlgiilapaaGreatDoor
