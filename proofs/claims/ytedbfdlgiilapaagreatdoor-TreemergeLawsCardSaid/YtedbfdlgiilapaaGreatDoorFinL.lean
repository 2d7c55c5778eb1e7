/- siding/sidinglaw22.TreemergeLaws: whatever the arguments, the call gives true, and the arguments read as before. No condition. -/
import Derived.Test.YtedbfdlgiilapaaGreatDoorLawL3
import Derived.Test.YtedbfdlgiilapaaGreatDoorAliveL
import Derived.Test.YtedbfdlgiilapaaGreatDoorRunL6
import Derived.Test.YtedbfdlgiilapaaGreatDoorZvL8
import Derived.Test.YtedbfdlgiilapaaGreatDoorCards
import Derived.Test.YtedbfdlgiilapaaGreatDoorTie
import Derived.ProofKit
import Derived.OpenShut
import Derived.Lay
import Derived.Carry
import Derived.Deep.DeepHandedRow
set_option linter.unusedSimpArgs false
set_option linter.unusedVariables false
namespace Go.Proofs.YtedbfdlgiilapaaGreatDoor
open Go Go.Zv Go.RowKit Go.Proofs Go.ChangeShapes Go.WideShapes Go.ChangeAt
set_option maxRecDepth 100000
theorem own:ownKnob Tryz.prog.godebug=none:=by kernel_rfl
theorem mixed:Tryz.prog.follows .mixedOrders=true:=by kernel_rfl
theorem laidOut:laidOutB Tryz.prog=true:=by kernel_rfl
theorem treemergeLaws_does (x0:List (G.GFile)) (x1:List (G.GFile)) (x2:List (G.GFile)):Does Tryz.prog G.tab.glob.get 7 [V.sl 2 false (x0.map G.eGF),V.sl 2 false (x1.map G.eGF),V.sl 2 false (x2.map G.eGF)] (.bool true) [.ud,.ud,.ud] :=
 callD_sound G.tab_ok prims_ok mixed _ 7 _ _ _ (G.f_sidinglaw22_TreemergeLaws_ok 60000 0  x0 x1 x2 true (G.law_TreemergeLaws (by decide) G.A_f_sidinglaw22_alive x0 x1 x2))
section
variable {H:Type} {enc:TypeId×Value→H} {w:World} {spare:Nat→Bool} {held:Bool}
theorem opens9:Opens enc Tryz.prog w spare held 9 fun s:List UInt8=>[V.str s]:=opens_str Tryz.underlying9
theorem opens23:Opens enc Tryz.prog w spare held 23 fun l:List UInt8=>[V.sl 1 false (l.map encB)] :=
 opens_slice (e:=5) Tryz.underlying23 (by kernel_rfl) (by decide) (fun _=>rfl) (opens_u8 Tryz.underlying5)
theorem opens37:Opens enc Tryz.prog w spare held 37 G.eGF :=
 opens_struct2 (e0:=(fun s:List UInt8=>[V.str s])) (e1:=(fun l:List UInt8=>[V.sl 1 false (l.map encB)])) (fun a b=>⟨a,b⟩) G.eGF (fun _ _=>rfl) Tryz.underlying37 (by kernel_rfl) (by kernel_rfl) (by kernel_rfl) opens9 opens23
theorem opens22:Opens enc Tryz.prog w spare held 22 fun l:List (G.GFile)=>[V.sl 2 false (l.map G.eGF)] :=
 opens_slice (e:=37) Tryz.underlying22 (by kernel_rfl) (by decide) (fun _=>rfl) opens37
end
theorem contract (H:Type) (enc:TypeId×Value→H) (W:World) (base:Nat) (args:Array Value) (ds gs:List (DataW H)) (before:List MemPlace)
  (hval:∀ (j:Nat) t v,Tryz.f7.params[j]?=some t→args[j]?=some v→Value.okWide Tryz.prog W .any base t v)
  (hW:DataW.Whole enc Tryz.prog Tryz.f7.params.toList Rows.treemergeLawsSpec.vars false W args.toList ds gs before) (hL:laidMet Tryz.prog Rows.treemergeLawsRow.laid W) :
  Calls Tryz.prog 7 args W fun e W'=>∃ v,e=.returned v∧Rows.treemergeLawsSpec.post enc Tryz.prog Tryz.f7 false true false false W args v W':=by
 have hW':=hW
 obtain ⟨p,q,hA0,hV,rfl,hfz,hnd⟩:=hW
 have hA:DataW.TrodAll enc Tryz.prog W 0 (fun _=>true) true [22,22,22] args.toList ds p:=hA0
 obtain ⟨v0,v1,v2,d0,d1,d2,p0,p1,p2,rfl,rfl,rfl,h0,h1,h2⟩:=trodAll_three hA
 obtain ⟨rfl,rfl⟩:=trodVars_none hV
 obtain ⟨a0,l0,c0,rfl⟩:=okWide_slice Tryz.underlying22 (hval 0 22 v0 rfl rfl)
 obtain ⟨n0,k0⟩:=id h0
 obtain ⟨x0,r0,_⟩:=opens22 n0 _ _ k0
 obtain ⟨a1,l1,c1,rfl⟩:=okWide_slice Tryz.underlying22 (hval 1 22 v1 rfl rfl)
 obtain ⟨n1,k1⟩:=id h1
 obtain ⟨x1,r1,_⟩:=opens22 n1 _ _ k1
 obtain ⟨a2,l2,c2,rfl⟩:=okWide_slice Tryz.underlying22 (hval 2 22 v2 rfl rfl)
 obtain ⟨n2,k2⟩:=id h2
 obtain ⟨x2,r2,_⟩:=opens22 n2 _ _ k2
 have hr:Reps (allS W) W [Value.slice a0 l0 c0,Value.slice a1 l1 c1,Value.slice a2 l2 c2] [V.sl 2 false (x0.map G.eGF),V.sl 2 false (x1.map G.eGF),V.sl 2 false (x2.map G.eGF)] []:=by
  exact reps_append (us:=[Value.slice a0 l0 c0]) r0 (reps_append (us:=[Value.slice a1 l1 c1]) r1 (r2))
 have hlt:∀ y∈p0++p1++p2++[],y.block<W.heap.size:=fun y hy=>hW'.lt y hy
 have hG:G.globT.All fun g cs=>GlobAt (allS W) W g cs:=by
  unfold G.globT
  simp only[Tr.All,and_true,true_and,and_assoc]
 refine (open_callsG (G:=G.tab.glob.get) (fun _ _ h=>hG.get h) Tryz.call7 (treemergeLaws_does (x0) (x1) (x2)) hr).mono fun e W' ⟨he,hb⟩=>?_
 subst he
 refine ⟨_,rfl,[d0,d1,d2],[],p0++p1++p2++[],[],(p0++(p1++p2)),[],hW',?_,?_,rfl,hb.frame _,fun h=>by cases h⟩
 ·
  exact trodAll_cons_mk (shut_bool Tryz.underlying4 _) trodAll_mk0
 ·
  exact trodAll_mk3 (Below.trod laidOut (by kernel_rfl) (of_decide_eq_true (by kernel_rfl)) h0 hb fun y hy=>hlt y (by simp[hy])) (Below.trod laidOut (by kernel_rfl) (of_decide_eq_true (by kernel_rfl)) h1 hb fun y hy=>hlt y (by simp[hy])) (Below.trod laidOut (by kernel_rfl) (of_decide_eq_true (by kernel_rfl)) h2 hb fun y hy=>hlt y (by simp[hy]))
def wargs:Array Value:=#[.slice none 0 0,.slice none 0 0,.slice none 0 0]
theorem laid_met (os:Os):laidMet Tryz.prog Rows.treemergeLawsRow.laid ((World.laidAll Tryz.prog os Rows.treemergeLawsRow.laid).forCall (fun _ _=>0) ⟨#[],wargs,[]⟩).memory :=
 laidMet_laidAll _ (by kernel_rfl) (by kernel_rfl)
theorem reads (os:Os) {H:Type} (enc:TypeId×Value→H):∃ places,DataW.whole enc Tryz.prog ((World.laidAll Tryz.prog os Rows.treemergeLawsRow.laid).forCall (fun _ _=>0) ⟨#[],wargs,[]⟩).memory Tryz.f7.params.toList Rows.treemergeLawsSpec.vars false wargs.toList 8=some ([.nil,.nil,.nil],[],places) :=
 ⟨[],by kernel_rfl⟩
set_option maxRecDepth 100000 in
theorem lifted (os:Os) (started:os.Started) (H:Type) (enc:TypeId×Value→H) (F:Stop.Interp) :
  ReturnsInHanded {} Tryz.checked os 7 .any ((OpenSpec.ofChange Rows.treemergeLawsSpec).preRow enc Tryz.prog Tryz.f7 Rows.treemergeLawsRow.domain false Rows.treemergeLawsRow.laid) (((OpenSpec.ofChange Rows.treemergeLawsSpec).at F).post enc Tryz.prog Tryz.f7 false true false false):=by
 obtain ⟨places,hx⟩:=reads os enc
 refine returnsInHanded_of_row (C:=Tryz.checked) (s:=OpenSpec.ofChange Rows.treemergeLawsSpec) own started (by kernel_rfl) Tryz.func7
  (witness_row_at (enc:=enc) (C:=Tryz.checked) false (World.laidAll Tryz.prog os Rows.treemergeLawsRow.laid) wargs (World.laidAll_os _ _ _) (by kernel_rfl) (by kernel_rfl) (by kernel_rfl)
   (OpenSpec.preRow_of_cond 8 hx (by kernel_rfl) (fun k hk=>by cases hk) (by kernel_rfl) (laid_met os))) ?_
 intro W base args ds gs before hval hW _ _ _ hL _ _
 exact contract H enc W base args ds gs before hval hW hL
theorem said:Rows.TreemergeLawsSaid :=
 OpenClaim.holds_of_cond 7 Tryz.f7 rfl rfl rfl rfl rfl rfl rfl ⟨rfl,rfl,rfl,rfl,rfl⟩ rfl rfl rfl rfl rfl (by kernel_rfl) Tryz.func7 (by kernel_rfl)
  (of_decide_eq_true (by kernel_rfl)) (by unfold Func.isWrapper;first | (rw[if_pos (by decide +kernel)];kernel_rfl) | (rw[if_neg (by decide +kernel)];exact ⟨rfl,rfl⟩))
  (fun os started H enc _ F=>by rw[OpenClaim.pre_eq_preRow];exact lifted os started H enc F)
theorem plain (f : FuncId) (fn : Func) (hf : Tryz.pinned.checked.prog.funcNamed "siding/sidinglaw22.TreemergeLaws" = some f) (hfn : Tryz.pinned.checked.prog.funcs[f]? = some fn) :
  false=Tryz.pinned.checked.prog.looks []∧∀ (j:Nat) t,fn.params[j]?=some t→Tryz.pinned.checked.prog.wantsStandIn t=false:=by
 obtain rfl : f = 7 := Option.some.inj ((show Tryz.prog.funcNamed "siding/sidinglaw22.TreemergeLaws" = some 7 by kernel_rfl).symm.trans hf) |>.symm
 obtain rfl:fn=Tryz.f7:=(Option.some.inj (Tryz.func7.symm.trans hfn)).symm
 refine ⟨by kernel_rfl,fun j t ht=>?_⟩
 have hp:Tryz.f7.params=#[22,22,22]:=by kernel_rfl
 have key:∀ t∈[22,22,22],Tryz.pinned.checked.prog.wantsStandIn t=false:=by
  intro t ht
  simp only[List.mem_cons,List.not_mem_nil,or_false] at ht
  rcases ht with rfl | rfl | rfl <;> kernel_rfl
 rw[hp] at ht
 refine key t ?_
 have:=List.mem_of_getElem? (l:=[22,22,22]) (i:=j) (a:=t) (by simpa using ht)
 exact this
theorem treemergeLaws_card:Rows.TreemergeLawsCardSaid :=
 Claim7.holds_tied_plain_at .later [] _ _ _ _ said (fun _ h=>by cases h) (by kernel_rfl) (fun _ h=>by cases h) treemergeLaws_row_tie rfl ⟨rfl,rfl⟩ (by kernel_rfl) rfl plain (by kernel_rfl)
#print axioms treemergeLaws_card
end Go.Proofs.YtedbfdlgiilapaaGreatDoor
