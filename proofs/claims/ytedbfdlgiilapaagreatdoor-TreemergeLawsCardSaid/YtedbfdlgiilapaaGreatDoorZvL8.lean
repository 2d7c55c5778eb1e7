/- Zv: a pure interpreter of the translated code over values, and that it is right. No condition. -/
import Derived.Test.YtedbfdlgiilapaaGreatDoorZvL7
import Derived.OpenShut
set_option linter.unusedSimpArgs false
set_option linter.unusedVariables false
namespace Go.Zv
open Go Go.ChangeShapes Go.Deep Go.RowKit
section
variable {P:Program} {w:World}
theorem open_callsG {G:Nat→Option (List V)} {f:Nat} {vs:List Value} {args outs:List V} (hG:∀ g cs,G g=some cs→GlobAt (allS w) w g cs) (he:∀ (vs:Array Value) (w:World),(callFunc f vs).run P w=.ok (.enter f vs) w) (h:Does P G f args (.bool true) outs) (hr:Reps (allS w) w vs args []) :
  Calls P f vs.toArray w fun e w'=>e=.returned (.bool true)∧Below w.heap.size w w':=by
 have hg:Given G (allS w) w vs args []:=⟨hr,by simp,by simp,fun _ h=>h,hG⟩
 rcases h (allS w) w vs [] hg with ⟨_,hc⟩ | ⟨v,w',hv,_⟩
 ·
  refine hc.mono fun e w' ⟨v,h1,S',Or,Oo,hb⟩=>?_
  obtain rfl:v=.bool true:=by
   have:=hb.res
   cases this
   rfl
  exact ⟨h1,hb.same.os,hb.same.tape,hb.same.output,hb.size,fun b hlt=>hb.keep b hlt (by simp)⟩
 ·
  rw[he] at hv
  cases hv
end
section
variable {H:Type} {enc:TypeId×Value→H} {P:Program} {w:World} {spare:Nat→Bool} {held:Bool}
end
end Go.Zv
