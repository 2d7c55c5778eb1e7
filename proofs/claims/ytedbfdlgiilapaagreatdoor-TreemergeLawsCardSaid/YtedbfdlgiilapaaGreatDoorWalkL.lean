/- Walks of the library functions that insert and delete rows, and of a predicate. No condition. -/
import Derived.Test.YtedbfdlgiilapaaGreatDoorProg
import Derived.WalkKit
import Derived.BigGuard
import Derived.WalkSpells
import Derived.Deep.RegionLaw
import Derived.Test.YtedbfdlgiilapaaGreatDoorZvL6
import Derived.Lib.Overlaps
import Derived.Laws.Externs
set_option linter.unusedSimpArgs false
set_option linter.unusedVariables false
namespace Go.Proofs.YtedbfdlgiilapaaGreatDoor
open Go Go.RowKit Go.Proofs
def isLet (c:Int):Bool:=decide (97≤c)&&decide (c≤122)||decide (65≤c)&&decide (c≤90)||decide (48≤c)&&decide (c≤57)||decide (c=45)||decide (c=95)||decide (c=46)
set_option maxHeartbeats 1000000 in
set_option maxRecDepth 100000 in
theorem letter_any (c:Int) (w:World):Calls Tryz.prog 219 #[.int .i32 c] w fun e w'=>e=.returned (.bool (isLet c))∧w'=w:=by
 go_enter Tryz.func219,Tryz.ntmps219
 go_wp2
 all_goals (go_ret;refine ⟨congrArg Ending.returned (congrArg Value.bool ?_),rfl⟩)
 all_goals (rw[Bool.eq_iff_iff];simp only[isLet,Bool.or_eq_true,Bool.and_eq_true,decide_eq_true_eq,beq_iff_eq,true_iff,Bool.false_eq_true,false_iff];first | omega | (simp_all;done) | (simp_all;omega) | trace_state)
theorem notLetter_any (c:Int) (w:World):Calls Tryz.prog 218 #[.int .i32 c] w fun e w'=>e=.returned (.bool (!isLet c))∧w'=w:=by
 go_enter Tryz.func218,Tryz.ntmps218
 go_wp2_with (go_at_call 219;refine (letter_any _ _).mono ?_;rintro e w' ⟨rfl,rfl⟩)
 go_ret
 exact ⟨rfl,rfl⟩
end Go.Proofs.YtedbfdlgiilapaaGreatDoor
namespace Go.Proofs.YtedbfdlgiilapaaGreatDoor
open Go Go.RowKit Go.Proofs Go.Zv
end Go.Proofs.YtedbfdlgiilapaaGreatDoor
namespace Go.Proofs.YtedbfdlgiilapaaGreatDoor
open Go Go.RowKit Go.Proofs Go.Zv
theorem wpList_append_eq {P:Program} {ops:Array Oper} {rest:List Oper} {o:Oper} {a:Act} {w:World} {Q:Exit→Act→World→Prop} (hg:o.guard=none) (d x:Operand) (t t':TypeId)
  (ho:o.op=.call { callee:=.builtin .append,args:=#[d,x],argTypes:=#[t,t'] }) (v u:Value) (hd:a.eval d=v) (hx:a.eval x=u) {v':Value} {w':World}
  (hr:(Builtin.append_ #[t,t'] o.type #[v,u]).run P w=.ok v' w') (h:wpList P ops Q rest (a.put o.dst v') w'):wpList P ops Q (o::rest) a w :=
 wpList_plain hg fun K hK=>by
  unfold Oper.wp
  simp[execOp,ho,resolve,invoke,builtin,hd,hx,hr,Result.andThen]
  exact hK _ _ h
theorem wpList_copy_eq {P:Program} {ops:Array Oper} {rest:List Oper} {o:Oper} {a:Act} {w:World} {Q:Exit→Act→World→Prop} (hg:o.guard=none) (d x:Operand) (t t':TypeId)
  (ho:o.op=.call { callee:=.builtin .copy,args:=#[d,x],argTypes:=#[t,t'] }) (v u:Value) (hd:a.eval d=v) (hx:a.eval x=u) {v':Value} {w':World}
  (hr:(Builtin.copy_ #[t,t'] o.type #[v,u]).run P w=.ok v' w') (h:wpList P ops Q rest (a.put o.dst v') w'):wpList P ops Q (o::rest) a w :=
 wpList_plain hg fun K hK=>by
  unfold Oper.wp
  simp[execOp,ho,resolve,invoke,builtin,hd,hx,hr,Result.andThen]
  exact hK _ _ h
theorem step_copy_run {P:Program} {ops:Array Oper} {o:Oper} {a:Act} {w:World} {K:Act→World→Prop} {Q:Exit→Act→World→Prop} {E:Prop}
  (hg:o.guard=none) (d x:Operand) (t t':TypeId) (hop:o.op=Op.call { callee:=Callee.builtin Builtin.copy,args:=#[d,x],argTypes:=#[t,t'] })
  (v u:Value) (hd:a.eval d=v) (hx:a.eval x=u) {v':Value} {w':World} (hr:(Builtin.copy_ #[t,t'] o.type #[v,u]).run P w=.ok v' w') (hK:K (a.put o.dst v') w') :
  if Region.wanted o (yielded ops a.tmps)=true then Oper.wp P o a w K Q else E:=by
 have hw:Region.wanted o (yielded ops a.tmps)=true:=by simp[Region.wanted,hg]
 rw[if_pos hw]
 unfold Oper.wp
 simp[execOp,hop,resolve,invoke,builtin,hd,hx,hr,Result.andThen]
 exact hK
end Go.Proofs.YtedbfdlgiilapaaGreatDoor
