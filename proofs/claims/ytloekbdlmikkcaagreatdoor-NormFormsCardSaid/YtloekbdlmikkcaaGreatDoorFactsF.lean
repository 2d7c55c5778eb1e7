/- What the table gives a symbolic run. No condition. -/
import Derived.Test.YtloekbdlmikkcaaGreatDoorTabF
import Derived.Test.YtloekbdlmikkcaaGreatDoorZvF7
set_option linter.unusedSimpArgs false
set_option linter.unusedVariables false
namespace Go.Proofs.YtloekbdlmikkcaaGreatDoor.G
open Go Go.Zv Go.Zv.G Go.Proofs Go.Proofs.YtloekbdlmikkcaaGreatDoor
set_option maxRecDepth 100000
section
variable (i:FnI) (call:Nat→List V→Option (V×List V))
theorem ety3:(envOf tab i call).tys 3=some ti3:=rfl
theorem ety4:(envOf tab i call).tys 4=some ti4:=rfl
theorem ety5:(envOf tab i call).tys 5=some ti5:=rfl
theorem ety9:(envOf tab i call).tys 9=some ti9:=rfl
theorem ety25:(envOf tab i call).tys 25=some ti25:=rfl
theorem ety26:(envOf tab i call).tys 26=some ti26:=rfl
theorem ety34:(envOf tab i call).tys 34=some ti34:=rfl
theorem ety37:(envOf tab i call).tys 37=some ti37:=rfl
theorem ety39:(envOf tab i call).tys 39=some ti39:=rfl
theorem ety45:(envOf tab i call).tys 45=some ti45:=rfl
theorem ety55:(envOf tab i call).tys 55=some ti55:=rfl
theorem ety59:(envOf tab i call).tys 59=some ti59:=rfl
theorem ety82:(envOf tab i call).tys 82=some ti82:=rfl
theorem ety87:(envOf tab i call).tys 87=some ti87:=rfl
theorem ety89:(envOf tab i call).tys 89=some ti89:=rfl
theorem ety104:(envOf tab i call).tys 104=some ti104:=rfl
theorem ety105:(envOf tab i call).tys 105=some ti105:=rfl
theorem ety107:(envOf tab i call).tys 107=some ti107:=rfl
theorem ety110:(envOf tab i call).tys 110=some ti110:=rfl
theorem ety132:(envOf tab i call).tys 132=some ti132:=rfl
theorem ety134:(envOf tab i call).tys 134=some ti134:=rfl
theorem ety136:(envOf tab i call).tys 136=some ti136:=rfl
theorem ety146:(envOf tab i call).tys 146=some ti146:=rfl
theorem ety147:(envOf tab i call).tys 147=some ti147:=rfl
theorem ety165:(envOf tab i call).tys 165=some ti165:=rfl
theorem ety171:(envOf tab i call).tys 171=some ti171:=rfl
theorem ety174:(envOf tab i call).tys 174=some ti174:=rfl
theorem ety180:(envOf tab i call).tys 180=some ti180:=rfl
theorem ety181:(envOf tab i call).tys 181=some ti181:=rfl
theorem ety182:(envOf tab i call).tys 182=some ti182:=rfl
theorem ety184:(envOf tab i call).tys 184=some ti184:=rfl
theorem elib (t:Nat):(envOf tab i call).lib t=libsT.get t:=rfl
theorem eglob (g:Nat):(envOf tab i call).glob g=globT.get g:=rfl
theorem eeqs (t:Nat):(envOf tab i call).eqs t=isIn eqsT t:=rfl
theorem eglob_0:globT.get 0=some (arrV 8 .u32 (litA glob0)):=rfl
theorem eglob_2:globT.get 2=some (arrV 64 .u32 (litA glob2)):=rfl
theorem elib_3:libsT.get 3=none:=rfl
theorem elib_4:libsT.get 4=none:=rfl
theorem elib_5:libsT.get 5=none:=rfl
theorem elib_9:libsT.get 9=none:=rfl
theorem elib_25:libsT.get 25=none:=rfl
theorem elib_26:libsT.get 26=none:=rfl
theorem elib_34:libsT.get 34=none:=rfl
theorem elib_37:libsT.get 37=none:=rfl
theorem elib_39:libsT.get 39=none:=rfl
theorem elib_45:libsT.get 45=none:=rfl
theorem elib_55:libsT.get 55=none:=rfl
theorem elib_59:libsT.get 59=none:=rfl
theorem elib_82:libsT.get 82=none:=rfl
theorem elib_87:libsT.get 87=none:=rfl
theorem elib_89:libsT.get 89=some (1,5):=rfl
theorem qqk:libsT.get 104=none:=rfl
theorem qql:libsT.get 105=none:=rfl
theorem qqm:libsT.get 107=none:=rfl
theorem qqn:libsT.get 110=none:=rfl
theorem qqo:libsT.get 132=none:=rfl
theorem qqp:libsT.get 134=none:=rfl
theorem qqq:libsT.get 136=some (0,5):=rfl
theorem qqr:libsT.get 146=none:=rfl
theorem qqs:libsT.get 147=none:=rfl
theorem qqt:libsT.get 165=none:=rfl
theorem qqu:libsT.get 171=none:=rfl
theorem qqv:libsT.get 174=none:=rfl
theorem qqw:libsT.get 180=none:=rfl
theorem qqx:libsT.get 181=none:=rfl
theorem qqy:libsT.get 182=none:=rfl
theorem qqz:libsT.get 184=none:=rfl
theorem eeqs_45:isIn eqsT 45=true:=rfl
theorem tk45:ti45.kind=.arr 32 1 5:=rfl
theorem ts45:ti45.size=32:=rfl
theorem tz45:ti45.zero=arrV 32 .u8 zeroA:=rfl
theorem tb45 (a:Nat→Int):boxed ti45.sk (arrV 32 .u8 a)=arrV 32 .u8 a:=rfl
theorem tbz45:boxed ti45.sk ti45.zero=arrV 32 .u8 zeroA:=rfl
theorem tc45 (a:Nat→Int):canon ti45.sk (arrV 32 .u8 a)=arrV 32 .u8 a:=rfl
theorem tcz45:canon ti45.sk ti45.zero=arrV 32 .u8 zeroA:=rfl
theorem te45 (a b:Nat→Int):qee ti45.sk (arrV 32 .u8 a) (arrV 32 .u8 b)=some (eqA 32 a b):=eqCells_arr 32 .u8 a b
theorem tk105:ti105.kind=.arr 8 1 104:=rfl
theorem ts105:ti105.size=8:=rfl
theorem tz105:ti105.zero=arrV 8 .u32 zeroA:=rfl
theorem tb105 (a:Nat→Int):boxed ti105.sk (arrV 8 .u32 a)=arrV 8 .u32 a:=rfl
theorem tbz105:boxed ti105.sk ti105.zero=arrV 8 .u32 zeroA:=rfl
theorem tc105 (a:Nat→Int):canon ti105.sk (arrV 8 .u32 a)=arrV 8 .u32 a:=rfl
theorem tcz105:canon ti105.sk ti105.zero=arrV 8 .u32 zeroA:=rfl
theorem tu105 (a:Nat→Int):canon ti105.sk (cut (arrV 8 .u32 a) 0 ti105.size)=arrV 8 .u32 a:=rfl
theorem tk107:ti107.kind=.struct [(0,(105,8)),(8,(34,1)),(9,(3,1))]:=rfl
theorem ts107:ti107.size=10:=rfl
theorem tz107:ti107.zero=arrV 8 .u32 zeroA++[.nilsl,.int .i64 0]:=rfl
theorem tb107 (a:Nat→Int) (t:List V):boxed ti107.sk (arrV 8 .u32 a++t)=arrV 8 .u32 a++boxed [.slice 1 1,.int .i64] t:=rfl
theorem tbz107:boxed ti107.sk ti107.zero=arrV 8 .u32 zeroA++boxed [.slice 1 1,.int .i64] [.nilsl,.int .i64 0]:=rfl
theorem tc107 (a:Nat→Int) (t:List V):canon ti107.sk (arrV 8 .u32 a++t)=arrV 8 .u32 a++canon [.slice 1 1,.int .i64] t:=rfl
theorem tcz107:canon ti107.sk ti107.zero=arrV 8 .u32 zeroA++canon [.slice 1 1,.int .i64] [.nilsl,.int .i64 0]:=rfl
theorem tk182:ti182.kind=.arr 64 1 104:=rfl
theorem ts182:ti182.size=64:=rfl
theorem tz182:ti182.zero=arrV 64 .u32 zeroA:=rfl
theorem tb182 (a:Nat→Int):boxed ti182.sk (arrV 64 .u32 a)=arrV 64 .u32 a:=rfl
theorem tbz182:boxed ti182.sk ti182.zero=arrV 64 .u32 zeroA:=rfl
theorem tc182 (a:Nat→Int):canon ti182.sk (arrV 64 .u32 a)=arrV 64 .u32 a:=rfl
theorem tcz182:canon ti182.sk ti182.zero=arrV 64 .u32 zeroA:=rfl
theorem efixed:(envOf tab i call).fixed=i.fixed:=rfl
theorem enests:(envOf tab i call).nests=i.nests:=rfl
theorem eshares:(envOf tab i call).shares=i.shares:=rfl
theorem ekeep (k:Nat):(envOf tab i call).keep k=Go.Zv.look k i.keep:=rfl
theorem eplan (k:Nat):(envOf tab i call).plan k=Go.Zv.look k i.plans:=rfl
theorem eu8 (k:Nat):(envOf tab i call).u8s k=isIn u8sT k:=rfl
theorem eflat (k:Nat):(envOf tab i call).flat k=isIn qw k:=rfl
theorem etakes (k:Nat):(envOf tab i call).takes k=qb qo k:=rfl
theorem eturns (k:Nat):(envOf tab i call).turns k=qb qp k:=rfl
theorem ecall {R:Type} (f:Nat) (args:List V) (K:V→List V→Option R):(envOf tab i call).call f args K=(match call f args with
 | some (res,outs)=>K res outs
 | none=>none):=rfl
theorem etk4:qb qo 4=[]:=rfl
theorem etn4:qb qp 4=[]:=rfl
theorem efl4:isIn qw 4=true:=rfl
theorem etk15:qb qo 15=[]:=rfl
theorem etn15:qb qp 15=[]:=rfl
theorem efl15:isIn qw 15=true:=rfl
theorem etk16:qb qo 16=[]:=rfl
theorem etn16:qb qp 16=[]:=rfl
theorem efl16:isIn qw 16=true:=rfl
theorem etk19:qb qo 19=[]:=rfl
theorem etn19:qb qp 19=[]:=rfl
theorem efl19:isIn qw 19=true:=rfl
theorem etk20:qb qo 20=[]:=rfl
theorem etn20:qb qp 20=[]:=rfl
theorem efl20:isIn qw 20=false:=rfl
theorem etk21:qb qo 21=[]:=rfl
theorem etn21:qb qp 21=[]:=rfl
theorem efl21:isIn qw 21=false:=rfl
theorem etk22:qb qo 22=[]:=rfl
theorem etn22:qb qp 22=[]:=rfl
theorem efl22:isIn qw 22=false:=rfl
theorem etk23:qb qo 23=[]:=rfl
theorem etn23:qb qp 23=[]:=rfl
theorem efl23:isIn qw 23=true:=rfl
theorem etk24:qb qo 24=[]:=rfl
theorem etn24:qb qp 24=[]:=rfl
theorem efl24:isIn qw 24=true:=rfl
theorem etk25:qb qo 25=[]:=rfl
theorem etn25:qb qp 25=[]:=rfl
theorem efl25:isIn qw 25=true:=rfl
theorem etk26:qb qo 26=[]:=rfl
theorem etn26:qb qp 26=[]:=rfl
theorem efl26:isIn qw 26=true:=rfl
theorem etk27:qb qo 27=[]:=rfl
theorem etn27:qb qp 27=[]:=rfl
theorem efl27:isIn qw 27=true:=rfl
theorem etk31:qb qo 31=[]:=rfl
theorem etn31:qb qp 31=[]:=rfl
theorem efl31:isIn qw 31=true:=rfl
theorem etk35:qb qo 35=[]:=rfl
theorem etn35:qb qp 35=[]:=rfl
theorem efl35:isIn qw 35=true:=rfl
theorem etk46:qb qo 46=[]:=rfl
theorem etn46:qb qp 46=[]:=rfl
theorem efl46:isIn qw 46=true:=rfl
theorem etk47:qb qo 47=[]:=rfl
theorem etn47:qb qp 47=[]:=rfl
theorem efl47:isIn qw 47=true:=rfl
theorem etk48:qb qo 48=[]:=rfl
theorem etn48:qb qp 48=[]:=rfl
theorem efl48:isIn qw 48=true:=rfl
theorem etk49:qb qo 49=[]:=rfl
theorem etn49:qb qp 49=[]:=rfl
theorem efl49:isIn qw 49=true:=rfl
theorem etk50:qb qo 50=[]:=rfl
theorem etn50:qb qp 50=[]:=rfl
theorem efl50:isIn qw 50=true:=rfl
theorem etk51:qb qo 51=[]:=rfl
theorem etn51:qb qp 51=[]:=rfl
theorem efl51:isIn qw 51=true:=rfl
theorem etk52:qb qo 52=[]:=rfl
theorem etn52:qb qp 52=[]:=rfl
theorem efl52:isIn qw 52=false:=rfl
theorem etk53:qb qo 53=[]:=rfl
theorem etn53:qb qp 53=[]:=rfl
theorem efl53:isIn qw 53=false:=rfl
theorem etk54:qb qo 54=[]:=rfl
theorem etn54:qb qp 54=[]:=rfl
theorem efl54:isIn qw 54=false:=rfl
theorem etk55:qb qo 55=[]:=rfl
theorem etn55:qb qp 55=[]:=rfl
theorem efl55:isIn qw 55=false:=rfl
theorem etk56:qb qo 56=[]:=rfl
theorem etn56:qb qp 56=[]:=rfl
theorem efl56:isIn qw 56=false:=rfl
theorem etk57:qb qo 57=[]:=rfl
theorem etn57:qb qp 57=[]:=rfl
theorem efl57:isIn qw 57=false:=rfl
theorem etk58:qb qo 58=[]:=rfl
theorem etn58:qb qp 58=[]:=rfl
theorem efl58:isIn qw 58=true:=rfl
theorem etk59:qb qo 59=[]:=rfl
theorem etn59:qb qp 59=[]:=rfl
theorem efl59:isIn qw 59=true:=rfl
theorem etk60:qb qo 60=[]:=rfl
theorem etn60:qb qp 60=[]:=rfl
theorem efl60:isIn qw 60=false:=rfl
theorem etk61:qb qo 61=[]:=rfl
theorem etn61:qb qp 61=[]:=rfl
theorem efl61:isIn qw 61=false:=rfl
theorem etk62:qb qo 62=[]:=rfl
theorem etn62:qb qp 62=[]:=rfl
theorem efl62:isIn qw 62=false:=rfl
theorem etk63:qb qo 63=[]:=rfl
theorem etn63:qb qp 63=[]:=rfl
theorem efl63:isIn qw 63=true:=rfl
theorem etk64:qb qo 64=[]:=rfl
theorem etn64:qb qp 64=[]:=rfl
theorem efl64:isIn qw 64=true:=rfl
theorem etk65:qb qo 65=[]:=rfl
theorem etn65:qb qp 65=[]:=rfl
theorem efl65:isIn qw 65=true:=rfl
theorem etk66:qb qo 66=[]:=rfl
theorem etn66:qb qp 66=[]:=rfl
theorem efl66:isIn qw 66=true:=rfl
theorem etk67:qb qo 67=[]:=rfl
theorem etn67:qb qp 67=[]:=rfl
theorem efl67:isIn qw 67=true:=rfl
theorem etk68:qb qo 68=[]:=rfl
theorem etn68:qb qp 68=[]:=rfl
theorem efl68:isIn qw 68=true:=rfl
theorem etk69:qb qo 69=[]:=rfl
theorem etn69:qb qp 69=[]:=rfl
theorem efl69:isIn qw 69=false:=rfl
theorem etk70:qb qo 70=[]:=rfl
theorem etn70:qb qp 70=[]:=rfl
theorem efl70:isIn qw 70=false:=rfl
theorem etk71:qb qo 71=[]:=rfl
theorem etn71:qb qp 71=[]:=rfl
theorem efl71:isIn qw 71=true:=rfl
theorem etk75:qb qo 75=[]:=rfl
theorem etn75:qb qp 75=[]:=rfl
theorem efl75:isIn qw 75=true:=rfl
theorem etk82:qb qo 82=[]:=rfl
theorem etn82:qb qp 82=[]:=rfl
theorem efl82:isIn qw 82=true:=rfl
theorem etk85:qb qo 85=[]:=rfl
theorem etn85:qb qp 85=[]:=rfl
theorem efl85:isIn qw 85=true:=rfl
theorem etk86:qb qo 86=[]:=rfl
theorem etn86:qb qp 86=[]:=rfl
theorem efl86:isIn qw 86=false:=rfl
theorem etk87:qb qo 87=[]:=rfl
theorem etn87:qb qp 87=[]:=rfl
theorem efl87:isIn qw 87=true:=rfl
theorem etk88:qb qo 88=[]:=rfl
theorem etn88:qb qp 88=[]:=rfl
theorem efl88:isIn qw 88=true:=rfl
theorem etk89:qb qo 89=[]:=rfl
theorem etn89:qb qp 89=[]:=rfl
theorem efl89:isIn qw 89=true:=rfl
theorem etk90:qb qo 90=[]:=rfl
theorem etn90:qb qp 90=[]:=rfl
theorem efl90:isIn qw 90=true:=rfl
theorem etk91:qb qo 91=[]:=rfl
theorem etn91:qb qp 91=[]:=rfl
theorem efl91:isIn qw 91=false:=rfl
theorem etk92:qb qo 92=[0]:=rfl
theorem etn92:qb qp 92=[0]:=rfl
theorem efl92:isIn qw 92=false:=rfl
theorem etk95:qb qo 95=[]:=rfl
theorem etn95:qb qp 95=[]:=rfl
theorem efl95:isIn qw 95=false:=rfl
theorem etk96:qb qo 96=[]:=rfl
theorem etn96:qb qp 96=[]:=rfl
theorem efl96:isIn qw 96=false:=rfl
theorem etk97:qb qo 97=[]:=rfl
theorem etn97:qb qp 97=[]:=rfl
theorem efl97:isIn qw 97=false:=rfl
theorem etk98:qb qo 98=[]:=rfl
theorem etn98:qb qp 98=[]:=rfl
theorem efl98:isIn qw 98=false:=rfl
theorem etk102:qb qo 102=[]:=rfl
theorem etn102:qb qp 102=[]:=rfl
theorem efl102:isIn qw 102=true:=rfl
theorem etk103:qb qo 103=[]:=rfl
theorem etn103:qb qp 103=[]:=rfl
theorem efl103:isIn qw 103=true:=rfl
theorem etk104:qb qo 104=[]:=rfl
theorem etn104:qb qp 104=[]:=rfl
theorem efl104:isIn qw 104=true:=rfl
theorem etk105:qb qo 105=[]:=rfl
theorem etn105:qb qp 105=[]:=rfl
theorem efl105:isIn qw 105=true:=rfl
theorem etk106:qb qo 106=[]:=rfl
theorem etn106:qb qp 106=[]:=rfl
theorem efl106:isIn qw 106=true:=rfl
theorem etk107:qb qo 107=[]:=rfl
theorem etn107:qb qp 107=[]:=rfl
theorem efl107:isIn qw 107=true:=rfl
theorem etk108:qb qo 108=[]:=rfl
theorem etn108:qb qp 108=[]:=rfl
theorem efl108:isIn qw 108=true:=rfl
theorem etk109:qb qo 109=[]:=rfl
theorem etn109:qb qp 109=[]:=rfl
theorem efl109:isIn qw 109=false:=rfl
theorem etk110:qb qo 110=[]:=rfl
theorem etn110:qb qp 110=[]:=rfl
theorem efl110:isIn qw 110=false:=rfl
theorem etk111:qb qo 111=[]:=rfl
theorem etn111:qb qp 111=[]:=rfl
theorem efl111:isIn qw 111=true:=rfl
theorem etk112:qb qo 112=[]:=rfl
theorem etn112:qb qp 112=[]:=rfl
theorem efl112:isIn qw 112=false:=rfl
theorem etk113:qb qo 113=[]:=rfl
theorem etn113:qb qp 113=[]:=rfl
theorem efl113:isIn qw 113=false:=rfl
theorem etk116:qb qo 116=[]:=rfl
theorem etn116:qb qp 116=[]:=rfl
theorem efl116:isIn qw 116=true:=rfl
theorem etk117:qb qo 117=[]:=rfl
theorem etn117:qb qp 117=[]:=rfl
theorem efl117:isIn qw 117=false:=rfl
theorem etk126:qb qo 126=[]:=rfl
theorem etn126:qb qp 126=[]:=rfl
theorem efl126:isIn qw 126=true:=rfl
theorem etk127:qb qo 127=[]:=rfl
theorem etn127:qb qp 127=[]:=rfl
theorem efl127:isIn qw 127=true:=rfl
theorem etk128:qb qo 128=[]:=rfl
theorem etn128:qb qp 128=[]:=rfl
theorem efl128:isIn qw 128=true:=rfl
theorem etk129:qb qo 129=[]:=rfl
theorem etn129:qb qp 129=[]:=rfl
theorem efl129:isIn qw 129=true:=rfl
theorem etk132:qb qo 132=[]:=rfl
theorem etn132:qb qp 132=[]:=rfl
theorem efl132:isIn qw 132=true:=rfl
theorem etk141:qb qo 141=[]:=rfl
theorem etn141:qb qp 141=[]:=rfl
theorem efl141:isIn qw 141=true:=rfl
theorem etk142:qb qo 142=[]:=rfl
theorem etn142:qb qp 142=[]:=rfl
theorem efl142:isIn qw 142=true:=rfl
theorem etk143:qb qo 143=[]:=rfl
theorem etn143:qb qp 143=[]:=rfl
theorem efl143:isIn qw 143=true:=rfl
theorem etk144:qb qo 144=[]:=rfl
theorem etn144:qb qp 144=[]:=rfl
theorem efl144:isIn qw 144=false:=rfl
theorem etk145:qb qo 145=[]:=rfl
theorem etn145:qb qp 145=[]:=rfl
theorem efl145:isIn qw 145=false:=rfl
theorem etk146:qb qo 146=[]:=rfl
theorem etn146:qb qp 146=[]:=rfl
theorem efl146:isIn qw 146=true:=rfl
theorem etk152:qb qo 152=[]:=rfl
theorem etn152:qb qp 152=[]:=rfl
theorem efl152:isIn qw 152=false:=rfl
theorem etk158:qb qo 158=[]:=rfl
theorem etn158:qb qp 158=[]:=rfl
theorem efl158:isIn qw 158=true:=rfl
theorem etk159:qb qo 159=[]:=rfl
theorem etn159:qb qp 159=[]:=rfl
theorem efl159:isIn qw 159=true:=rfl
theorem etk178:qb qo 178=[]:=rfl
theorem etn178:qb qp 178=[]:=rfl
theorem efl178:isIn qw 178=true:=rfl
theorem etk179:qb qo 179=[]:=rfl
theorem etn179:qb qp 179=[]:=rfl
theorem efl179:isIn qw 179=true:=rfl
theorem etk187:qb qo 187=[]:=rfl
theorem etn187:qb qp 187=[]:=rfl
theorem efl187:isIn qw 187=true:=rfl
theorem etk188:qb qo 188=[]:=rfl
theorem etn188:qb qp 188=[]:=rfl
theorem efl188:isIn qw 188=true:=rfl
theorem etk190:qb qo 190=[]:=rfl
theorem etn190:qb qp 190=[]:=rfl
theorem efl190:isIn qw 190=true:=rfl
theorem etk192:qb qo 192=[]:=rfl
theorem etn192:qb qp 192=[]:=rfl
theorem efl192:isIn qw 192=true:=rfl
theorem etk203:qb qo 203=[]:=rfl
theorem etn203:qb qp 203=[]:=rfl
theorem efl203:isIn qw 203=true:=rfl
theorem etk204:qb qo 204=[]:=rfl
theorem etn204:qb qp 204=[]:=rfl
theorem efl204:isIn qw 204=false:=rfl
theorem etk209:qb qo 209=[]:=rfl
theorem etn209:qb qp 209=[]:=rfl
theorem efl209:isIn qw 209=true:=rfl
theorem etk210:qb qo 210=[]:=rfl
theorem etn210:qb qp 210=[]:=rfl
theorem efl210:isIn qw 210=true:=rfl
theorem etk211:qb qo 211=[]:=rfl
theorem etn211:qb qp 211=[]:=rfl
theorem efl211:isIn qw 211=true:=rfl
theorem etk219:qb qo 219=[]:=rfl
theorem etn219:qb qp 219=[]:=rfl
theorem efl219:isIn qw 219=true:=rfl
theorem eu8_34:isIn u8sT 34=true:=rfl
end
end Go.Proofs.YtloekbdlmikkcaaGreatDoor.G
