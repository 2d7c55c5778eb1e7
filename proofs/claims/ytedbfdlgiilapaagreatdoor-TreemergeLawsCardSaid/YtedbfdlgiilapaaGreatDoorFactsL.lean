/- What the table gives a symbolic run. No condition. -/
import Derived.Test.YtedbfdlgiilapaaGreatDoorTabL
import Derived.Test.YtedbfdlgiilapaaGreatDoorZvL7
set_option linter.unusedSimpArgs false
set_option linter.unusedVariables false
namespace Go.Proofs.YtedbfdlgiilapaaGreatDoor.G
open Go Go.Zv Go.Zv.G Go.Proofs Go.Proofs.YtedbfdlgiilapaaGreatDoor
set_option maxRecDepth 100000
section
variable (i:FnI) (call:Nat→List V→Option (V×List V))
theorem ety3:(envOf tab i call).tys 3=some ti3:=rfl
theorem ety4:(envOf tab i call).tys 4=some ti4:=rfl
theorem ety5:(envOf tab i call).tys 5=some ti5:=rfl
theorem ety9:(envOf tab i call).tys 9=some ti9:=rfl
theorem ety22:(envOf tab i call).tys 22=some ti22:=rfl
theorem ety23:(envOf tab i call).tys 23=some ti23:=rfl
theorem ety37:(envOf tab i call).tys 37=some ti37:=rfl
theorem ety38:(envOf tab i call).tys 38=some ti38:=rfl
theorem ety59:(envOf tab i call).tys 59=some ti59:=rfl
theorem ety62:(envOf tab i call).tys 62=some ti62:=rfl
theorem ety65:(envOf tab i call).tys 65=some ti65:=rfl
theorem ety72:(envOf tab i call).tys 72=some ti72:=rfl
theorem ety100:(envOf tab i call).tys 100=some ti100:=rfl
theorem ety109:(envOf tab i call).tys 109=some ti109:=rfl
theorem ety114:(envOf tab i call).tys 114=some ti114:=rfl
theorem ety116:(envOf tab i call).tys 116=some ti116:=rfl
theorem ety119:(envOf tab i call).tys 119=some ti119:=rfl
theorem ety121:(envOf tab i call).tys 121=some ti121:=rfl
theorem ety122:(envOf tab i call).tys 122=some ti122:=rfl
theorem ety124:(envOf tab i call).tys 124=some ti124:=rfl
theorem ety147:(envOf tab i call).tys 147=some ti147:=rfl
theorem ety152:(envOf tab i call).tys 152=some ti152:=rfl
theorem ety153:(envOf tab i call).tys 153=some ti153:=rfl
theorem ety157:(envOf tab i call).tys 157=some ti157:=rfl
theorem ety162:(envOf tab i call).tys 162=some ti162:=rfl
theorem ety166:(envOf tab i call).tys 166=some ti166:=rfl
theorem ety168:(envOf tab i call).tys 168=some ti168:=rfl
theorem ety169:(envOf tab i call).tys 169=some ti169:=rfl
theorem ety184:(envOf tab i call).tys 184=some ti184:=rfl
theorem ety193:(envOf tab i call).tys 193=some ti193:=rfl
theorem ety197:(envOf tab i call).tys 197=some ti197:=rfl
theorem ety209:(envOf tab i call).tys 209=some ti209:=rfl
theorem ety215:(envOf tab i call).tys 215=some ti215:=rfl
theorem ety217:(envOf tab i call).tys 217=some ti217:=rfl
theorem ety251:(envOf tab i call).tys 251=some ti251:=rfl
theorem elib (t:Nat):(envOf tab i call).lib t=libsT.get t:=rfl
theorem eglob (g:Nat):(envOf tab i call).glob g=globT.get g:=rfl
theorem eeqs (t:Nat):(envOf tab i call).eqs t=isIn eqsT t:=rfl
theorem elib_3:libsT.get 3=none:=rfl
theorem elib_4:libsT.get 4=none:=rfl
theorem elib_5:libsT.get 5=none:=rfl
theorem elib_9:libsT.get 9=none:=rfl
theorem elib_22:libsT.get 22=none:=rfl
theorem elib_23:libsT.get 23=none:=rfl
theorem elib_37:libsT.get 37=none:=rfl
theorem elib_38:libsT.get 38=none:=rfl
theorem elib_59:libsT.get 59=none:=rfl
theorem elib_62:libsT.get 62=none:=rfl
theorem elib_65:libsT.get 65=none:=rfl
theorem elib_72:libsT.get 72=none:=rfl
theorem elib_100:libsT.get 100=none:=rfl
theorem elib_109:libsT.get 109=none:=rfl
theorem elib_114:libsT.get 114=none:=rfl
theorem elib_116:libsT.get 116=none:=rfl
theorem elib_119:libsT.get 119=none:=rfl
theorem elib_121:libsT.get 121=none:=rfl
theorem elib_122:libsT.get 122=none:=rfl
theorem elib_124:libsT.get 124=none:=rfl
theorem elib_147:libsT.get 147=none:=rfl
theorem elib_152:libsT.get 152=none:=rfl
theorem elib_153:libsT.get 153=none:=rfl
theorem elib_157:libsT.get 157=none:=rfl
theorem elib_162:libsT.get 162=none:=rfl
theorem elib_166:libsT.get 166=none:=rfl
theorem elib_168:libsT.get 168=none:=rfl
theorem elib_169:libsT.get 169=none:=rfl
theorem elib_184:libsT.get 184=none:=rfl
theorem elib_193:libsT.get 193=none:=rfl
theorem elib_197:libsT.get 197=none:=rfl
theorem elib_209:libsT.get 209=none:=rfl
theorem elib_215:libsT.get 215=none:=rfl
theorem elib_217:libsT.get 217=none:=rfl
theorem elib_251:libsT.get 251=none:=rfl
theorem elib_201:libsT.get 201=some (0,5):=rfl
theorem eeqs_72:isIn eqsT 72=true:=rfl
theorem eeqs_119:isIn eqsT 119=true:=rfl
theorem eeqs_215:isIn eqsT 215=true:=rfl
theorem tk119:ti119.kind=.arr 3 1 3:=rfl
theorem ts119:ti119.size=3:=rfl
theorem tz119:ti119.zero=arrV 3 .i64 zeroA:=rfl
theorem tb119 (a:Nat→Int):boxed ti119.sk (arrV 3 .i64 a)=arrV 3 .i64 a:=rfl
theorem tbz119:boxed ti119.sk ti119.zero=arrV 3 .i64 zeroA:=rfl
theorem tc119 (a:Nat→Int):canon ti119.sk (arrV 3 .i64 a)=arrV 3 .i64 a:=rfl
theorem tcz119:canon ti119.sk ti119.zero=arrV 3 .i64 zeroA:=rfl
theorem tu119 (a:Nat→Int):canon ti119.sk (cut (arrV 3 .i64 a) 0 ti119.size)=arrV 3 .i64 a:=rfl
theorem te119 (a b:Nat→Int):eqCells ti119.sk (arrV 3 .i64 a) (arrV 3 .i64 b)=some (eqA 3 a b):=eqCells_arr 3 .i64 a b
theorem efixed:(envOf tab i call).fixed=i.fixed:=rfl
theorem enests:(envOf tab i call).nests=i.nests:=rfl
theorem eshares:(envOf tab i call).shares=i.shares:=rfl
theorem ekeep (k:Nat):(envOf tab i call).keep k=Go.Zv.look k i.keep:=rfl
theorem eplan (k:Nat):(envOf tab i call).plan k=Go.Zv.look k i.plans:=rfl
theorem eu8 (k:Nat):(envOf tab i call).u8s k=isIn u8sT k:=rfl
theorem eflat (k:Nat):(envOf tab i call).flat k=isIn flatsT k:=rfl
theorem etakes (k:Nat):(envOf tab i call).takes k=listAt takesT k:=rfl
theorem eturns (k:Nat):(envOf tab i call).turns k=listAt turnsT k:=rfl
theorem ecall {R:Type} (f:Nat) (args:List V) (K:V→List V→Option R):(envOf tab i call).call f args K=(match call f args with
 | some (res,outs)=>K res outs
 | none=>none):=rfl
theorem etk7:listAt takesT 7=[]:=rfl
theorem etn7:listAt turnsT 7=[]:=rfl
theorem efl7:isIn flatsT 7=true:=rfl
theorem etk25:listAt takesT 25=[]:=rfl
theorem etn25:listAt turnsT 25=[]:=rfl
theorem efl25:isIn flatsT 25=true:=rfl
theorem etk26:listAt takesT 26=[]:=rfl
theorem etn26:listAt turnsT 26=[]:=rfl
theorem efl26:isIn flatsT 26=true:=rfl
theorem etk27:listAt takesT 27=[]:=rfl
theorem etn27:listAt turnsT 27=[1]:=rfl
theorem efl27:isIn flatsT 27=false:=rfl
theorem etk28:listAt takesT 28=[]:=rfl
theorem etn28:listAt turnsT 28=[]:=rfl
theorem efl28:isIn flatsT 28=false:=rfl
theorem etk29:listAt takesT 29=[]:=rfl
theorem etn29:listAt turnsT 29=[]:=rfl
theorem efl29:isIn flatsT 29=false:=rfl
theorem etk30:listAt takesT 30=[]:=rfl
theorem etn30:listAt turnsT 30=[]:=rfl
theorem efl30:isIn flatsT 30=false:=rfl
theorem etk31:listAt takesT 31=[]:=rfl
theorem etn31:listAt turnsT 31=[]:=rfl
theorem efl31:isIn flatsT 31=true:=rfl
theorem etk33:listAt takesT 33=[]:=rfl
theorem etn33:listAt turnsT 33=[]:=rfl
theorem efl33:isIn flatsT 33=true:=rfl
theorem etk34:listAt takesT 34=[]:=rfl
theorem etn34:listAt turnsT 34=[]:=rfl
theorem efl34:isIn flatsT 34=false:=rfl
theorem etk35:listAt takesT 35=[]:=rfl
theorem etn35:listAt turnsT 35=[]:=rfl
theorem efl35:isIn flatsT 35=false:=rfl
theorem etk37:listAt takesT 37=[]:=rfl
theorem etn37:listAt turnsT 37=[]:=rfl
theorem efl37:isIn flatsT 37=true:=rfl
theorem etk38:listAt takesT 38=[]:=rfl
theorem etn38:listAt turnsT 38=[]:=rfl
theorem efl38:isIn flatsT 38=true:=rfl
theorem etk39:listAt takesT 39=[]:=rfl
theorem etn39:listAt turnsT 39=[]:=rfl
theorem efl39:isIn flatsT 39=true:=rfl
theorem etk40:listAt takesT 40=[]:=rfl
theorem etn40:listAt turnsT 40=[]:=rfl
theorem efl40:isIn flatsT 40=true:=rfl
theorem etk41:listAt takesT 41=[]:=rfl
theorem etn41:listAt turnsT 41=[]:=rfl
theorem efl41:isIn flatsT 41=true:=rfl
theorem etk42:listAt takesT 42=[]:=rfl
theorem etn42:listAt turnsT 42=[]:=rfl
theorem efl42:isIn flatsT 42=true:=rfl
theorem etk52:listAt takesT 52=[]:=rfl
theorem etn52:listAt turnsT 52=[]:=rfl
theorem efl52:isIn flatsT 52=false:=rfl
theorem etk63:listAt takesT 63=[]:=rfl
theorem etn63:listAt turnsT 63=[]:=rfl
theorem efl63:isIn flatsT 63=true:=rfl
theorem etk64:listAt takesT 64=[]:=rfl
theorem etn64:listAt turnsT 64=[]:=rfl
theorem efl64:isIn flatsT 64=true:=rfl
theorem etk65:listAt takesT 65=[]:=rfl
theorem etn65:listAt turnsT 65=[]:=rfl
theorem efl65:isIn flatsT 65=true:=rfl
theorem etk66:listAt takesT 66=[]:=rfl
theorem etn66:listAt turnsT 66=[]:=rfl
theorem efl66:isIn flatsT 66=true:=rfl
theorem etk67:listAt takesT 67=[]:=rfl
theorem etn67:listAt turnsT 67=[0]:=rfl
theorem efl67:isIn flatsT 67=false:=rfl
theorem etk68:listAt takesT 68=[]:=rfl
theorem etn68:listAt turnsT 68=[]:=rfl
theorem efl68:isIn flatsT 68=true:=rfl
theorem etk69:listAt takesT 69=[]:=rfl
theorem etn69:listAt turnsT 69=[]:=rfl
theorem efl69:isIn flatsT 69=false:=rfl
theorem etk70:listAt takesT 70=[]:=rfl
theorem etn70:listAt turnsT 70=[]:=rfl
theorem efl70:isIn flatsT 70=false:=rfl
theorem etk71:listAt takesT 71=[]:=rfl
theorem etn71:listAt turnsT 71=[]:=rfl
theorem efl71:isIn flatsT 71=false:=rfl
theorem etk72:listAt takesT 72=[]:=rfl
theorem etn72:listAt turnsT 72=[1,2,3,4,5]:=rfl
theorem efl72:isIn flatsT 72=false:=rfl
theorem etk73:listAt takesT 73=[]:=rfl
theorem etn73:listAt turnsT 73=[]:=rfl
theorem efl73:isIn flatsT 73=false:=rfl
theorem etk74:listAt takesT 74=[]:=rfl
theorem etn74:listAt turnsT 74=[]:=rfl
theorem efl74:isIn flatsT 74=true:=rfl
theorem etk75:listAt takesT 75=[]:=rfl
theorem etn75:listAt turnsT 75=[]:=rfl
theorem efl75:isIn flatsT 75=true:=rfl
theorem etk76:listAt takesT 76=[]:=rfl
theorem etn76:listAt turnsT 76=[]:=rfl
theorem efl76:isIn flatsT 76=true:=rfl
theorem etk77:listAt takesT 77=[]:=rfl
theorem etn77:listAt turnsT 77=[]:=rfl
theorem efl77:isIn flatsT 77=true:=rfl
theorem etk78:listAt takesT 78=[]:=rfl
theorem etn78:listAt turnsT 78=[]:=rfl
theorem efl78:isIn flatsT 78=true:=rfl
theorem etk79:listAt takesT 79=[]:=rfl
theorem etn79:listAt turnsT 79=[]:=rfl
theorem efl79:isIn flatsT 79=false:=rfl
theorem etk95:listAt takesT 95=[]:=rfl
theorem etn95:listAt turnsT 95=[]:=rfl
theorem efl95:isIn flatsT 95=true:=rfl
theorem etk96:listAt takesT 96=[]:=rfl
theorem etn96:listAt turnsT 96=[]:=rfl
theorem efl96:isIn flatsT 96=false:=rfl
theorem etk97:listAt takesT 97=[0]:=rfl
theorem etn97:listAt turnsT 97=[0]:=rfl
theorem efl97:isIn flatsT 97=false:=rfl
theorem etk98:listAt takesT 98=[0]:=rfl
theorem etn98:listAt turnsT 98=[]:=rfl
theorem efl98:isIn flatsT 98=false:=rfl
theorem etk99:listAt takesT 99=[]:=rfl
theorem etn99:listAt turnsT 99=[]:=rfl
theorem efl99:isIn flatsT 99=true:=rfl
theorem etk100:listAt takesT 100=[]:=rfl
theorem etn100:listAt turnsT 100=[]:=rfl
theorem efl100:isIn flatsT 100=true:=rfl
theorem etk101:listAt takesT 101=[]:=rfl
theorem etn101:listAt turnsT 101=[]:=rfl
theorem efl101:isIn flatsT 101=true:=rfl
theorem etk102:listAt takesT 102=[]:=rfl
theorem etn102:listAt turnsT 102=[]:=rfl
theorem efl102:isIn flatsT 102=false:=rfl
theorem etk103:listAt takesT 103=[]:=rfl
theorem etn103:listAt turnsT 103=[]:=rfl
theorem efl103:isIn flatsT 103=true:=rfl
theorem etk104:listAt takesT 104=[]:=rfl
theorem etn104:listAt turnsT 104=[]:=rfl
theorem efl104:isIn flatsT 104=true:=rfl
theorem etk105:listAt takesT 105=[]:=rfl
theorem etn105:listAt turnsT 105=[]:=rfl
theorem efl105:isIn flatsT 105=false:=rfl
theorem etk106:listAt takesT 106=[]:=rfl
theorem etn106:listAt turnsT 106=[]:=rfl
theorem efl106:isIn flatsT 106=false:=rfl
theorem etk107:listAt takesT 107=[]:=rfl
theorem etn107:listAt turnsT 107=[]:=rfl
theorem efl107:isIn flatsT 107=true:=rfl
theorem etk108:listAt takesT 108=[]:=rfl
theorem etn108:listAt turnsT 108=[]:=rfl
theorem efl108:isIn flatsT 108=false:=rfl
theorem etk109:listAt takesT 109=[]:=rfl
theorem etn109:listAt turnsT 109=[]:=rfl
theorem efl109:isIn flatsT 109=true:=rfl
theorem etk110:listAt takesT 110=[]:=rfl
theorem etn110:listAt turnsT 110=[]:=rfl
theorem efl110:isIn flatsT 110=true:=rfl
theorem etk111:listAt takesT 111=[]:=rfl
theorem etn111:listAt turnsT 111=[]:=rfl
theorem efl111:isIn flatsT 111=true:=rfl
theorem etk112:listAt takesT 112=[]:=rfl
theorem etn112:listAt turnsT 112=[]:=rfl
theorem efl112:isIn flatsT 112=true:=rfl
theorem etk127:listAt takesT 127=[]:=rfl
theorem etn127:listAt turnsT 127=[]:=rfl
theorem efl127:isIn flatsT 127=true:=rfl
theorem etk128:listAt takesT 128=[]:=rfl
theorem etn128:listAt turnsT 128=[]:=rfl
theorem efl128:isIn flatsT 128=true:=rfl
theorem etk129:listAt takesT 129=[]:=rfl
theorem etn129:listAt turnsT 129=[]:=rfl
theorem efl129:isIn flatsT 129=false:=rfl
theorem etk140:listAt takesT 140=[]:=rfl
theorem etn140:listAt turnsT 140=[]:=rfl
theorem efl140:isIn flatsT 140=false:=rfl
theorem etk143:listAt takesT 143=[]:=rfl
theorem etn143:listAt turnsT 143=[]:=rfl
theorem efl143:isIn flatsT 143=true:=rfl
theorem etk147:listAt takesT 147=[]:=rfl
theorem etn147:listAt turnsT 147=[]:=rfl
theorem efl147:isIn flatsT 147=true:=rfl
theorem etk148:listAt takesT 148=[]:=rfl
theorem etn148:listAt turnsT 148=[]:=rfl
theorem efl148:isIn flatsT 148=false:=rfl
theorem etk149:listAt takesT 149=[]:=rfl
theorem etn149:listAt turnsT 149=[]:=rfl
theorem efl149:isIn flatsT 149=true:=rfl
theorem etk151:listAt takesT 151=[]:=rfl
theorem etn151:listAt turnsT 151=[]:=rfl
theorem efl151:isIn flatsT 151=true:=rfl
theorem etk152:listAt takesT 152=[]:=rfl
theorem etn152:listAt turnsT 152=[]:=rfl
theorem efl152:isIn flatsT 152=true:=rfl
theorem etk153:listAt takesT 153=[]:=rfl
theorem etn153:listAt turnsT 153=[]:=rfl
theorem efl153:isIn flatsT 153=true:=rfl
theorem etk154:listAt takesT 154=[]:=rfl
theorem etn154:listAt turnsT 154=[]:=rfl
theorem efl154:isIn flatsT 154=true:=rfl
theorem etk155:listAt takesT 155=[]:=rfl
theorem etn155:listAt turnsT 155=[]:=rfl
theorem efl155:isIn flatsT 155=true:=rfl
theorem etk156:listAt takesT 156=[]:=rfl
theorem etn156:listAt turnsT 156=[]:=rfl
theorem efl156:isIn flatsT 156=true:=rfl
theorem etk157:listAt takesT 157=[]:=rfl
theorem etn157:listAt turnsT 157=[]:=rfl
theorem efl157:isIn flatsT 157=true:=rfl
theorem etk158:listAt takesT 158=[]:=rfl
theorem etn158:listAt turnsT 158=[]:=rfl
theorem efl158:isIn flatsT 158=true:=rfl
theorem etk159:listAt takesT 159=[]:=rfl
theorem etn159:listAt turnsT 159=[]:=rfl
theorem efl159:isIn flatsT 159=true:=rfl
theorem etk164:listAt takesT 164=[]:=rfl
theorem etn164:listAt turnsT 164=[]:=rfl
theorem efl164:isIn flatsT 164=true:=rfl
theorem etk165:listAt takesT 165=[]:=rfl
theorem etn165:listAt turnsT 165=[]:=rfl
theorem efl165:isIn flatsT 165=false:=rfl
theorem etk182:listAt takesT 182=[]:=rfl
theorem etn182:listAt turnsT 182=[]:=rfl
theorem efl182:isIn flatsT 182=true:=rfl
theorem etk183:listAt takesT 183=[]:=rfl
theorem etn183:listAt turnsT 183=[]:=rfl
theorem efl183:isIn flatsT 183=true:=rfl
theorem etk188:listAt takesT 188=[]:=rfl
theorem etn188:listAt turnsT 188=[]:=rfl
theorem efl188:isIn flatsT 188=true:=rfl
theorem etk189:listAt takesT 189=[]:=rfl
theorem etn189:listAt turnsT 189=[]:=rfl
theorem efl189:isIn flatsT 189=true:=rfl
theorem etk190:listAt takesT 190=[]:=rfl
theorem etn190:listAt turnsT 190=[]:=rfl
theorem efl190:isIn flatsT 190=true:=rfl
theorem etk191:listAt takesT 191=[]:=rfl
theorem etn191:listAt turnsT 191=[]:=rfl
theorem efl191:isIn flatsT 191=true:=rfl
theorem etk204:listAt takesT 204=[]:=rfl
theorem etn204:listAt turnsT 204=[]:=rfl
theorem efl204:isIn flatsT 204=true:=rfl
theorem etk205:listAt takesT 205=[]:=rfl
theorem etn205:listAt turnsT 205=[]:=rfl
theorem efl205:isIn flatsT 205=true:=rfl
theorem etk214:listAt takesT 214=[]:=rfl
theorem etn214:listAt turnsT 214=[]:=rfl
theorem efl214:isIn flatsT 214=true:=rfl
theorem etk217:listAt takesT 217=[]:=rfl
theorem etn217:listAt turnsT 217=[]:=rfl
theorem efl217:isIn flatsT 217=true:=rfl
theorem etk220:listAt takesT 220=[]:=rfl
theorem etn220:listAt turnsT 220=[]:=rfl
theorem efl220:isIn flatsT 220=true:=rfl
theorem etk224:listAt takesT 224=[]:=rfl
theorem etn224:listAt turnsT 224=[]:=rfl
theorem efl224:isIn flatsT 224=true:=rfl
theorem etk225:listAt takesT 225=[]:=rfl
theorem etn225:listAt turnsT 225=[]:=rfl
theorem efl225:isIn flatsT 225=true:=rfl
theorem etk227:listAt takesT 227=[]:=rfl
theorem etn227:listAt turnsT 227=[]:=rfl
theorem efl227:isIn flatsT 227=true:=rfl
theorem etk228:listAt takesT 228=[]:=rfl
theorem etn228:listAt turnsT 228=[]:=rfl
theorem efl228:isIn flatsT 228=true:=rfl
theorem etk231:listAt takesT 231=[]:=rfl
theorem etn231:listAt turnsT 231=[]:=rfl
theorem efl231:isIn flatsT 231=true:=rfl
theorem eu8_23:isIn u8sT 23=true:=rfl
end
end Go.Proofs.YtedbfdlgiilapaaGreatDoor.G
