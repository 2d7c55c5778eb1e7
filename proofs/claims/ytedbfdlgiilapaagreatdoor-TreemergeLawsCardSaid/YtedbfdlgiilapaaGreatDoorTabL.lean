/- The table of the functions that the law reaches. No condition. -/
import Derived.Test.YtedbfdlgiilapaaGreatDoorZvL6
import Derived.Test.YtedbfdlgiilapaaGreatDoorZvL7
import Derived.Test.YtedbfdlgiilapaaGreatDoorGlobL
import Derived.Test.YtedbfdlgiilapaaGreatDoorProg
import Derived.KernelRfl
set_option linter.unusedSimpArgs false
set_option linter.unusedVariables false
namespace Go.Proofs.YtedbfdlgiilapaaGreatDoor.G
open Go Go.Zv Go.Zv.G Go.Proofs Go.Proofs.YtedbfdlgiilapaaGreatDoor
set_option maxRecDepth 100000
set_option maxHeartbeats 0
noncomputable def ti3:TI:=⟨.int .i64,1,[.int .i64],[.int .i64 0],[]⟩
noncomputable def ti4:TI:=⟨.bool,1,[.bool],[.bool false],[]⟩
noncomputable def ti5:TI:=⟨.int .u8,1,[.int .u8],[.int .u8 0],[]⟩
noncomputable def ti9:TI:=⟨.str,1,[.str],[.str []],[]⟩
noncomputable def ti22:TI:=⟨.slice 2 40,1,[.slice 2 40],[.nilsl],[.str [],.sl 1 false []]⟩
noncomputable def ti23:TI:=⟨.slice 1 1,1,[.slice 1 1],[.nilsl],[.int .u8 0]⟩
noncomputable def ti37:TI:=⟨.struct [(0,(9,1)),(1,(23,1))],2,[.str,.slice 1 1],[.str [],.nilsl],[]⟩
noncomputable def ti38:TI:=⟨.int .i64,1,[.int .i64],[.int .i64 0],[]⟩
noncomputable def ti59:TI:=⟨.slice 2 24,1,[.slice 2 24],[.nilsl],[.str [],.int .u8 0]⟩
noncomputable def ti62:TI:=⟨.slice 4 80,1,[.slice 4 80],[.nilsl],[.int .u8 0,.sl 1 false [],.sl 1 false [],.sl 1 false []]⟩
noncomputable def ti65:TI:=⟨.slice 1 16,1,[.slice 1 16],[.nilsl],[.str []]⟩
noncomputable def ti72:TI:=⟨.struct [(0,(9,1)),(1,(5,1))],2,[.str,.int .u8],[.str [],.int .u8 0],[]⟩
noncomputable def ti100:TI:=⟨.fn,1,[.fn],[.ud],[]⟩
noncomputable def ti109:TI:=⟨.struct [(0,(4,1)),(1,(23,1))],2,[.bool,.slice 1 1],[.bool false,.nilsl],[]⟩
noncomputable def ti114:TI:=⟨.arr 3 1 65,3,[.slice 1 16,.slice 1 16,.slice 1 16],[.nilsl,.nilsl,.nilsl],[.nilsl]⟩
noncomputable def ti116:TI:=⟨.slice 1 8,1,[.slice 1 8],[.nilsl],[.int .i64 0]⟩
noncomputable def ti119:TI:=⟨.arr 3 1 3,3,[.int .i64,.int .i64,.int .i64],[.int .i64 0,.int .i64 0,.int .i64 0],[.int .i64 0]⟩
noncomputable def ti121:TI:=⟨.struct [(0,(5,1)),(1,(65,1)),(2,(65,1)),(3,(65,1))],4,[.int .u8,.slice 1 16,.slice 1 16,.slice 1 16],[.int .u8 0,.nilsl,.nilsl,.nilsl],[]⟩
noncomputable def ti122:TI:=⟨.arr 3 1 65,3,[.slice 1 16,.slice 1 16,.slice 1 16],[.nilsl,.nilsl,.nilsl],[.nilsl]⟩
noncomputable def ti124:TI:=⟨.fn,1,[.fn],[.ud],[]⟩
noncomputable def ti147:TI:=⟨.arr 3 1 22,3,[.slice 2 40,.slice 2 40,.slice 2 40],[.nilsl,.nilsl,.nilsl],[.nilsl]⟩
noncomputable def ti152:TI:=⟨.fn,1,[.fn],[.ud],[]⟩
noncomputable def ti153:TI:=⟨.arr 3 2 109,6,[.bool,.slice 1 1,.bool,.slice 1 1,.bool,.slice 1 1],[.bool false,.nilsl,.bool false,.nilsl,.bool false,.nilsl],[.bool false,.nilsl]⟩
noncomputable def ti157:TI:=⟨.slice 2 16,1,[.slice 2 16],[.nilsl],[.int .i64 0,.int .i64 0]⟩
noncomputable def ti162:TI:=⟨.struct [(0,(3,1)),(1,(3,1))],2,[.int .i64,.int .i64],[.int .i64 0,.int .i64 0],[]⟩
noncomputable def ti166:TI:=⟨.slice 3 56,1,[.slice 3 56],[.nilsl],[.int .i64 0,.sl 1 false [],.sl 1 false []]⟩
noncomputable def ti168:TI:=⟨.struct [(0,(9,1)),(1,(4,1)),(2,(4,1)),(3,(166,1))],4,[.str,.bool,.bool,.slice 3 56],[.str [],.bool false,.bool false,.nilsl],[]⟩
noncomputable def ti169:TI:=⟨.slice 4 48,1,[.slice 4 48],[.nilsl],[.str [],.bool false,.bool false,.sl 3 false []]⟩
noncomputable def ti184:TI:=⟨.fn,1,[.fn],[.ud],[]⟩
noncomputable def ti193:TI:=⟨.slice 1 24,1,[.slice 1 24],[.nilsl],[.nilsl]⟩
noncomputable def ti197:TI:=⟨.int .u64,1,[.int .u64],[.int .u64 0],[]⟩
noncomputable def ti209:TI:=⟨.slice 1 24,1,[.slice 1 24],[.nilsl],[.nilsl]⟩
noncomputable def ti215:TI:=⟨.arr 3 1 4,3,[.bool,.bool,.bool],[.bool false,.bool false,.bool false],[.bool false]⟩
noncomputable def ti217:TI:=⟨.fn,1,[.fn],[.ud],[]⟩
noncomputable def ti251:TI:=⟨.struct [(0,(3,1)),(1,(65,1)),(2,(65,1))],3,[.int .i64,.slice 1 16,.slice 1 16],[.int .i64 0,.nilsl,.nilsl],[]⟩
noncomputable def fi7:FnI:=⟨Tryz.f7,codeOf Tryz.f7,[],[],[],[(4,[0,1,2,7]),(12,[0,1,2,7,8,9,11]),(13,[0,1,2,7,8,9,11,13]),(29,[0,1,2,7,8,11,18])],[]⟩
noncomputable def fi25:FnI:=⟨Tryz.f25,codeOf Tryz.f25,[],[],[],[],[]⟩
noncomputable def fi26:FnI:=⟨Tryz.f26,codeOf Tryz.f26,[],[],[],[],[]⟩
noncomputable def fi27:FnI:=⟨Tryz.f27,codeOf Tryz.f27,[],[],[1],[(7,[0,1,2,10,11,30,31,32]),(13,[0,1,2,10,11,13,14,15,16,17,30,31,32]),(21,[0,1,2,10,11,13,17,30,31,32])],[]⟩
noncomputable def fi28:FnI:=⟨Tryz.f28,codeOf Tryz.f28,[49,50],[],[],[(2,[3,4,5,24,25]),(14,[3,4,5,12,14,16,17,18,19]),(17,[3,4,5,12,14,16,17,18,19]),(19,[3,4,5,12,14,16,17,18,19,20])],[]⟩
noncomputable def fi29:FnI:=⟨Tryz.f29,codeOf Tryz.f29,[],[],[],[(4,[0,3,4,5])],[]⟩
noncomputable def fi30:FnI:=⟨Tryz.f30,codeOf Tryz.f30,[],[2],[],[(8,[6,21,22,23])],[]⟩
noncomputable def fi31:FnI:=⟨Tryz.f31,codeOf Tryz.f31,[],[],[],[(4,[0,1,5])],[(6,⟨[0,1,5,6],[⟨2,true,[17,18],[19],[]⟩,⟨3,true,[19],[20],[2]⟩,⟨4,true,[20],[21],[2,3]⟩,⟨7,true,[22,23],[24],[]⟩,⟨8,true,[24],[25],[7]⟩,⟨9,true,[25],[26],[7,8]⟩,⟨10,true,[21,26],[27],[2,3,4,7,8,9]⟩,⟨11,true,[27],[28],[2,3,4,7,8,9,10]⟩,⟨12,true,[0,28],[29],[2,3,4,7,8,9,10,11]⟩,⟨13,true,[5,28],[30],[2,3,4,7,8,9,10,11]⟩,⟨14,true,[28,29,30],[31],[2,3,4,7,8,9,10,11,12,13]⟩,⟨15,true,[28,31],[32],[2,3,4,7,8,9,10,11,12,13,14]⟩,⟨16,true,[28,32],[33],[2,3,4,7,8,9,10,11,12,13,14,15]⟩,⟨17,false,[28,33],[34],[2,3,4,7,8,9,10,11,12,13,14,15,16]⟩,⟨18,true,[1,28],[35],[2,3,4,7,8,9,10,11]⟩,⟨19,true,[5,28],[36],[2,3,4,7,8,9,10,11]⟩,⟨20,true,[28,35,36],[37],[2,3,4,7,8,9,10,11,18,19]⟩,⟨21,true,[28,37],[38],[2,3,4,7,8,9,10,11,18,19,20]⟩,⟨22,true,[28,38],[39],[2,3,4,7,8,9,10,11,18,19,20,21]⟩,⟨23,false,[28,39],[40],[2,3,4,7,8,9,10,11,18,19,20,21,22]⟩,⟨24,true,[28,34,40],[41],[2,3,4,7,8,9,10,11,12,13,14,15,16,17,18,19,20,21,22,23]⟩,⟨25,true,[28,41],[42],[2,3,4,7,8,9,10,11,12,13,14,15,16,17,18,19,20,21,22,23,24]⟩],[]⟩)]⟩
noncomputable def fi33:FnI:=⟨Tryz.f33,codeOf Tryz.f33,[],[],[],[(4,[0,1,5])],[]⟩
noncomputable def fi34:FnI:=⟨Tryz.f34,codeOf Tryz.f34,[8],[],[],[],[]⟩
noncomputable def fi35:FnI:=⟨Tryz.f35,codeOf Tryz.f35,[],[],[],[],[]⟩
noncomputable def fi37:FnI:=⟨Tryz.f37,codeOf Tryz.f37,[],[],[],[(4,[0,11,12,13]),(10,[38,39,40])],[(6,⟨[],[⟨0,true,[4],[18],[]⟩,⟨1,true,[4,18],[19],[0]⟩,⟨2,true,[19],[20],[0,1]⟩],[3,4,5,6,7,8,9,10,11,12,13,14,15,16,17,18]⟩)]⟩
noncomputable def fi38:FnI:=⟨Tryz.f38,codeOf Tryz.f38,[],[],[],[(4,[0,3]),(11,[0,4])],[]⟩
noncomputable def fi39:FnI:=⟨Tryz.f39,codeOf Tryz.f39,[],[],[],[(2,[0,1,5])],[]⟩
noncomputable def fi40:FnI:=⟨Tryz.f40,codeOf Tryz.f40,[],[],[],[],[]⟩
noncomputable def fi41:FnI:=⟨Tryz.f41,codeOf Tryz.f41,[],[],[],[(2,[0,1,5])],[]⟩
noncomputable def fi42:FnI:=⟨Tryz.f42,codeOf Tryz.f42,[],[],[],[],[]⟩
noncomputable def fi63:FnI:=⟨Tryz.f63,codeOf Tryz.f63,[],[],[],[],[]⟩
noncomputable def fi64:FnI:=⟨Tryz.f64,codeOf Tryz.f64,[],[],[],[],[]⟩
noncomputable def fi65:FnI:=⟨Tryz.f65,codeOf Tryz.f65,[],[],[],[(2,[13,14])],[]⟩
noncomputable def fi66:FnI:=⟨Tryz.f66,codeOf Tryz.f66,[],[],[],[(3,[7,14,15,16])],[]⟩
noncomputable def fi67:FnI:=⟨Tryz.f67,codeOf Tryz.f67,[11,17],[],[0],[],[]⟩
noncomputable def fi68:FnI:=⟨Tryz.f68,codeOf Tryz.f68,[],[],[],[],[]⟩
noncomputable def fi69:FnI:=⟨Tryz.f69,codeOf Tryz.f69,[69,77],[],[],[(5,[3,4,5,6]),(7,[4,6,9,35,36])],[]⟩
noncomputable def fi70:FnI:=⟨Tryz.f70,codeOf Tryz.f70,[],[],[],[],[]⟩
noncomputable def fi71:FnI:=⟨Tryz.f71,codeOf Tryz.f71,[],[],[],[(6,[6,8,24,25,26])],[]⟩
noncomputable def fi72:FnI:=⟨Tryz.f72,codeOf Tryz.f72,[],[],[1,2,3,4,5],[],[(2,⟨[],[⟨0,true,[2],[10],[]⟩,⟨1,true,[3],[11],[]⟩,⟨2,true,[1],[12],[]⟩,⟨3,true,[1,12],[13],[2]⟩,⟨4,true,[6],[14],[]⟩,⟨5,true,[6,14],[15],[4]⟩,⟨6,true,[11,13,15],[16],[1,2,3,4,5]⟩,⟨7,true,[4],[17],[]⟩,⟨8,true,[1],[18],[]⟩,⟨9,true,[1,18],[19],[8]⟩,⟨10,true,[6],[20],[]⟩,⟨11,true,[6,20],[21],[10]⟩,⟨12,true,[17,19,21],[22],[7,8,9,10,11]⟩,⟨13,true,[5],[23],[]⟩,⟨14,true,[1],[24],[]⟩,⟨15,true,[1,24],[25],[14]⟩,⟨16,true,[6],[26],[]⟩,⟨17,true,[6,26],[27],[16]⟩,⟨18,true,[23,25,27],[28],[13,14,15,16,17]⟩,⟨19,true,[16,22,28],[29],[1,2,3,4,5,6,7,8,9,10,11,12,13,14,15,16,17,18]⟩,⟨20,false,[29],[30],[1,2,3,4,5,6,7,8,9,10,11,12,13,14,15,16,17,18,19]⟩,⟨21,false,[30],[31],[1,2,3,4,5,6,7,8,9,10,11,12,13,14,15,16,17,18,19,20]⟩,⟨22,false,[10],[2,31,32],[0,1,2,3,4,5,6,7,8,9,10,11,12,13,14,15,16,17,18,19,20,21]⟩,⟨23,false,[],[2,32],[0,1,2,3,4,5,6,7,8,9,10,11,12,13,14,15,16,17,18,19,20,21,22]⟩],[]⟩)]⟩
noncomputable def fi73:FnI:=⟨Tryz.f73,codeOf Tryz.f73,[14],[],[],[],[(1,⟨[],[⟨0,true,[1],[3],[]⟩,⟨1,true,[3],[4],[0]⟩,⟨2,true,[1],[5],[]⟩,⟨3,true,[1,5],[6],[2]⟩,⟨4,false,[6],[7],[0,1,2,3]⟩,⟨5,true,[1],[8],[]⟩,⟨6,true,[1,8],[9],[5]⟩,⟨7,false,[9],[10],[0,1,2,3,4,5,6]⟩,⟨8,true,[1],[11],[]⟩,⟨9,true,[1,11],[12],[8]⟩,⟨10,false,[12],[13],[0,1,2,3,4,5,6,7,8,9]⟩,⟨11,false,[4],[7,10,13,14],[0,1,2,3,4,5,6,7,8,9,10]⟩,⟨12,false,[14],[2],[0,1,2,3,4,5,6,7,8,9,10,11]⟩],[]⟩)]⟩
noncomputable def fi74:FnI:=⟨Tryz.f74,codeOf Tryz.f74,[],[],[],[(6,[5,13,14,15])],[]⟩
noncomputable def fi75:FnI:=⟨Tryz.f75,codeOf Tryz.f75,[],[],[],[],[]⟩
noncomputable def fi76:FnI:=⟨Tryz.f76,codeOf Tryz.f76,[],[],[],[],[]⟩
noncomputable def fi77:FnI:=⟨Tryz.f77,codeOf Tryz.f77,[],[],[],[(5,[0,3,4])],[]⟩
noncomputable def fi78:FnI:=⟨Tryz.f78,codeOf Tryz.f78,[],[],[],[],[]⟩
noncomputable def fi79:FnI:=⟨Tryz.f79,codeOf Tryz.f79,[],[4],[],[(2,[0,1,6])],[]⟩
noncomputable def fi95:FnI:=⟨Tryz.f95,codeOf Tryz.f95,[],[],[],[(2,[0,3]),(4,[0,3])],[]⟩
noncomputable def fi96:FnI:=⟨Tryz.f96,codeOf Tryz.f96,[],[],[],[(3,[0,3,9,10,11]),(11,[6,25,26,27])],[]⟩
noncomputable def fi99:FnI:=⟨Tryz.f99,codeOf Tryz.f99,[],[],[],[(2,[0,1,7,8])],[]⟩
noncomputable def fi100:FnI:=⟨Tryz.f100,codeOf Tryz.f100,[],[],[],[],[]⟩
noncomputable def fi101:FnI:=⟨Tryz.f101,codeOf Tryz.f101,[],[],[],[],[]⟩
noncomputable def fi102:FnI:=⟨Tryz.f102,codeOf Tryz.f102,[],[2],[],[],[]⟩
noncomputable def fi103:FnI:=⟨Tryz.f103,codeOf Tryz.f103,[],[],[],[(5,[0,3,12,13,14])],[]⟩
noncomputable def fi105:FnI:=⟨Tryz.f105,codeOf Tryz.f105,[],[],[],[(7,[0,1,7,8,9,10])],[]⟩
noncomputable def fi107:FnI:=⟨Tryz.f107,codeOf Tryz.f107,[19],[],[],[],[(1,⟨[],[⟨0,true,[1],[4],[]⟩,⟨1,true,[1,4],[5],[0]⟩,⟨2,true,[1],[6],[]⟩,⟨3,true,[1,6],[7],[2]⟩,⟨4,true,[5,7],[8],[0,1,2,3]⟩,⟨5,true,[1],[9],[]⟩,⟨6,true,[1,9],[10],[5]⟩,⟨7,true,[1],[11],[]⟩,⟨8,true,[1,11],[12],[7]⟩,⟨9,true,[10,12],[13],[0,1,2,3,4,5,6,7,8]⟩,⟨10,true,[1],[14],[]⟩,⟨11,true,[1,14],[15],[10]⟩,⟨12,true,[1],[16],[]⟩,⟨13,true,[1,16],[17],[12]⟩,⟨14,true,[15,17],[18],[0,1,2,3,4,5,6,7,8,9,10,11,12,13]⟩,⟨15,true,[8,13,18],[19],[0,1,2,3,4,5,6,7,8,9,10,11,12,13,14]⟩,⟨16,false,[],[3],[]⟩,⟨17,false,[19],[3],[0,1,2,3,4,5,6,7,8,9,10,11,12,13,14,15,16]⟩],[]⟩)]⟩
noncomputable def fi109:FnI:=⟨Tryz.f109,codeOf Tryz.f109,[21],[],[],[(4,[9,10,11])],[(7,⟨[],[⟨0,true,[4],[22],[]⟩,⟨1,true,[4,22],[23],[0]⟩,⟨2,true,[23],[24],[0,1]⟩,⟨3,true,[24],[25],[0,1,2]⟩,⟨4,true,[25],[26],[0,1,2,3]⟩,⟨5,true,[4,26],[27],[0,1,2,3,4]⟩,⟨6,true,[4,26,27],[28],[0,1,2,3,4,5]⟩,⟨7,true,[26,28],[29],[0,1,2,3,4,5,6]⟩,⟨8,true,[26,29],[30],[0,1,2,3,4,5,6,7]⟩,⟨9,true,[26,30],[31],[0,1,2,3,4,5,6,7,8]⟩,⟨10,true,[31],[32],[0,1,2,3,4,5,6,7,8,9]⟩,⟨11,true,[4,32],[33],[0,1,2,3,4,5,6,7,8,9,10]⟩,⟨12,true,[4,32,33],[34],[0,1,2,3,4,5,6,7,8,9,10,11]⟩,⟨13,true,[32,34],[35],[0,1,2,3,4,5,6,7,8,9,10,11,12]⟩,⟨14,true,[32,35],[36],[0,1,2,3,4,5,6,7,8,9,10,11,12,13]⟩,⟨15,true,[32,36],[37],[0,1,2,3,4,5,6,7,8,9,10,11,12,13,14]⟩,⟨16,true,[37],[38],[0,1,2,3,4,5,6,7,8,9,10,11,12,13,14,15]⟩,⟨17,true,[4,38],[39],[0,1,2,3,4,5,6,7,8,9,10,11,12,13,14,15,16]⟩,⟨18,true,[4,38,39],[40],[0,1,2,3,4,5,6,7,8,9,10,11,12,13,14,15,16,17]⟩,⟨19,true,[5,38],[41],[0,1,2,3,4,5,6,7,8,9,10,11,12,13,14,15,16]⟩,⟨20,true,[38,41],[42],[0,1,2,3,4,5,6,7,8,9,10,11,12,13,14,15,16,19]⟩,⟨21,true,[38,40,42],[43],[0,1,2,3,4,5,6,7,8,9,10,11,12,13,14,15,16,17,18,19,20]⟩,⟨22,true,[38,43],[44],[0,1,2,3,4,5,6,7,8,9,10,11,12,13,14,15,16,17,18,19,20,21]⟩,⟨23,true,[44],[45],[0,1,2,3,4,5,6,7,8,9,10,11,12,13,14,15,16,17,18,19,20,21,22]⟩,⟨24,true,[4,45],[46],[0,1,2,3,4,5,6,7,8,9,10,11,12,13,14,15,16,17,18,19,20,21,22,23]⟩,⟨25,true,[4,45,46],[47],[0,1,2,3,4,5,6,7,8,9,10,11,12,13,14,15,16,17,18,19,20,21,22,23,24]⟩,⟨26,true,[45,47],[48],[0,1,2,3,4,5,6,7,8,9,10,11,12,13,14,15,16,17,18,19,20,21,22,23,24,25]⟩,⟨27,true,[4,45],[49],[0,1,2,3,4,5,6,7,8,9,10,11,12,13,14,15,16,17,18,19,20,21,22,23]⟩,⟨28,true,[4,45,49],[50],[0,1,2,3,4,5,6,7,8,9,10,11,12,13,14,15,16,17,18,19,20,21,22,23,27]⟩,⟨29,true,[45,50],[51],[0,1,2,3,4,5,6,7,8,9,10,11,12,13,14,15,16,17,18,19,20,21,22,23,27,28]⟩,⟨30,true,[45,48,51],[52],[0,1,2,3,4,5,6,7,8,9,10,11,12,13,14,15,16,17,18,19,20,21,22,23,24,25,26,27,28,29]⟩,⟨31,true,[4,45],[53],[0,1,2,3,4,5,6,7,8,9,10,11,12,13,14,15,16,17,18,19,20,21,22,23]⟩,⟨32,true,[4,45,53],[54],[0,1,2,3,4,5,6,7,8,9,10,11,12,13,14,15,16,17,18,19,20,21,22,23,31]⟩,⟨33,true,[45,54],[55],[0,1,2,3,4,5,6,7,8,9,10,11,12,13,14,15,16,17,18,19,20,21,22,23,31,32]⟩,⟨34,true,[45,52,55],[56],[0,1,2,3,4,5,6,7,8,9,10,11,12,13,14,15,16,17,18,19,20,21,22,23,24,25,26,27,28,29,30,31,32,33]⟩,⟨35,true,[45,56],[57],[0,1,2,3,4,5,6,7,8,9,10,11,12,13,14,15,16,17,18,19,20,21,22,23,24,25,26,27,28,29,30,31,32,33,34]⟩,⟨36,true,[45,57],[58],[0,1,2,3,4,5,6,7,8,9,10,11,12,13,14,15,16,17,18,19,20,21,22,23,24,25,26,27,28,29,30,31,32,33,34,35]⟩],[]⟩)]⟩
noncomputable def fi110:FnI:=⟨Tryz.f110,codeOf Tryz.f110,[],[],[],[(4,[0,8,9,10])],[]⟩
noncomputable def fi111:FnI:=⟨Tryz.f111,codeOf Tryz.f111,[],[],[],[(6,[0,1,5])],[]⟩
noncomputable def fi112:FnI:=⟨Tryz.f112,codeOf Tryz.f112,[],[],[],[(3,[0]),(4,[0,3])],[]⟩
noncomputable def fi128:FnI:=⟨Tryz.f128,codeOf Tryz.f128,[],[],[],[],[]⟩
noncomputable def fi129:FnI:=⟨Tryz.f129,codeOf Tryz.f129,[],[],[],[],[]⟩
noncomputable def fi143:FnI:=⟨Tryz.f143,codeOf Tryz.f143,[],[],[],[],[]⟩
noncomputable def fi147:FnI:=⟨Tryz.f147,codeOf Tryz.f147,[],[],[],[],[]⟩
noncomputable def fi148:FnI:=⟨Tryz.f148,codeOf Tryz.f148,[12],[],[],[(3,[0,1,5,14,15]),(8,[0,1,5,7]),(11,[0,1,5,7,8])],[(15,⟨[0,1,4,5,6,10,13,14,17],[⟨2,true,[5,65,66],[67],[]⟩,⟨3,true,[5,67],[68],[2]⟩,⟨7,true,[71],[72],[]⟩,⟨8,true,[5,70,72],[73],[7]⟩,⟨9,true,[5,73],[74],[7,8]⟩,⟨11,true,[5,74,75],[76],[7,8,9]⟩,⟨12,true,[5,76],[77],[7,8,9,11]⟩,⟨15,true,[5,78,79],[80],[]⟩,⟨16,true,[5,80],[81],[15]⟩,⟨18,true,[82],[83],[]⟩,⟨19,true,[5,81,83],[84],[15,16,18]⟩,⟨20,true,[5,84],[85],[15,16,18,19]⟩,⟨21,false,[77,85],[86],[7,8,9,11,12,15,16,18,19,20]⟩,⟨22,true,[5,68,69],[87],[2,3,7,8,9,11,12,15,16,18,19,20,21]⟩,⟨23,false,[86,87],[5],[2,3,7,8,9,11,12,15,16,18,19,20,21,22]⟩],[]⟩)]⟩
noncomputable def fi149:FnI:=⟨Tryz.f149,codeOf Tryz.f149,[54],[],[],[(3,[0,1,2,3,4,10,11]),(4,[0,1,2,3,4,10,11,12])],[]⟩
noncomputable def fi151:FnI:=⟨Tryz.f151,codeOf Tryz.f151,[],[],[],[(4,[0,1,12,13])],[]⟩
noncomputable def fi152:FnI:=⟨Tryz.f152,codeOf Tryz.f152,[],[],[],[],[]⟩
noncomputable def fi153:FnI:=⟨Tryz.f153,codeOf Tryz.f153,[],[],[],[],[]⟩
noncomputable def fi154:FnI:=⟨Tryz.f154,codeOf Tryz.f154,[],[],[],[],[]⟩
noncomputable def fi155:FnI:=⟨Tryz.f155,codeOf Tryz.f155,[],[],[],[],[]⟩
noncomputable def fi156:FnI:=⟨Tryz.f156,codeOf Tryz.f156,[],[],[],[(3,[1]),(5,[1]),(7,[1])],[]⟩
noncomputable def fi157:FnI:=⟨Tryz.f157,codeOf Tryz.f157,[],[],[],[(3,[0,3,4])],[]⟩
noncomputable def fi159:FnI:=⟨Tryz.f159,codeOf Tryz.f159,[],[],[],[(20,[0,1,5,6,7,8,9,10]),(26,[0,1,5,6,7,8,9,10]),(28,[0,1,5,6,7,8,9,10]),(41,[0,1,5,13,14,15,16,17]),(46,[0,1,5,13,14,15,16,17]),(48,[0,1,5,13,14,15,16,17])],[]⟩
noncomputable def fi164:FnI:=⟨Tryz.f164,codeOf Tryz.f164,[],[],[],[(2,[0,1,7,8])],[]⟩
noncomputable def fi165:FnI:=⟨Tryz.f165,codeOf Tryz.f165,[],[8],[],[(7,[0,1,2,3]),(11,[0,1,2,3,9,10]),(17,[0,9,10])],[]⟩
noncomputable def fi182:FnI:=⟨Tryz.f182,codeOf Tryz.f182,[],[],[],[],[]⟩
noncomputable def fi183:FnI:=⟨Tryz.f183,codeOf Tryz.f183,[],[],[],[],[]⟩
noncomputable def fi188:FnI:=⟨Tryz.f188,codeOf Tryz.f188,[],[],[],[],[]⟩
noncomputable def fi189:FnI:=⟨Tryz.f189,codeOf Tryz.f189,[],[],[],[(2,[0,1,7,8])],[]⟩
noncomputable def fi190:FnI:=⟨Tryz.f190,codeOf Tryz.f190,[],[],[],[(3,[0])],[]⟩
noncomputable def fi191:FnI:=⟨Tryz.f191,codeOf Tryz.f191,[],[],[],[(5,[3,9,10,11]),(9,[5,9,10,11])],[]⟩
noncomputable def fi204:FnI:=⟨Tryz.f204,codeOf Tryz.f204,[],[],[],[(6,[0,1,5])],[]⟩
noncomputable def fi205:FnI:=⟨Tryz.f205,codeOf Tryz.f205,[],[],[],[],[]⟩
noncomputable def fi214:FnI:=⟨Tryz.f214,codeOf Tryz.f214,[],[],[],[],[]⟩
noncomputable def fi217:FnI:=⟨Tryz.f217,codeOf Tryz.f217,[],[],[],[],[]⟩
noncomputable def fi220:FnI:=⟨Tryz.f220,codeOf Tryz.f220,[],[],[],[],[]⟩
noncomputable def fi225:FnI:=⟨Tryz.f225,codeOf Tryz.f225,[],[],[],[(10,[0,1,5]),(15,[0,1,5,6,7,8,9,10]),(21,[0,1,5,6,7,8,9,10]),(23,[0,1,5,6,7,8,9,10])],[]⟩
noncomputable def fi228:FnI:=⟨Tryz.f228,codeOf Tryz.f228,[],[],[],[],[]⟩
noncomputable def fi231:FnI:=⟨Tryz.f231,codeOf Tryz.f231,[],[],[],[],[]⟩
noncomputable def tys:Tr TI:=(.node (.node (.node (.node (.node (.node .leaf 3 ti3 .leaf) 4 ti4 .leaf) 5 ti5 (.node .leaf 9 ti9 .leaf)) 22 ti22 (.node (.node .leaf 23 ti23 .leaf) 37 ti37 (.node .leaf 38 ti38 .leaf))) 59 ti59 (.node (.node (.node (.node .leaf 62 ti62 .leaf) 65 ti65 .leaf) 72 ti72 (.node .leaf 100 ti100 .leaf)) 109 ti109 (.node (.node .leaf 114 ti114 .leaf) 116 ti116 (.node .leaf 119 ti119 .leaf)))) 121 ti121 (.node (.node (.node (.node (.node .leaf 122 ti122 .leaf) 124 ti124 .leaf) 147 ti147 (.node .leaf 152 ti152 .leaf)) 153 ti153 (.node (.node .leaf 157 ti157 .leaf) 162 ti162 (.node .leaf 166 ti166 .leaf))) 168 ti168 (.node (.node (.node (.node .leaf 169 ti169 .leaf) 184 ti184 .leaf) 193 ti193 (.node .leaf 197 ti197 .leaf)) 209 ti209 (.node (.node .leaf 215 ti215 .leaf) 217 ti217 (.node .leaf 251 ti251 .leaf)))))
noncomputable def fns:Tr FnI:=(.node (.node (.node (.node (.node (.node (.node .leaf 7 fi7 .leaf) 25 fi25 .leaf) 26 fi26 (.node .leaf 27 fi27 .leaf)) 28 fi28 (.node (.node (.node .leaf 29 fi29 .leaf) 30 fi30 .leaf) 31 fi31 (.node .leaf 33 fi33 .leaf))) 34 fi34 (.node (.node (.node (.node .leaf 35 fi35 .leaf) 37 fi37 .leaf) 38 fi38 (.node .leaf 39 fi39 .leaf)) 40 fi40 (.node (.node (.node .leaf 41 fi41 .leaf) 42 fi42 .leaf) 63 fi63 (.node .leaf 64 fi64 .leaf)))) 65 fi65 (.node (.node (.node (.node (.node .leaf 66 fi66 .leaf) 67 fi67 .leaf) 68 fi68 (.node .leaf 69 fi69 .leaf)) 70 fi70 (.node (.node (.node .leaf 71 fi71 .leaf) 72 fi72 .leaf) 73 fi73 (.node .leaf 74 fi74 .leaf))) 75 fi75 (.node (.node (.node (.node .leaf 76 fi76 .leaf) 77 fi77 .leaf) 78 fi78 (.node .leaf 79 fi79 .leaf)) 95 fi95 (.node (.node .leaf 96 fi96 .leaf) 99 fi99 (.node .leaf 100 fi100 .leaf))))) 101 fi101 (.node (.node (.node (.node (.node (.node .leaf 102 fi102 .leaf) 103 fi103 .leaf) 105 fi105 (.node .leaf 107 fi107 .leaf)) 109 fi109 (.node (.node (.node .leaf 110 fi110 .leaf) 111 fi111 .leaf) 112 fi112 (.node .leaf 128 fi128 .leaf))) 129 fi129 (.node (.node (.node (.node .leaf 143 fi143 .leaf) 147 fi147 .leaf) 148 fi148 (.node .leaf 149 fi149 .leaf)) 151 fi151 (.node (.node (.node .leaf 152 fi152 .leaf) 153 fi153 .leaf) 154 fi154 (.node .leaf 155 fi155 .leaf)))) 156 fi156 (.node (.node (.node (.node (.node .leaf 157 fi157 .leaf) 159 fi159 .leaf) 164 fi164 (.node .leaf 165 fi165 .leaf)) 182 fi182 (.node (.node (.node .leaf 183 fi183 .leaf) 188 fi188 .leaf) 189 fi189 (.node .leaf 190 fi190 .leaf))) 191 fi191 (.node (.node (.node (.node .leaf 204 fi204 .leaf) 205 fi205 .leaf) 214 fi214 (.node .leaf 217 fi217 .leaf)) 220 fi220 (.node (.node .leaf 225 fi225 .leaf) 228 fi228 (.node .leaf 231 fi231 .leaf))))))
noncomputable def globT:Tr (List V):=.leaf
noncomputable def takesT:Tr (List Nat):=(.node (.node (.node .leaf 97 [0] .leaf) 98 [0] .leaf) 132 [0] (.node .leaf 168 [0] .leaf))
noncomputable def turnsT:Tr (List Nat):=(.node (.node (.node .leaf 27 [1] .leaf) 44 [0] (.node .leaf 67 [0] .leaf)) 72 [1,2,3,4,5] (.node (.node .leaf 80 [0] .leaf) 97 [0] (.node .leaf 113 [0] .leaf)))
noncomputable def flatsT:Tr Unit:=(.node (.node (.node (.node (.node (.node (.node (.node .leaf 0 () .leaf) 1 () .leaf) 2 () (.node (.node .leaf 3 () .leaf) 4 () .leaf)) 5 () (.node (.node (.node .leaf 6 () .leaf) 7 () .leaf) 8 () (.node (.node .leaf 9 () .leaf) 10 () .leaf))) 11 () (.node (.node (.node (.node .leaf 16 () .leaf) 17 () .leaf) 18 () (.node (.node .leaf 19 () .leaf) 21 () .leaf)) 22 () (.node (.node (.node .leaf 23 () .leaf) 24 () .leaf) 25 () (.node (.node .leaf 26 () .leaf) 31 () .leaf)))) 33 () (.node (.node (.node (.node (.node .leaf 36 () .leaf) 37 () .leaf) 38 () (.node (.node .leaf 39 () .leaf) 40 () .leaf)) 41 () (.node (.node (.node .leaf 42 () .leaf) 45 () .leaf) 46 () (.node (.node .leaf 48 () .leaf) 50 () .leaf))) 51 () (.node (.node (.node (.node .leaf 53 () .leaf) 54 () .leaf) 55 () (.node (.node .leaf 56 () .leaf) 57 () .leaf)) 61 () (.node (.node (.node .leaf 62 () .leaf) 63 () .leaf) 64 () (.node (.node .leaf 65 () .leaf) 66 () .leaf))))) 68 () (.node (.node (.node (.node (.node (.node .leaf 74 () .leaf) 75 () .leaf) 76 () (.node (.node .leaf 77 () .leaf) 78 () .leaf)) 81 () (.node (.node (.node .leaf 82 () .leaf) 85 () .leaf) 86 () (.node (.node .leaf 87 () .leaf) 88 () .leaf))) 89 () (.node (.node (.node (.node .leaf 92 () .leaf) 95 () .leaf) 99 () (.node (.node .leaf 100 () .leaf) 101 () .leaf)) 103 () (.node (.node (.node .leaf 104 () .leaf) 107 () .leaf) 109 () (.node (.node .leaf 110 () .leaf) 111 () .leaf)))) 112 () (.node (.node (.node (.node (.node .leaf 114 () .leaf) 115 () .leaf) 116 () (.node (.node .leaf 117 () .leaf) 120 () .leaf)) 125 () (.node (.node (.node .leaf 126 () .leaf) 127 () .leaf) 128 () (.node (.node .leaf 130 () .leaf) 131 () .leaf))) 138 () (.node (.node (.node (.node .leaf 141 () .leaf) 142 () .leaf) 143 () (.node (.node .leaf 147 () .leaf) 149 () .leaf)) 150 () (.node (.node (.node .leaf 151 () .leaf) 152 () .leaf) 153 () (.node .leaf 154 () .leaf)))))) 155 () (.node (.node (.node (.node (.node (.node (.node .leaf 156 () .leaf) 157 () .leaf) 158 () (.node (.node .leaf 159 () .leaf) 160 () .leaf)) 161 () (.node (.node (.node .leaf 162 () .leaf) 163 () .leaf) 164 () (.node (.node .leaf 166 () .leaf) 167 () .leaf))) 170 () (.node (.node (.node (.node .leaf 171 () .leaf) 172 () .leaf) 173 () (.node (.node .leaf 174 () .leaf) 175 () .leaf)) 176 () (.node (.node (.node .leaf 177 () .leaf) 178 () .leaf) 179 () (.node (.node .leaf 180 () .leaf) 181 () .leaf)))) 182 () (.node (.node (.node (.node (.node .leaf 183 () .leaf) 186 () .leaf) 187 () (.node (.node .leaf 188 () .leaf) 189 () .leaf)) 190 () (.node (.node (.node .leaf 191 () .leaf) 192 () .leaf) 193 () (.node (.node .leaf 194 () .leaf) 195 () .leaf))) 196 () (.node (.node (.node (.node .leaf 197 () .leaf) 198 () .leaf) 200 () (.node (.node .leaf 201 () .leaf) 202 () .leaf)) 204 () (.node (.node (.node .leaf 205 () .leaf) 206 () .leaf) 207 () (.node .leaf 208 () .leaf))))) 209 () (.node (.node (.node (.node (.node (.node .leaf 210 () .leaf) 211 () .leaf) 212 () (.node (.node .leaf 213 () .leaf) 214 () .leaf)) 215 () (.node (.node (.node .leaf 217 () .leaf) 218 () .leaf) 219 () (.node (.node .leaf 220 () .leaf) 221 () .leaf))) 222 () (.node (.node (.node (.node .leaf 223 () .leaf) 224 () .leaf) 225 () (.node (.node .leaf 226 () .leaf) 227 () .leaf)) 228 () (.node (.node (.node .leaf 229 () .leaf) 230 () .leaf) 231 () (.node (.node .leaf 232 () .leaf) 233 () .leaf)))) 234 () (.node (.node (.node (.node (.node .leaf 235 () .leaf) 236 () .leaf) 237 () (.node (.node .leaf 238 () .leaf) 239 () .leaf)) 240 () (.node (.node (.node .leaf 241 () .leaf) 242 () .leaf) 243 () (.node (.node .leaf 244 () .leaf) 245 () .leaf))) 246 () (.node (.node (.node (.node .leaf 247 () .leaf) 248 () .leaf) 250 () (.node (.node .leaf 251 () .leaf) 252 () .leaf)) 253 () (.node (.node (.node .leaf 254 () .leaf) 255 () .leaf) 256 () (.node .leaf 257 () .leaf)))))))
noncomputable def eqsT:Tr Unit:=(.node (.node .leaf 72 () .leaf) 119 () (.node .leaf 215 () .leaf))
noncomputable def u8sT:Tr Unit:=(.node .leaf 23 () .leaf)
noncomputable def libsT:Tr (Nat×Nat):=(.node .leaf 201 (0,5) .leaf)
noncomputable def tab:Tab:=⟨tys,globT,fns,takesT,turnsT,flatsT,eqsT,u8sT,libsT⟩
theorem ty3:TyOK Tryz.prog 3 ti3:=tyB_ok (by kernel_rfl)
theorem ty4:TyOK Tryz.prog 4 ti4:=tyB_ok (by kernel_rfl)
theorem ty5:TyOK Tryz.prog 5 ti5:=tyB_ok (by kernel_rfl)
theorem ty9:TyOK Tryz.prog 9 ti9:=tyB_ok (by kernel_rfl)
theorem ty22:TyOK Tryz.prog 22 ti22:=tyB_ok (by kernel_rfl)
theorem ty23:TyOK Tryz.prog 23 ti23:=tyB_ok (by kernel_rfl)
theorem ty37:TyOK Tryz.prog 37 ti37:=tyB_ok (by kernel_rfl)
theorem ty38:TyOK Tryz.prog 38 ti38:=tyB_ok (by kernel_rfl)
theorem ty59:TyOK Tryz.prog 59 ti59:=tyB_ok (by kernel_rfl)
theorem ty62:TyOK Tryz.prog 62 ti62:=tyB_ok (by kernel_rfl)
theorem ty65:TyOK Tryz.prog 65 ti65:=tyB_ok (by kernel_rfl)
theorem ty72:TyOK Tryz.prog 72 ti72:=tyB_ok (by kernel_rfl)
theorem ty100:TyOK Tryz.prog 100 ti100:=tyB_ok (by kernel_rfl)
theorem ty109:TyOK Tryz.prog 109 ti109:=tyB_ok (by kernel_rfl)
theorem ty114:TyOK Tryz.prog 114 ti114:=tyB_ok (by kernel_rfl)
theorem ty116:TyOK Tryz.prog 116 ti116:=tyB_ok (by kernel_rfl)
theorem ty119:TyOK Tryz.prog 119 ti119:=tyB_ok (by kernel_rfl)
theorem ty121:TyOK Tryz.prog 121 ti121:=tyB_ok (by kernel_rfl)
theorem ty122:TyOK Tryz.prog 122 ti122:=tyB_ok (by kernel_rfl)
theorem ty124:TyOK Tryz.prog 124 ti124:=tyB_ok (by kernel_rfl)
theorem ty147:TyOK Tryz.prog 147 ti147:=tyB_ok (by kernel_rfl)
theorem ty152:TyOK Tryz.prog 152 ti152:=tyB_ok (by kernel_rfl)
theorem ty153:TyOK Tryz.prog 153 ti153:=tyB_ok (by kernel_rfl)
theorem ty157:TyOK Tryz.prog 157 ti157:=tyB_ok (by kernel_rfl)
theorem ty162:TyOK Tryz.prog 162 ti162:=tyB_ok (by kernel_rfl)
theorem ty166:TyOK Tryz.prog 166 ti166:=tyB_ok (by kernel_rfl)
theorem ty168:TyOK Tryz.prog 168 ti168:=tyB_ok (by kernel_rfl)
theorem ty169:TyOK Tryz.prog 169 ti169:=tyB_ok (by kernel_rfl)
theorem ty184:TyOK Tryz.prog 184 ti184:=tyB_ok (by kernel_rfl)
theorem ty193:TyOK Tryz.prog 193 ti193:=tyB_ok (by kernel_rfl)
theorem ty197:TyOK Tryz.prog 197 ti197:=tyB_ok (by kernel_rfl)
theorem ty209:TyOK Tryz.prog 209 ti209:=tyB_ok (by kernel_rfl)
theorem ty215:TyOK Tryz.prog 215 ti215:=tyB_ok (by kernel_rfl)
theorem ty217:TyOK Tryz.prog 217 ti217:=tyB_ok (by kernel_rfl)
theorem ty251:TyOK Tryz.prog 251 ti251:=tyB_ok (by kernel_rfl)
theorem fn7:FnOK Tryz.prog 7 fi7:=⟨Tryz.func7,by kernel_rfl,by kernel_rfl,by kernel_rfl⟩
theorem fn25:FnOK Tryz.prog 25 fi25:=⟨Tryz.func25,by kernel_rfl,by kernel_rfl,by kernel_rfl⟩
theorem fn26:FnOK Tryz.prog 26 fi26:=⟨Tryz.func26,by kernel_rfl,by kernel_rfl,by kernel_rfl⟩
theorem fn27:FnOK Tryz.prog 27 fi27:=⟨Tryz.func27,by kernel_rfl,by kernel_rfl,by kernel_rfl⟩
theorem fn28:FnOK Tryz.prog 28 fi28:=⟨Tryz.func28,by kernel_rfl,by kernel_rfl,by kernel_rfl⟩
theorem fn29:FnOK Tryz.prog 29 fi29:=⟨Tryz.func29,by kernel_rfl,by kernel_rfl,by kernel_rfl⟩
theorem fn30:FnOK Tryz.prog 30 fi30:=⟨Tryz.func30,by kernel_rfl,by kernel_rfl,by kernel_rfl⟩
theorem fn31:FnOK Tryz.prog 31 fi31:=⟨Tryz.func31,by kernel_rfl,by kernel_rfl,by kernel_rfl⟩
theorem fn33:FnOK Tryz.prog 33 fi33:=⟨Tryz.func33,by kernel_rfl,by kernel_rfl,by kernel_rfl⟩
theorem fn34:FnOK Tryz.prog 34 fi34:=⟨Tryz.func34,by kernel_rfl,by kernel_rfl,by kernel_rfl⟩
theorem fn35:FnOK Tryz.prog 35 fi35:=⟨Tryz.func35,by kernel_rfl,by kernel_rfl,by kernel_rfl⟩
theorem fn37:FnOK Tryz.prog 37 fi37:=⟨Tryz.func37,by kernel_rfl,by kernel_rfl,by kernel_rfl⟩
theorem fn38:FnOK Tryz.prog 38 fi38:=⟨Tryz.func38,by kernel_rfl,by kernel_rfl,by kernel_rfl⟩
theorem fn39:FnOK Tryz.prog 39 fi39:=⟨Tryz.func39,by kernel_rfl,by kernel_rfl,by kernel_rfl⟩
theorem fn40:FnOK Tryz.prog 40 fi40:=⟨Tryz.func40,by kernel_rfl,by kernel_rfl,by kernel_rfl⟩
theorem fn41:FnOK Tryz.prog 41 fi41:=⟨Tryz.func41,by kernel_rfl,by kernel_rfl,by kernel_rfl⟩
theorem fn42:FnOK Tryz.prog 42 fi42:=⟨Tryz.func42,by kernel_rfl,by kernel_rfl,by kernel_rfl⟩
theorem fn63:FnOK Tryz.prog 63 fi63:=⟨Tryz.func63,by kernel_rfl,by kernel_rfl,by kernel_rfl⟩
theorem fn64:FnOK Tryz.prog 64 fi64:=⟨Tryz.func64,by kernel_rfl,by kernel_rfl,by kernel_rfl⟩
theorem fn65:FnOK Tryz.prog 65 fi65:=⟨Tryz.func65,by kernel_rfl,by kernel_rfl,by kernel_rfl⟩
theorem fn66:FnOK Tryz.prog 66 fi66:=⟨Tryz.func66,by kernel_rfl,by kernel_rfl,by kernel_rfl⟩
theorem fn67:FnOK Tryz.prog 67 fi67:=⟨Tryz.func67,by kernel_rfl,by kernel_rfl,by kernel_rfl⟩
theorem fn68:FnOK Tryz.prog 68 fi68:=⟨Tryz.func68,by kernel_rfl,by kernel_rfl,by kernel_rfl⟩
theorem fn69:FnOK Tryz.prog 69 fi69:=⟨Tryz.func69,by kernel_rfl,by kernel_rfl,by kernel_rfl⟩
theorem fn70:FnOK Tryz.prog 70 fi70:=⟨Tryz.func70,by kernel_rfl,by kernel_rfl,by kernel_rfl⟩
theorem fn71:FnOK Tryz.prog 71 fi71:=⟨Tryz.func71,by kernel_rfl,by kernel_rfl,by kernel_rfl⟩
theorem fn72:FnOK Tryz.prog 72 fi72:=⟨Tryz.func72,by kernel_rfl,by kernel_rfl,by kernel_rfl⟩
theorem fn73:FnOK Tryz.prog 73 fi73:=⟨Tryz.func73,by kernel_rfl,by kernel_rfl,by kernel_rfl⟩
theorem fn74:FnOK Tryz.prog 74 fi74:=⟨Tryz.func74,by kernel_rfl,by kernel_rfl,by kernel_rfl⟩
theorem fn75:FnOK Tryz.prog 75 fi75:=⟨Tryz.func75,by kernel_rfl,by kernel_rfl,by kernel_rfl⟩
theorem fn76:FnOK Tryz.prog 76 fi76:=⟨Tryz.func76,by kernel_rfl,by kernel_rfl,by kernel_rfl⟩
theorem fn77:FnOK Tryz.prog 77 fi77:=⟨Tryz.func77,by kernel_rfl,by kernel_rfl,by kernel_rfl⟩
theorem fn78:FnOK Tryz.prog 78 fi78:=⟨Tryz.func78,by kernel_rfl,by kernel_rfl,by kernel_rfl⟩
theorem fn79:FnOK Tryz.prog 79 fi79:=⟨Tryz.func79,by kernel_rfl,by kernel_rfl,by kernel_rfl⟩
theorem fn95:FnOK Tryz.prog 95 fi95:=⟨Tryz.func95,by kernel_rfl,by kernel_rfl,by kernel_rfl⟩
theorem fn96:FnOK Tryz.prog 96 fi96:=⟨Tryz.func96,by kernel_rfl,by kernel_rfl,by kernel_rfl⟩
theorem fn99:FnOK Tryz.prog 99 fi99:=⟨Tryz.func99,by kernel_rfl,by kernel_rfl,by kernel_rfl⟩
theorem fn100:FnOK Tryz.prog 100 fi100:=⟨Tryz.func100,by kernel_rfl,by kernel_rfl,by kernel_rfl⟩
theorem fn101:FnOK Tryz.prog 101 fi101:=⟨Tryz.func101,by kernel_rfl,by kernel_rfl,by kernel_rfl⟩
theorem fn102:FnOK Tryz.prog 102 fi102:=⟨Tryz.func102,by kernel_rfl,by kernel_rfl,by kernel_rfl⟩
theorem fn103:FnOK Tryz.prog 103 fi103:=⟨Tryz.func103,by kernel_rfl,by kernel_rfl,by kernel_rfl⟩
theorem fn105:FnOK Tryz.prog 105 fi105:=⟨Tryz.func105,by kernel_rfl,by kernel_rfl,by kernel_rfl⟩
theorem fn107:FnOK Tryz.prog 107 fi107:=⟨Tryz.func107,by kernel_rfl,by kernel_rfl,by kernel_rfl⟩
theorem fn109:FnOK Tryz.prog 109 fi109:=⟨Tryz.func109,by kernel_rfl,by kernel_rfl,by kernel_rfl⟩
theorem fn110:FnOK Tryz.prog 110 fi110:=⟨Tryz.func110,by kernel_rfl,by kernel_rfl,by kernel_rfl⟩
theorem fn111:FnOK Tryz.prog 111 fi111:=⟨Tryz.func111,by kernel_rfl,by kernel_rfl,by kernel_rfl⟩
theorem fn112:FnOK Tryz.prog 112 fi112:=⟨Tryz.func112,by kernel_rfl,by kernel_rfl,by kernel_rfl⟩
theorem fn128:FnOK Tryz.prog 128 fi128:=⟨Tryz.func128,by kernel_rfl,by kernel_rfl,by kernel_rfl⟩
theorem fn129:FnOK Tryz.prog 129 fi129:=⟨Tryz.func129,by kernel_rfl,by kernel_rfl,by kernel_rfl⟩
theorem fn143:FnOK Tryz.prog 143 fi143:=⟨Tryz.func143,by kernel_rfl,by kernel_rfl,by kernel_rfl⟩
theorem fn147:FnOK Tryz.prog 147 fi147:=⟨Tryz.func147,by kernel_rfl,by kernel_rfl,by kernel_rfl⟩
theorem fn148:FnOK Tryz.prog 148 fi148:=⟨Tryz.func148,by kernel_rfl,by kernel_rfl,by kernel_rfl⟩
theorem fn149:FnOK Tryz.prog 149 fi149:=⟨Tryz.func149,by kernel_rfl,by kernel_rfl,by kernel_rfl⟩
theorem fn151:FnOK Tryz.prog 151 fi151:=⟨Tryz.func151,by kernel_rfl,by kernel_rfl,by kernel_rfl⟩
theorem fn152:FnOK Tryz.prog 152 fi152:=⟨Tryz.func152,by kernel_rfl,by kernel_rfl,by kernel_rfl⟩
theorem fn153:FnOK Tryz.prog 153 fi153:=⟨Tryz.func153,by kernel_rfl,by kernel_rfl,by kernel_rfl⟩
theorem fn154:FnOK Tryz.prog 154 fi154:=⟨Tryz.func154,by kernel_rfl,by kernel_rfl,by kernel_rfl⟩
theorem fn155:FnOK Tryz.prog 155 fi155:=⟨Tryz.func155,by kernel_rfl,by kernel_rfl,by kernel_rfl⟩
theorem fn156:FnOK Tryz.prog 156 fi156:=⟨Tryz.func156,by kernel_rfl,by kernel_rfl,by kernel_rfl⟩
theorem fn157:FnOK Tryz.prog 157 fi157:=⟨Tryz.func157,by kernel_rfl,by kernel_rfl,by kernel_rfl⟩
theorem fn159:FnOK Tryz.prog 159 fi159:=⟨Tryz.func159,by kernel_rfl,by kernel_rfl,by kernel_rfl⟩
theorem fn164:FnOK Tryz.prog 164 fi164:=⟨Tryz.func164,by kernel_rfl,by kernel_rfl,by kernel_rfl⟩
theorem fn165:FnOK Tryz.prog 165 fi165:=⟨Tryz.func165,by kernel_rfl,by kernel_rfl,by kernel_rfl⟩
theorem fn182:FnOK Tryz.prog 182 fi182:=⟨Tryz.func182,by kernel_rfl,by kernel_rfl,by kernel_rfl⟩
theorem fn183:FnOK Tryz.prog 183 fi183:=⟨Tryz.func183,by kernel_rfl,by kernel_rfl,by kernel_rfl⟩
theorem fn188:FnOK Tryz.prog 188 fi188:=⟨Tryz.func188,by kernel_rfl,by kernel_rfl,by kernel_rfl⟩
theorem fn189:FnOK Tryz.prog 189 fi189:=⟨Tryz.func189,by kernel_rfl,by kernel_rfl,by kernel_rfl⟩
theorem fn190:FnOK Tryz.prog 190 fi190:=⟨Tryz.func190,by kernel_rfl,by kernel_rfl,by kernel_rfl⟩
theorem fn191:FnOK Tryz.prog 191 fi191:=⟨Tryz.func191,by kernel_rfl,by kernel_rfl,by kernel_rfl⟩
theorem fn204:FnOK Tryz.prog 204 fi204:=⟨Tryz.func204,by kernel_rfl,by kernel_rfl,by kernel_rfl⟩
theorem fn205:FnOK Tryz.prog 205 fi205:=⟨Tryz.func205,by kernel_rfl,by kernel_rfl,by kernel_rfl⟩
theorem fn214:FnOK Tryz.prog 214 fi214:=⟨Tryz.func214,by kernel_rfl,by kernel_rfl,by kernel_rfl⟩
theorem fn217:FnOK Tryz.prog 217 fi217:=⟨Tryz.func217,by kernel_rfl,by kernel_rfl,by kernel_rfl⟩
theorem fn220:FnOK Tryz.prog 220 fi220:=⟨Tryz.func220,by kernel_rfl,by kernel_rfl,by kernel_rfl⟩
theorem fn225:FnOK Tryz.prog 225 fi225:=⟨Tryz.func225,by kernel_rfl,by kernel_rfl,by kernel_rfl⟩
theorem fn228:FnOK Tryz.prog 228 fi228:=⟨Tryz.func228,by kernel_rfl,by kernel_rfl,by kernel_rfl⟩
theorem fn231:FnOK Tryz.prog 231 fi231:=⟨Tryz.func231,by kernel_rfl,by kernel_rfl,by kernel_rfl⟩
theorem tys_ok:tys.All (TyOK Tryz.prog):=⟨⟨⟨⟨⟨⟨trivial,ty3,trivial⟩,ty4,trivial⟩,ty5,⟨trivial,ty9,trivial⟩⟩,ty22,⟨⟨trivial,ty23,trivial⟩,ty37,⟨trivial,ty38,trivial⟩⟩⟩,ty59,⟨⟨⟨⟨trivial,ty62,trivial⟩,ty65,trivial⟩,ty72,⟨trivial,ty100,trivial⟩⟩,ty109,⟨⟨trivial,ty114,trivial⟩,ty116,⟨trivial,ty119,trivial⟩⟩⟩⟩,ty121,⟨⟨⟨⟨⟨trivial,ty122,trivial⟩,ty124,trivial⟩,ty147,⟨trivial,ty152,trivial⟩⟩,ty153,⟨⟨trivial,ty157,trivial⟩,ty162,⟨trivial,ty166,trivial⟩⟩⟩,ty168,⟨⟨⟨⟨trivial,ty169,trivial⟩,ty184,trivial⟩,ty193,⟨trivial,ty197,trivial⟩⟩,ty209,⟨⟨trivial,ty215,trivial⟩,ty217,⟨trivial,ty251,trivial⟩⟩⟩⟩⟩
theorem fns_ok:fns.All (FnOK Tryz.prog):=⟨⟨⟨⟨⟨⟨⟨trivial,fn7,trivial⟩,fn25,trivial⟩,fn26,⟨trivial,fn27,trivial⟩⟩,fn28,⟨⟨⟨trivial,fn29,trivial⟩,fn30,trivial⟩,fn31,⟨trivial,fn33,trivial⟩⟩⟩,fn34,⟨⟨⟨⟨trivial,fn35,trivial⟩,fn37,trivial⟩,fn38,⟨trivial,fn39,trivial⟩⟩,fn40,⟨⟨⟨trivial,fn41,trivial⟩,fn42,trivial⟩,fn63,⟨trivial,fn64,trivial⟩⟩⟩⟩,fn65,⟨⟨⟨⟨⟨trivial,fn66,trivial⟩,fn67,trivial⟩,fn68,⟨trivial,fn69,trivial⟩⟩,fn70,⟨⟨⟨trivial,fn71,trivial⟩,fn72,trivial⟩,fn73,⟨trivial,fn74,trivial⟩⟩⟩,fn75,⟨⟨⟨⟨trivial,fn76,trivial⟩,fn77,trivial⟩,fn78,⟨trivial,fn79,trivial⟩⟩,fn95,⟨⟨trivial,fn96,trivial⟩,fn99,⟨trivial,fn100,trivial⟩⟩⟩⟩⟩,fn101,⟨⟨⟨⟨⟨⟨trivial,fn102,trivial⟩,fn103,trivial⟩,fn105,⟨trivial,fn107,trivial⟩⟩,fn109,⟨⟨⟨trivial,fn110,trivial⟩,fn111,trivial⟩,fn112,⟨trivial,fn128,trivial⟩⟩⟩,fn129,⟨⟨⟨⟨trivial,fn143,trivial⟩,fn147,trivial⟩,fn148,⟨trivial,fn149,trivial⟩⟩,fn151,⟨⟨⟨trivial,fn152,trivial⟩,fn153,trivial⟩,fn154,⟨trivial,fn155,trivial⟩⟩⟩⟩,fn156,⟨⟨⟨⟨⟨trivial,fn157,trivial⟩,fn159,trivial⟩,fn164,⟨trivial,fn165,trivial⟩⟩,fn182,⟨⟨⟨trivial,fn183,trivial⟩,fn188,trivial⟩,fn189,⟨trivial,fn190,trivial⟩⟩⟩,fn191,⟨⟨⟨⟨trivial,fn204,trivial⟩,fn205,trivial⟩,fn214,⟨trivial,fn217,trivial⟩⟩,fn220,⟨⟨trivial,fn225,trivial⟩,fn228,⟨trivial,fn231,trivial⟩⟩⟩⟩⟩⟩
theorem uq23:u8B Tryz.prog 23=true:=by kernel_rfl
theorem u8s_ok:u8sT.All fun t _=>∃ e ie,Tryz.prog.underlying t=some (.slice e)∧Tryz.prog.underlying e=some (.int .u8)∧Tryz.prog.info? e=some ie∧ie.size=1:=⟨trivial,u8B_ok uq23,trivial⟩
theorem eq72:∀ i,tys.get 72=some i→EqOK Tryz.prog 72 i:=fun i hi=>by
 obtain rfl:ti72=i:=Option.some.inj ((show tys.get 72=some ti72 from rfl).symm.trans hi)
 exact eqOK_D (show EqG Tryz.prog 10000 72 ti72.sk from (show EqG Tryz.prog 10000 72 ([.str]++([.int .u8]++[])) from (by refine eqG_struct (sk:=([.str]++([.int .u8]++[]))) Tryz.underlying72 (by kernel_rfl) (by kernel_rfl) ?_;refine EqFs.cons (sk:=[.str]) (by decide) rfl (.inl ⟨_,rfl,eqS_str Tryz.underlying9 (by kernel_rfl)⟩) ?_;refine EqFs.cons (sk:=[.int .u8]) (by decide) rfl (.inl ⟨_,rfl,eqS_int Tryz.underlying5 (by kernel_rfl)⟩) ?_;exact EqFs.nil _))) (by kernel_rfl)
theorem eq119:∀ i,tys.get 119=some i→EqOK Tryz.prog 119 i:=fun i hi=>by
 obtain rfl:ti119=i:=Option.some.inj ((show tys.get 119=some ti119 from rfl).symm.trans hi)
 obtain ⟨ie,hie⟩:∃ ie,Tryz.prog.info? 3=some ie:=Option.isSome_iff_exists.1 (by kernel_rfl)
 exact eqOK_arr Tryz.underlying119 Tryz.underlying3 (by kernel_rfl) hie rfl (by kernel_rfl)
theorem eq215:∀ i,tys.get 215=some i→EqOK Tryz.prog 215 i:=fun i hi=>by
 obtain rfl:ti215=i:=Option.some.inj ((show tys.get 215=some ti215 from rfl).symm.trans hi)
 exact eqOK_D (show EqG Tryz.prog 10000 215 ti215.sk from (show EqG Tryz.prog 10000 215 (List.replicate 3 [.bool]).flatten from (eqG_arr Tryz.underlying215 (Option.isSome_iff_exists.1 (by kernel_rfl)) (by kernel_rfl) (.inl ⟨_,rfl,eqS_bool Tryz.underlying4 (by kernel_rfl)⟩)))) (by kernel_rfl)
theorem eqs_ok:eqsT.All fun t _=>∀ i,tys.get t=some i→EqOK Tryz.prog t i:=⟨⟨trivial,eq72,trivial⟩,eq119,⟨trivial,eq215,trivial⟩⟩
theorem lib201:∃ ti z,Tryz.prog.info? 201=some ti∧ti.zero=some z∧libZero 0 z:=by
 obtain ⟨ti,h1,h2⟩:=Option.map_eq_some_iff.1 (show (Tryz.prog.info? 201).map (·.zero)=some (some (.agg #[.pointer none,.slice none 0 0])) by kernel_rfl)
 exact ⟨ti,_,h1,h2,.inl ⟨rfl,rfl⟩⟩
theorem libs_ok:libsT.All fun t x=>∃ ti z,Tryz.prog.info? t=some ti∧ti.zero=some z∧libZero x.1 z:=⟨trivial,lib201,trivial⟩
theorem tab_ok:TabOK Tryz.prog tab:=⟨tys_ok,eqs_ok,u8s_ok,libs_ok,fns_ok⟩
#print axioms tab_ok
end Go.Proofs.YtedbfdlgiilapaaGreatDoor.G
