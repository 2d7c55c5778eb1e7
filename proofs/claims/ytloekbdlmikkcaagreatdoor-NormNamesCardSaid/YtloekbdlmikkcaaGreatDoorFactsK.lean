/- What the table gives a symbolic run. No condition. -/
import Derived.Test.YtloekbdlmikkcaaGreatDoorTabK
import Derived.Test.YtloekbdlmikkcaaGreatDoorZvK7
set_option linter.unusedSimpArgs false
set_option linter.unusedVariables false
namespace Go.Proofs.YtloekbdlmikkcaaGreatDoor.G
open Go Go.Zv Go.Zv.G Go.Proofs Go.Proofs.YtloekbdlmikkcaaGreatDoor
set_option maxRecDepth 100000
section
variable (i : FnI) (call : Nat → List V → Option (V × List V))
theorem ety3 : (envOf tab i call).tys 3 = some ti3 := rfl
theorem ety4 : (envOf tab i call).tys 4 = some ti4 := rfl
theorem ety5 : (envOf tab i call).tys 5 = some ti5 := rfl
theorem ety9 : (envOf tab i call).tys 9 = some ti9 := rfl
theorem ety25 : (envOf tab i call).tys 25 = some ti25 := rfl
theorem ety26 : (envOf tab i call).tys 26 = some ti26 := rfl
theorem ety34 : (envOf tab i call).tys 34 = some ti34 := rfl
theorem ety37 : (envOf tab i call).tys 37 = some ti37 := rfl
theorem ety39 : (envOf tab i call).tys 39 = some ti39 := rfl
theorem ety45 : (envOf tab i call).tys 45 = some ti45 := rfl
theorem ety55 : (envOf tab i call).tys 55 = some ti55 := rfl
theorem ety59 : (envOf tab i call).tys 59 = some ti59 := rfl
theorem ety82 : (envOf tab i call).tys 82 = some ti82 := rfl
theorem ety87 : (envOf tab i call).tys 87 = some ti87 := rfl
theorem ety89 : (envOf tab i call).tys 89 = some ti89 := rfl
theorem ety104 : (envOf tab i call).tys 104 = some ti104 := rfl
theorem ety105 : (envOf tab i call).tys 105 = some ti105 := rfl
theorem ety107 : (envOf tab i call).tys 107 = some ti107 := rfl
theorem ety110 : (envOf tab i call).tys 110 = some ti110 := rfl
theorem ety132 : (envOf tab i call).tys 132 = some ti132 := rfl
theorem ety134 : (envOf tab i call).tys 134 = some ti134 := rfl
theorem ety136 : (envOf tab i call).tys 136 = some ti136 := rfl
theorem ety146 : (envOf tab i call).tys 146 = some ti146 := rfl
theorem ety147 : (envOf tab i call).tys 147 = some ti147 := rfl
theorem ety165 : (envOf tab i call).tys 165 = some ti165 := rfl
theorem ety171 : (envOf tab i call).tys 171 = some ti171 := rfl
theorem ety174 : (envOf tab i call).tys 174 = some ti174 := rfl
theorem ety180 : (envOf tab i call).tys 180 = some ti180 := rfl
theorem ety181 : (envOf tab i call).tys 181 = some ti181 := rfl
theorem ety182 : (envOf tab i call).tys 182 = some ti182 := rfl
theorem ety184 : (envOf tab i call).tys 184 = some ti184 := rfl
theorem elib (t : Nat) : (envOf tab i call).lib t = libsT.get t := rfl
theorem eglob (g : Nat) : (envOf tab i call).glob g = globT.get g := rfl
theorem eeqs (t : Nat) : (envOf tab i call).eqs t = isIn eqsT t := rfl
theorem eglob_0 : globT.get 0 = some (arrV 8 .u32 (litA glob0)) := rfl
theorem eglob_2 : globT.get 2 = some (arrV 64 .u32 (litA glob2)) := rfl
theorem elib_3 : libsT.get 3 = none := rfl
theorem elib_4 : libsT.get 4 = none := rfl
theorem elib_5 : libsT.get 5 = none := rfl
theorem elib_9 : libsT.get 9 = none := rfl
theorem elib_25 : libsT.get 25 = none := rfl
theorem elib_26 : libsT.get 26 = none := rfl
theorem elib_34 : libsT.get 34 = none := rfl
theorem elib_37 : libsT.get 37 = none := rfl
theorem elib_39 : libsT.get 39 = none := rfl
theorem elib_45 : libsT.get 45 = none := rfl
theorem elib_55 : libsT.get 55 = none := rfl
theorem elib_59 : libsT.get 59 = none := rfl
theorem elib_82 : libsT.get 82 = none := rfl
theorem elib_87 : libsT.get 87 = none := rfl
theorem elib_89 : libsT.get 89 = some (1, 5) := rfl
theorem elib_104 : libsT.get 104 = none := rfl
theorem elib_105 : libsT.get 105 = none := rfl
theorem elib_107 : libsT.get 107 = none := rfl
theorem elib_110 : libsT.get 110 = none := rfl
theorem elib_132 : libsT.get 132 = none := rfl
theorem elib_134 : libsT.get 134 = none := rfl
theorem elib_136 : libsT.get 136 = some (0, 5) := rfl
theorem elib_146 : libsT.get 146 = none := rfl
theorem elib_147 : libsT.get 147 = none := rfl
theorem elib_165 : libsT.get 165 = none := rfl
theorem elib_171 : libsT.get 171 = none := rfl
theorem elib_174 : libsT.get 174 = none := rfl
theorem elib_180 : libsT.get 180 = none := rfl
theorem elib_181 : libsT.get 181 = none := rfl
theorem elib_182 : libsT.get 182 = none := rfl
theorem elib_184 : libsT.get 184 = none := rfl
theorem eeqs_45 : isIn eqsT 45 = true := rfl
theorem tk45 : ti45.kind = .arr 32 1 5 := rfl
theorem ts45 : ti45.size = 32 := rfl
theorem tz45 : ti45.zero = arrV 32 .u8 zeroA := rfl
theorem tb45 (a : Nat → Int) : boxed ti45.sk (arrV 32 .u8 a) = arrV 32 .u8 a := rfl
theorem tbz45 : boxed ti45.sk ti45.zero = arrV 32 .u8 zeroA := rfl
theorem tc45 (a : Nat → Int) : canon ti45.sk (arrV 32 .u8 a) = arrV 32 .u8 a := rfl
theorem tcz45 : canon ti45.sk ti45.zero = arrV 32 .u8 zeroA := rfl
theorem te45 (a b : Nat → Int) : eqCells ti45.sk (arrV 32 .u8 a) (arrV 32 .u8 b) = some (eqA 32 a b) := eqCells_arr 32 .u8 a b
theorem tk105 : ti105.kind = .arr 8 1 104 := rfl
theorem ts105 : ti105.size = 8 := rfl
theorem tz105 : ti105.zero = arrV 8 .u32 zeroA := rfl
theorem tb105 (a : Nat → Int) : boxed ti105.sk (arrV 8 .u32 a) = arrV 8 .u32 a := rfl
theorem tbz105 : boxed ti105.sk ti105.zero = arrV 8 .u32 zeroA := rfl
theorem tc105 (a : Nat → Int) : canon ti105.sk (arrV 8 .u32 a) = arrV 8 .u32 a := rfl
theorem tcz105 : canon ti105.sk ti105.zero = arrV 8 .u32 zeroA := rfl
theorem tu105 (a : Nat → Int) : canon ti105.sk (cut (arrV 8 .u32 a) 0 ti105.size) = arrV 8 .u32 a := rfl
theorem tk107 : ti107.kind = .struct [(0, (105, 8)), (8, (34, 1)), (9, (3, 1))] := rfl
theorem ts107 : ti107.size = 10 := rfl
theorem tz107 : ti107.zero = arrV 8 .u32 zeroA ++ [.nilsl, .int .i64 0] := rfl
theorem tb107 (a : Nat → Int) (t : List V) : boxed ti107.sk (arrV 8 .u32 a ++ t) = arrV 8 .u32 a ++ boxed [.slice 1 1, .int .i64] t := rfl
theorem tbz107 : boxed ti107.sk ti107.zero = arrV 8 .u32 zeroA ++ boxed [.slice 1 1, .int .i64] [.nilsl, .int .i64 0] := rfl
theorem tc107 (a : Nat → Int) (t : List V) : canon ti107.sk (arrV 8 .u32 a ++ t) = arrV 8 .u32 a ++ canon [.slice 1 1, .int .i64] t := rfl
theorem tcz107 : canon ti107.sk ti107.zero = arrV 8 .u32 zeroA ++ canon [.slice 1 1, .int .i64] [.nilsl, .int .i64 0] := rfl
theorem tk182 : ti182.kind = .arr 64 1 104 := rfl
theorem ts182 : ti182.size = 64 := rfl
theorem tz182 : ti182.zero = arrV 64 .u32 zeroA := rfl
theorem tb182 (a : Nat → Int) : boxed ti182.sk (arrV 64 .u32 a) = arrV 64 .u32 a := rfl
theorem tbz182 : boxed ti182.sk ti182.zero = arrV 64 .u32 zeroA := rfl
theorem tc182 (a : Nat → Int) : canon ti182.sk (arrV 64 .u32 a) = arrV 64 .u32 a := rfl
theorem tcz182 : canon ti182.sk ti182.zero = arrV 64 .u32 zeroA := rfl
theorem efixed : (envOf tab i call).fixed = i.fixed := rfl
theorem enests : (envOf tab i call).nests = i.nests := rfl
theorem eshares : (envOf tab i call).shares = i.shares := rfl
theorem ekeep (k : Nat) : (envOf tab i call).keep k = Go.Zv.look k i.keep := rfl
theorem eplan (k : Nat) : (envOf tab i call).plan k = Go.Zv.look k i.plans := rfl
theorem eu8 (k : Nat) : (envOf tab i call).u8s k = isIn u8sT k := rfl
theorem eflat (k : Nat) : (envOf tab i call).flat k = isIn flatsT k := rfl
theorem etakes (k : Nat) : (envOf tab i call).takes k = listAt takesT k := rfl
theorem eturns (k : Nat) : (envOf tab i call).turns k = listAt turnsT k := rfl
theorem ecall {R : Type} (f : Nat) (args : List V) (K : V → List V → Option R) : (envOf tab i call).call f args K = (match call f args with
 | some (res, outs) => K res outs
 | none => none) := rfl
theorem etk5 : listAt takesT 5 = [] := rfl
theorem etn5 : listAt turnsT 5 = [] := rfl
theorem efl5 : isIn flatsT 5 = true := rfl
theorem etk15 : listAt takesT 15 = [] := rfl
theorem etn15 : listAt turnsT 15 = [] := rfl
theorem efl15 : isIn flatsT 15 = true := rfl
theorem etk21 : listAt takesT 21 = [] := rfl
theorem etn21 : listAt turnsT 21 = [] := rfl
theorem efl21 : isIn flatsT 21 = false := rfl
theorem etk23 : listAt takesT 23 = [] := rfl
theorem etn23 : listAt turnsT 23 = [] := rfl
theorem efl23 : isIn flatsT 23 = true := rfl
theorem etk25 : listAt takesT 25 = [] := rfl
theorem etn25 : listAt turnsT 25 = [] := rfl
theorem efl25 : isIn flatsT 25 = true := rfl
theorem etk27 : listAt takesT 27 = [] := rfl
theorem etn27 : listAt turnsT 27 = [] := rfl
theorem efl27 : isIn flatsT 27 = true := rfl
theorem etk28 : listAt takesT 28 = [] := rfl
theorem etn28 : listAt turnsT 28 = [] := rfl
theorem efl28 : isIn flatsT 28 = true := rfl
theorem etk29 : listAt takesT 29 = [] := rfl
theorem etn29 : listAt turnsT 29 = [] := rfl
theorem efl29 : isIn flatsT 29 = false := rfl
theorem etk30 : listAt takesT 30 = [] := rfl
theorem etn30 : listAt turnsT 30 = [] := rfl
theorem efl30 : isIn flatsT 30 = false := rfl
theorem etk31 : listAt takesT 31 = [] := rfl
theorem etn31 : listAt turnsT 31 = [] := rfl
theorem efl31 : isIn flatsT 31 = true := rfl
theorem etk32 : listAt takesT 32 = [] := rfl
theorem etn32 : listAt turnsT 32 = [] := rfl
theorem efl32 : isIn flatsT 32 = true := rfl
theorem etk46 : listAt takesT 46 = [] := rfl
theorem etn46 : listAt turnsT 46 = [] := rfl
theorem efl46 : isIn flatsT 46 = true := rfl
theorem etk47 : listAt takesT 47 = [] := rfl
theorem etn47 : listAt turnsT 47 = [] := rfl
theorem efl47 : isIn flatsT 47 = true := rfl
theorem etk48 : listAt takesT 48 = [] := rfl
theorem etn48 : listAt turnsT 48 = [] := rfl
theorem efl48 : isIn flatsT 48 = true := rfl
theorem etk49 : listAt takesT 49 = [] := rfl
theorem etn49 : listAt turnsT 49 = [] := rfl
theorem efl49 : isIn flatsT 49 = true := rfl
theorem etk54 : listAt takesT 54 = [] := rfl
theorem etn54 : listAt turnsT 54 = [] := rfl
theorem efl54 : isIn flatsT 54 = false := rfl
theorem etk56 : listAt takesT 56 = [] := rfl
theorem etn56 : listAt turnsT 56 = [] := rfl
theorem efl56 : isIn flatsT 56 = false := rfl
theorem etk57 : listAt takesT 57 = [] := rfl
theorem etn57 : listAt turnsT 57 = [] := rfl
theorem efl57 : isIn flatsT 57 = false := rfl
theorem etk58 : listAt takesT 58 = [] := rfl
theorem etn58 : listAt turnsT 58 = [] := rfl
theorem efl58 : isIn flatsT 58 = true := rfl
theorem etk59 : listAt takesT 59 = [] := rfl
theorem etn59 : listAt turnsT 59 = [] := rfl
theorem efl59 : isIn flatsT 59 = true := rfl
theorem etk60 : listAt takesT 60 = [] := rfl
theorem etn60 : listAt turnsT 60 = [] := rfl
theorem efl60 : isIn flatsT 60 = false := rfl
theorem etk61 : listAt takesT 61 = [] := rfl
theorem etn61 : listAt turnsT 61 = [] := rfl
theorem efl61 : isIn flatsT 61 = false := rfl
theorem etk66 : listAt takesT 66 = [] := rfl
theorem etn66 : listAt turnsT 66 = [] := rfl
theorem efl66 : isIn flatsT 66 = true := rfl
theorem etk67 : listAt takesT 67 = [] := rfl
theorem etn67 : listAt turnsT 67 = [] := rfl
theorem efl67 : isIn flatsT 67 = true := rfl
theorem etk68 : listAt takesT 68 = [] := rfl
theorem etn68 : listAt turnsT 68 = [] := rfl
theorem efl68 : isIn flatsT 68 = true := rfl
theorem etk69 : listAt takesT 69 = [] := rfl
theorem etn69 : listAt turnsT 69 = [] := rfl
theorem efl69 : isIn flatsT 69 = false := rfl
theorem etk70 : listAt takesT 70 = [] := rfl
theorem etn70 : listAt turnsT 70 = [] := rfl
theorem efl70 : isIn flatsT 70 = false := rfl
theorem etk82 : listAt takesT 82 = [] := rfl
theorem etn82 : listAt turnsT 82 = [] := rfl
theorem efl82 : isIn flatsT 82 = true := rfl
theorem etk85 : listAt takesT 85 = [] := rfl
theorem etn85 : listAt turnsT 85 = [] := rfl
theorem efl85 : isIn flatsT 85 = true := rfl
theorem etk86 : listAt takesT 86 = [] := rfl
theorem etn86 : listAt turnsT 86 = [] := rfl
theorem efl86 : isIn flatsT 86 = false := rfl
theorem etk87 : listAt takesT 87 = [] := rfl
theorem etn87 : listAt turnsT 87 = [] := rfl
theorem efl87 : isIn flatsT 87 = true := rfl
theorem etk88 : listAt takesT 88 = [] := rfl
theorem etn88 : listAt turnsT 88 = [] := rfl
theorem efl88 : isIn flatsT 88 = true := rfl
theorem etk91 : listAt takesT 91 = [] := rfl
theorem etn91 : listAt turnsT 91 = [] := rfl
theorem efl91 : isIn flatsT 91 = false := rfl
theorem etk92 : listAt takesT 92 = [0] := rfl
theorem etn92 : listAt turnsT 92 = [0] := rfl
theorem efl92 : isIn flatsT 92 = false := rfl
theorem etk96 : listAt takesT 96 = [] := rfl
theorem etn96 : listAt turnsT 96 = [] := rfl
theorem efl96 : isIn flatsT 96 = false := rfl
theorem etk97 : listAt takesT 97 = [] := rfl
theorem etn97 : listAt turnsT 97 = [] := rfl
theorem efl97 : isIn flatsT 97 = false := rfl
theorem etk98 : listAt takesT 98 = [] := rfl
theorem etn98 : listAt turnsT 98 = [] := rfl
theorem efl98 : isIn flatsT 98 = false := rfl
theorem etk104 : listAt takesT 104 = [] := rfl
theorem etn104 : listAt turnsT 104 = [] := rfl
theorem efl104 : isIn flatsT 104 = true := rfl
theorem etk105 : listAt takesT 105 = [] := rfl
theorem etn105 : listAt turnsT 105 = [] := rfl
theorem efl105 : isIn flatsT 105 = true := rfl
theorem etk106 : listAt takesT 106 = [] := rfl
theorem etn106 : listAt turnsT 106 = [] := rfl
theorem efl106 : isIn flatsT 106 = true := rfl
theorem etk107 : listAt takesT 107 = [] := rfl
theorem etn107 : listAt turnsT 107 = [] := rfl
theorem efl107 : isIn flatsT 107 = true := rfl
theorem etk108 : listAt takesT 108 = [] := rfl
theorem etn108 : listAt turnsT 108 = [] := rfl
theorem efl108 : isIn flatsT 108 = true := rfl
theorem etk109 : listAt takesT 109 = [] := rfl
theorem etn109 : listAt turnsT 109 = [] := rfl
theorem efl109 : isIn flatsT 109 = false := rfl
theorem etk110 : listAt takesT 110 = [] := rfl
theorem etn110 : listAt turnsT 110 = [] := rfl
theorem efl110 : isIn flatsT 110 = false := rfl
theorem etk111 : listAt takesT 111 = [] := rfl
theorem etn111 : listAt turnsT 111 = [] := rfl
theorem efl111 : isIn flatsT 111 = true := rfl
theorem etk112 : listAt takesT 112 = [] := rfl
theorem etn112 : listAt turnsT 112 = [] := rfl
theorem efl112 : isIn flatsT 112 = false := rfl
theorem etk117 : listAt takesT 117 = [] := rfl
theorem etn117 : listAt turnsT 117 = [] := rfl
theorem efl117 : isIn flatsT 117 = false := rfl
theorem etk126 : listAt takesT 126 = [] := rfl
theorem etn126 : listAt turnsT 126 = [] := rfl
theorem efl126 : isIn flatsT 126 = true := rfl
theorem etk127 : listAt takesT 127 = [] := rfl
theorem etn127 : listAt turnsT 127 = [] := rfl
theorem efl127 : isIn flatsT 127 = true := rfl
theorem etk128 : listAt takesT 128 = [] := rfl
theorem etn128 : listAt turnsT 128 = [] := rfl
theorem efl128 : isIn flatsT 128 = true := rfl
theorem etk129 : listAt takesT 129 = [] := rfl
theorem etn129 : listAt turnsT 129 = [] := rfl
theorem efl129 : isIn flatsT 129 = true := rfl
theorem etk145 : listAt takesT 145 = [] := rfl
theorem etn145 : listAt turnsT 145 = [] := rfl
theorem efl145 : isIn flatsT 145 = false := rfl
theorem etk146 : listAt takesT 146 = [] := rfl
theorem etn146 : listAt turnsT 146 = [] := rfl
theorem efl146 : isIn flatsT 146 = true := rfl
theorem etk152 : listAt takesT 152 = [] := rfl
theorem etn152 : listAt turnsT 152 = [] := rfl
theorem efl152 : isIn flatsT 152 = false := rfl
theorem etk158 : listAt takesT 158 = [] := rfl
theorem etn158 : listAt turnsT 158 = [] := rfl
theorem efl158 : isIn flatsT 158 = true := rfl
theorem etk159 : listAt takesT 159 = [] := rfl
theorem etn159 : listAt turnsT 159 = [] := rfl
theorem efl159 : isIn flatsT 159 = true := rfl
theorem etk179 : listAt takesT 179 = [] := rfl
theorem etn179 : listAt turnsT 179 = [] := rfl
theorem efl179 : isIn flatsT 179 = true := rfl
theorem etk187 : listAt takesT 187 = [] := rfl
theorem etn187 : listAt turnsT 187 = [] := rfl
theorem efl187 : isIn flatsT 187 = true := rfl
theorem etk188 : listAt takesT 188 = [] := rfl
theorem etn188 : listAt turnsT 188 = [] := rfl
theorem efl188 : isIn flatsT 188 = true := rfl
theorem etk190 : listAt takesT 190 = [] := rfl
theorem etn190 : listAt turnsT 190 = [] := rfl
theorem efl190 : isIn flatsT 190 = true := rfl
theorem etk192 : listAt takesT 192 = [] := rfl
theorem etn192 : listAt turnsT 192 = [] := rfl
theorem efl192 : isIn flatsT 192 = true := rfl
theorem etk209 : listAt takesT 209 = [] := rfl
theorem etn209 : listAt turnsT 209 = [] := rfl
theorem efl209 : isIn flatsT 209 = true := rfl
theorem etk210 : listAt takesT 210 = [] := rfl
theorem etn210 : listAt turnsT 210 = [] := rfl
theorem efl210 : isIn flatsT 210 = true := rfl
theorem etk211 : listAt takesT 211 = [] := rfl
theorem etn211 : listAt turnsT 211 = [] := rfl
theorem efl211 : isIn flatsT 211 = true := rfl
theorem etk219 : listAt takesT 219 = [] := rfl
theorem etn219 : listAt turnsT 219 = [] := rfl
theorem efl219 : isIn flatsT 219 = true := rfl
theorem eu8_34 : isIn u8sT 34 = true := rfl
end
end Go.Proofs.YtloekbdlmikkcaaGreatDoor.G
