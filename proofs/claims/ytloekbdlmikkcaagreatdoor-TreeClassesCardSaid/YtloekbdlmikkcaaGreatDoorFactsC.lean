/- What the table gives a symbolic run. No condition. -/
import Derived.Test.YtloekbdlmikkcaaGreatDoorTabC
import Derived.Test.YtloekbdlmikkcaaGreatDoorZvC7
namespace Go.Proofs.YtloekbdlmikkcaaGreatDoor.G
open Go Go.Zv Go.Proofs Go.Proofs.YtloekbdlmikkcaaGreatDoor
set_option maxRecDepth 100000
section
variable (i : FnI) (call : Nat → List V → Option (V × List V))
theorem ety3 : (envOf tab i call).tys 3 = some ti3 := rfl
theorem ety4 : (envOf tab i call).tys 4 = some ti4 := rfl
theorem ety5 : (envOf tab i call).tys 5 = some ti5 := rfl
theorem ety9 : (envOf tab i call).tys 9 = some ti9 := rfl
theorem ety22 : (envOf tab i call).tys 22 = some ti22 := rfl
theorem ety25 : (envOf tab i call).tys 25 = some ti25 := rfl
theorem ety26 : (envOf tab i call).tys 26 = some ti26 := rfl
theorem ety34 : (envOf tab i call).tys 34 = some ti34 := rfl
theorem ety37 : (envOf tab i call).tys 37 = some ti37 := rfl
theorem ety39 : (envOf tab i call).tys 39 = some ti39 := rfl
theorem ety55 : (envOf tab i call).tys 55 = some ti55 := rfl
theorem ety59 : (envOf tab i call).tys 59 = some ti59 := rfl
theorem ety69 : (envOf tab i call).tys 69 = some ti69 := rfl
theorem ety74 : (envOf tab i call).tys 74 = some ti74 := rfl
theorem ety82 : (envOf tab i call).tys 82 = some ti82 := rfl
theorem ety110 : (envOf tab i call).tys 110 = some ti110 := rfl
theorem ety132 : (envOf tab i call).tys 132 = some ti132 := rfl
theorem ety146 : (envOf tab i call).tys 146 = some ti146 := rfl
theorem ety147 : (envOf tab i call).tys 147 = some ti147 := rfl
theorem ety155 : (envOf tab i call).tys 155 = some ti155 := rfl
theorem ety159 : (envOf tab i call).tys 159 = some ti159 := rfl
theorem ety161 : (envOf tab i call).tys 161 = some ti161 := rfl
theorem ety165 : (envOf tab i call).tys 165 = some ti165 := rfl
theorem ety171 : (envOf tab i call).tys 171 = some ti171 := rfl
theorem ety174 : (envOf tab i call).tys 174 = some ti174 := rfl
theorem ety189 : (envOf tab i call).tys 189 = some ti189 := rfl
theorem efixed : (envOf tab i call).fixed = i.fixed := rfl
theorem enests : (envOf tab i call).nests = i.nests := rfl
theorem eshares : (envOf tab i call).shares = i.shares := rfl
theorem ekeep (k : Nat) : (envOf tab i call).keep k = Go.Zv.look k i.keep := rfl
theorem eplan (k : Nat) : (envOf tab i call).plan k = Go.Zv.look k i.plans := rfl
theorem eu8 (k : Nat) : (envOf tab i call).u8s k = isIn u8sT k := rfl
theorem eflat (k : Nat) : (envOf tab i call).flat k = isIn flatsT k := rfl
theorem etakes (k : Nat) : (envOf tab i call).takes k = listAt takesT k := rfl
theorem eturns (k : Nat) : (envOf tab i call).turns k = listAt turnsT k := rfl
theorem ecall {R : Type} (f : Nat) (args : List V) (K : V → List V → Option R) : (envOf tab i call).call f args K = (match call f args with
 | some (res, outs) => K res outs
 | none => none) := rfl
theorem etk9 : listAt takesT 9 = [] := rfl
theorem etn9 : listAt turnsT 9 = [] := rfl
theorem efl9 : isIn flatsT 9 = true := rfl
theorem etk10 : listAt takesT 10 = [] := rfl
theorem etn10 : listAt turnsT 10 = [] := rfl
theorem efl10 : isIn flatsT 10 = true := rfl
theorem etk11 : listAt takesT 11 = [] := rfl
theorem etn11 : listAt turnsT 11 = [] := rfl
theorem efl11 : isIn flatsT 11 = true := rfl
theorem etk12 : listAt takesT 12 = [] := rfl
theorem etn12 : listAt turnsT 12 = [] := rfl
theorem efl12 : isIn flatsT 12 = false := rfl
theorem etk13 : listAt takesT 13 = [] := rfl
theorem etn13 : listAt turnsT 13 = [] := rfl
theorem efl13 : isIn flatsT 13 = false := rfl
theorem etk15 : listAt takesT 15 = [] := rfl
theorem etn15 : listAt turnsT 15 = [] := rfl
theorem efl15 : isIn flatsT 15 = true := rfl
theorem etk17 : listAt takesT 17 = [] := rfl
theorem etn17 : listAt turnsT 17 = [] := rfl
theorem efl17 : isIn flatsT 17 = true := rfl
theorem etk18 : listAt takesT 18 = [] := rfl
theorem etn18 : listAt turnsT 18 = [] := rfl
theorem efl18 : isIn flatsT 18 = false := rfl
theorem etk25 : listAt takesT 25 = [] := rfl
theorem etn25 : listAt turnsT 25 = [] := rfl
theorem efl25 : isIn flatsT 25 = true := rfl
theorem etk27 : listAt takesT 27 = [] := rfl
theorem etn27 : listAt turnsT 27 = [] := rfl
theorem efl27 : isIn flatsT 27 = true := rfl
theorem etk36 : listAt takesT 36 = [] := rfl
theorem etn36 : listAt turnsT 36 = [] := rfl
theorem efl36 : isIn flatsT 36 = false := rfl
theorem etk37 : listAt takesT 37 = [] := rfl
theorem etn37 : listAt turnsT 37 = [] := rfl
theorem efl37 : isIn flatsT 37 = false := rfl
theorem etk38 : listAt takesT 38 = [] := rfl
theorem etn38 : listAt turnsT 38 = [] := rfl
theorem efl38 : isIn flatsT 38 = true := rfl
theorem etk39 : listAt takesT 39 = [] := rfl
theorem etn39 : listAt turnsT 39 = [] := rfl
theorem efl39 : isIn flatsT 39 = true := rfl
theorem etk40 : listAt takesT 40 = [] := rfl
theorem etn40 : listAt turnsT 40 = [] := rfl
theorem efl40 : isIn flatsT 40 = true := rfl
theorem etk41 : listAt takesT 41 = [] := rfl
theorem etn41 : listAt turnsT 41 = [] := rfl
theorem efl41 : isIn flatsT 41 = true := rfl
theorem etk42 : listAt takesT 42 = [] := rfl
theorem etn42 : listAt turnsT 42 = [] := rfl
theorem efl42 : isIn flatsT 42 = false := rfl
theorem etk43 : listAt takesT 43 = [] := rfl
theorem etn43 : listAt turnsT 43 = [] := rfl
theorem efl43 : isIn flatsT 43 = false := rfl
theorem etk44 : listAt takesT 44 = [0] := rfl
theorem etn44 : listAt turnsT 44 = [] := rfl
theorem efl44 : isIn flatsT 44 = false := rfl
theorem etk46 : listAt takesT 46 = [] := rfl
theorem etn46 : listAt turnsT 46 = [] := rfl
theorem efl46 : isIn flatsT 46 = true := rfl
theorem etk47 : listAt takesT 47 = [] := rfl
theorem etn47 : listAt turnsT 47 = [] := rfl
theorem efl47 : isIn flatsT 47 = true := rfl
theorem etk48 : listAt takesT 48 = [] := rfl
theorem etn48 : listAt turnsT 48 = [] := rfl
theorem efl48 : isIn flatsT 48 = true := rfl
theorem etk49 : listAt takesT 49 = [] := rfl
theorem etn49 : listAt turnsT 49 = [] := rfl
theorem efl49 : isIn flatsT 49 = true := rfl
theorem etk54 : listAt takesT 54 = [] := rfl
theorem etn54 : listAt turnsT 54 = [] := rfl
theorem efl54 : isIn flatsT 54 = false := rfl
theorem etk66 : listAt takesT 66 = [] := rfl
theorem etn66 : listAt turnsT 66 = [] := rfl
theorem efl66 : isIn flatsT 66 = true := rfl
theorem etk67 : listAt takesT 67 = [] := rfl
theorem etn67 : listAt turnsT 67 = [] := rfl
theorem efl67 : isIn flatsT 67 = true := rfl
theorem etk72 : listAt takesT 72 = [] := rfl
theorem etn72 : listAt turnsT 72 = [] := rfl
theorem efl72 : isIn flatsT 72 = true := rfl
theorem etk73 : listAt takesT 73 = [] := rfl
theorem etn73 : listAt turnsT 73 = [] := rfl
theorem efl73 : isIn flatsT 73 = true := rfl
theorem etk74 : listAt takesT 74 = [0] := rfl
theorem etn74 : listAt turnsT 74 = [] := rfl
theorem efl74 : isIn flatsT 74 = false := rfl
theorem etk75 : listAt takesT 75 = [] := rfl
theorem etn75 : listAt turnsT 75 = [] := rfl
theorem efl75 : isIn flatsT 75 = true := rfl
theorem etk76 : listAt takesT 76 = [] := rfl
theorem etn76 : listAt turnsT 76 = [] := rfl
theorem efl76 : isIn flatsT 76 = true := rfl
theorem etk77 : listAt takesT 77 = [] := rfl
theorem etn77 : listAt turnsT 77 = [] := rfl
theorem efl77 : isIn flatsT 77 = false := rfl
theorem etk78 : listAt takesT 78 = [] := rfl
theorem etn78 : listAt turnsT 78 = [] := rfl
theorem efl78 : isIn flatsT 78 = false := rfl
theorem etk79 : listAt takesT 79 = [] := rfl
theorem etn79 : listAt turnsT 79 = [] := rfl
theorem efl79 : isIn flatsT 79 = false := rfl
theorem etk80 : listAt takesT 80 = [] := rfl
theorem etn80 : listAt turnsT 80 = [] := rfl
theorem efl80 : isIn flatsT 80 = true := rfl
theorem etk81 : listAt takesT 81 = [] := rfl
theorem etn81 : listAt turnsT 81 = [] := rfl
theorem efl81 : isIn flatsT 81 = false := rfl
theorem etk82 : listAt takesT 82 = [] := rfl
theorem etn82 : listAt turnsT 82 = [] := rfl
theorem efl82 : isIn flatsT 82 = true := rfl
theorem etk83 : listAt takesT 83 = [0] := rfl
theorem etn83 : listAt turnsT 83 = [] := rfl
theorem efl83 : isIn flatsT 83 = false := rfl
theorem etk84 : listAt takesT 84 = [] := rfl
theorem etn84 : listAt turnsT 84 = [] := rfl
theorem efl84 : isIn flatsT 84 = false := rfl
theorem etk85 : listAt takesT 85 = [] := rfl
theorem etn85 : listAt turnsT 85 = [] := rfl
theorem efl85 : isIn flatsT 85 = true := rfl
theorem etk86 : listAt takesT 86 = [] := rfl
theorem etn86 : listAt turnsT 86 = [] := rfl
theorem efl86 : isIn flatsT 86 = false := rfl
theorem etk87 : listAt takesT 87 = [] := rfl
theorem etn87 : listAt turnsT 87 = [] := rfl
theorem efl87 : isIn flatsT 87 = true := rfl
theorem etk88 : listAt takesT 88 = [] := rfl
theorem etn88 : listAt turnsT 88 = [] := rfl
theorem efl88 : isIn flatsT 88 = true := rfl
theorem etk91 : listAt takesT 91 = [] := rfl
theorem etn91 : listAt turnsT 91 = [] := rfl
theorem efl91 : isIn flatsT 91 = false := rfl
theorem etk92 : listAt takesT 92 = [0] := rfl
theorem etn92 : listAt turnsT 92 = [0] := rfl
theorem efl92 : isIn flatsT 92 = false := rfl
theorem etk94 : listAt takesT 94 = [] := rfl
theorem etn94 : listAt turnsT 94 = [] := rfl
theorem efl94 : isIn flatsT 94 = true := rfl
theorem etk104 : listAt takesT 104 = [] := rfl
theorem etn104 : listAt turnsT 104 = [] := rfl
theorem efl104 : isIn flatsT 104 = true := rfl
theorem etk105 : listAt takesT 105 = [] := rfl
theorem etn105 : listAt turnsT 105 = [] := rfl
theorem efl105 : isIn flatsT 105 = true := rfl
theorem etk106 : listAt takesT 106 = [] := rfl
theorem etn106 : listAt turnsT 106 = [] := rfl
theorem efl106 : isIn flatsT 106 = true := rfl
theorem etk107 : listAt takesT 107 = [] := rfl
theorem etn107 : listAt turnsT 107 = [] := rfl
theorem efl107 : isIn flatsT 107 = true := rfl
theorem etk108 : listAt takesT 108 = [] := rfl
theorem etn108 : listAt turnsT 108 = [] := rfl
theorem efl108 : isIn flatsT 108 = true := rfl
theorem etk113 : listAt takesT 113 = [] := rfl
theorem etn113 : listAt turnsT 113 = [] := rfl
theorem efl113 : isIn flatsT 113 = false := rfl
theorem etk114 : listAt takesT 114 = [] := rfl
theorem etn114 : listAt turnsT 114 = [] := rfl
theorem efl114 : isIn flatsT 114 = true := rfl
theorem etk115 : listAt takesT 115 = [0, 2] := rfl
theorem etn115 : listAt turnsT 115 = [] := rfl
theorem efl115 : isIn flatsT 115 = false := rfl
theorem etk116 : listAt takesT 116 = [] := rfl
theorem etn116 : listAt turnsT 116 = [] := rfl
theorem efl116 : isIn flatsT 116 = true := rfl
theorem etk117 : listAt takesT 117 = [] := rfl
theorem etn117 : listAt turnsT 117 = [] := rfl
theorem efl117 : isIn flatsT 117 = false := rfl
theorem etk118 : listAt takesT 118 = [] := rfl
theorem etn118 : listAt turnsT 118 = [] := rfl
theorem efl118 : isIn flatsT 118 = false := rfl
theorem etk119 : listAt takesT 119 = [] := rfl
theorem etn119 : listAt turnsT 119 = [] := rfl
theorem efl119 : isIn flatsT 119 = true := rfl
theorem etk120 : listAt takesT 120 = [] := rfl
theorem etn120 : listAt turnsT 120 = [] := rfl
theorem efl120 : isIn flatsT 120 = true := rfl
theorem etk121 : listAt takesT 121 = [] := rfl
theorem etn121 : listAt turnsT 121 = [] := rfl
theorem efl121 : isIn flatsT 121 = true := rfl
theorem etk122 : listAt takesT 122 = [] := rfl
theorem etn122 : listAt turnsT 122 = [] := rfl
theorem efl122 : isIn flatsT 122 = true := rfl
theorem etk123 : listAt takesT 123 = [] := rfl
theorem etn123 : listAt turnsT 123 = [] := rfl
theorem efl123 : isIn flatsT 123 = true := rfl
theorem etk124 : listAt takesT 124 = [] := rfl
theorem etn124 : listAt turnsT 124 = [] := rfl
theorem efl124 : isIn flatsT 124 = true := rfl
theorem etk125 : listAt takesT 125 = [] := rfl
theorem etn125 : listAt turnsT 125 = [] := rfl
theorem efl125 : isIn flatsT 125 = false := rfl
theorem etk126 : listAt takesT 126 = [] := rfl
theorem etn126 : listAt turnsT 126 = [] := rfl
theorem efl126 : isIn flatsT 126 = true := rfl
theorem etk127 : listAt takesT 127 = [] := rfl
theorem etn127 : listAt turnsT 127 = [] := rfl
theorem efl127 : isIn flatsT 127 = true := rfl
theorem etk128 : listAt takesT 128 = [] := rfl
theorem etn128 : listAt turnsT 128 = [] := rfl
theorem efl128 : isIn flatsT 128 = true := rfl
theorem etk129 : listAt takesT 129 = [] := rfl
theorem etn129 : listAt turnsT 129 = [] := rfl
theorem efl129 : isIn flatsT 129 = true := rfl
theorem etk135 : listAt takesT 135 = [] := rfl
theorem etn135 : listAt turnsT 135 = [] := rfl
theorem efl135 : isIn flatsT 135 = true := rfl
theorem etk147 : listAt takesT 147 = [] := rfl
theorem etn147 : listAt turnsT 147 = [] := rfl
theorem efl147 : isIn flatsT 147 = true := rfl
theorem etk148 : listAt takesT 148 = [] := rfl
theorem etn148 : listAt turnsT 148 = [] := rfl
theorem efl148 : isIn flatsT 148 = true := rfl
theorem etk149 : listAt takesT 149 = [] := rfl
theorem etn149 : listAt turnsT 149 = [] := rfl
theorem efl149 : isIn flatsT 149 = true := rfl
theorem etk152 : listAt takesT 152 = [] := rfl
theorem etn152 : listAt turnsT 152 = [] := rfl
theorem efl152 : isIn flatsT 152 = false := rfl
theorem etk153 : listAt takesT 153 = [] := rfl
theorem etn153 : listAt turnsT 153 = [] := rfl
theorem efl153 : isIn flatsT 153 = true := rfl
theorem etk154 : listAt takesT 154 = [] := rfl
theorem etn154 : listAt turnsT 154 = [] := rfl
theorem efl154 : isIn flatsT 154 = false := rfl
theorem etk155 : listAt takesT 155 = [] := rfl
theorem etn155 : listAt turnsT 155 = [] := rfl
theorem efl155 : isIn flatsT 155 = true := rfl
theorem etk156 : listAt takesT 156 = [] := rfl
theorem etn156 : listAt turnsT 156 = [] := rfl
theorem efl156 : isIn flatsT 156 = true := rfl
theorem etk158 : listAt takesT 158 = [] := rfl
theorem etn158 : listAt turnsT 158 = [] := rfl
theorem efl158 : isIn flatsT 158 = true := rfl
theorem etk159 : listAt takesT 159 = [] := rfl
theorem etn159 : listAt turnsT 159 = [] := rfl
theorem efl159 : isIn flatsT 159 = true := rfl
theorem etk171 : listAt takesT 171 = [] := rfl
theorem etn171 : listAt turnsT 171 = [] := rfl
theorem efl171 : isIn flatsT 171 = true := rfl
theorem etk187 : listAt takesT 187 = [] := rfl
theorem etn187 : listAt turnsT 187 = [] := rfl
theorem efl187 : isIn flatsT 187 = true := rfl
theorem etk188 : listAt takesT 188 = [] := rfl
theorem etn188 : listAt turnsT 188 = [] := rfl
theorem efl188 : isIn flatsT 188 = true := rfl
theorem etk189 : listAt takesT 189 = [] := rfl
theorem etn189 : listAt turnsT 189 = [] := rfl
theorem efl189 : isIn flatsT 189 = true := rfl
theorem etk190 : listAt takesT 190 = [] := rfl
theorem etn190 : listAt turnsT 190 = [] := rfl
theorem efl190 : isIn flatsT 190 = true := rfl
theorem etk192 : listAt takesT 192 = [] := rfl
theorem etn192 : listAt turnsT 192 = [] := rfl
theorem efl192 : isIn flatsT 192 = true := rfl
theorem etk209 : listAt takesT 209 = [] := rfl
theorem etn209 : listAt turnsT 209 = [] := rfl
theorem efl209 : isIn flatsT 209 = true := rfl
theorem etk210 : listAt takesT 210 = [] := rfl
theorem etn210 : listAt turnsT 210 = [] := rfl
theorem efl210 : isIn flatsT 210 = true := rfl
theorem etk211 : listAt takesT 211 = [] := rfl
theorem etn211 : listAt turnsT 211 = [] := rfl
theorem efl211 : isIn flatsT 211 = true := rfl
theorem etk219 : listAt takesT 219 = [] := rfl
theorem etn219 : listAt turnsT 219 = [] := rfl
theorem efl219 : isIn flatsT 219 = true := rfl
theorem eu8_34 : isIn u8sT 34 = true := rfl
end
end Go.Proofs.YtloekbdlmikkcaaGreatDoor.G
