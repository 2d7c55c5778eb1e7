/- What the table gives a symbolic run. No condition. -/
import Derived.Test.YtdddbifjkkhpbaaGreatDoorTabP
import Derived.Test.YtdddbifjkkhpbaaGreatDoorZvP7
namespace Go.Proofs.YtdddbifjkkhpbaaGreatDoor.G
open Go Go.Zv Go.Proofs Go.Proofs.YtdddbifjkkhpbaaGreatDoor
set_option maxRecDepth 100000
section
variable (i : FnI) (call : Nat → List V → Option (V × List V))
theorem ety3 : (envOf tab i call).tys 3 = some ti3 := rfl
theorem ety4 : (envOf tab i call).tys 4 = some ti4 := rfl
theorem ety5 : (envOf tab i call).tys 5 = some ti5 := rfl
theorem ety9 : (envOf tab i call).tys 9 = some ti9 := rfl
theorem ety22 : (envOf tab i call).tys 22 = some ti22 := rfl
theorem ety23 : (envOf tab i call).tys 23 = some ti23 := rfl
theorem ety26 : (envOf tab i call).tys 26 = some ti26 := rfl
theorem ety38 : (envOf tab i call).tys 38 = some ti38 := rfl
theorem ety42 : (envOf tab i call).tys 42 = some ti42 := rfl
theorem ety46 : (envOf tab i call).tys 46 = some ti46 := rfl
theorem ety48 : (envOf tab i call).tys 48 = some ti48 := rfl
theorem ety50 : (envOf tab i call).tys 50 = some ti50 := rfl
theorem ety52 : (envOf tab i call).tys 52 = some ti52 := rfl
theorem ety73 : (envOf tab i call).tys 73 = some ti73 := rfl
theorem ety82 : (envOf tab i call).tys 82 = some ti82 := rfl
theorem ety88 : (envOf tab i call).tys 88 = some ti88 := rfl
theorem ety126 : (envOf tab i call).tys 126 = some ti126 := rfl
theorem ety168 : (envOf tab i call).tys 168 = some ti168 := rfl
theorem ety170 : (envOf tab i call).tys 170 = some ti170 := rfl
theorem ety174 : (envOf tab i call).tys 174 = some ti174 := rfl
theorem ety178 : (envOf tab i call).tys 178 = some ti178 := rfl
theorem ety184 : (envOf tab i call).tys 184 = some ti184 := rfl
theorem ety210 : (envOf tab i call).tys 210 = some ti210 := rfl
theorem efixed : (envOf tab i call).fixed = i.fixed := rfl
theorem enests : (envOf tab i call).nests = i.nests := rfl
theorem eshares : (envOf tab i call).shares = i.shares := rfl
theorem ekeep (k : Nat) : (envOf tab i call).keep k = Go.Zv.look k i.keep := rfl
theorem eplan (k : Nat) : (envOf tab i call).plan k = Go.Zv.look k i.plans := rfl
theorem eu8 (k : Nat) : (envOf tab i call).u8s k = isIn u8sT k := rfl
theorem eflat (k : Nat) : (envOf tab i call).flat k = isIn flatsT k := rfl
theorem etakes (k : Nat) : (envOf tab i call).takes k = listAt takesT k := rfl
theorem eturns (k : Nat) : (envOf tab i call).turns k = listAt turnsT k := rfl
theorem ecall {R : Type} (f : Nat) (args : List V) (K : V → List V → Option R) : (envOf tab i call).call f args K = (match call f args with
  | some (res, outs) => K res outs
  | none => none) := rfl
theorem etk3 : listAt takesT 3 = [] := rfl
theorem etn3 : listAt turnsT 3 = [] := rfl
theorem efl3 : isIn flatsT 3 = true := rfl
theorem etk7 : listAt takesT 7 = [] := rfl
theorem etn7 : listAt turnsT 7 = [] := rfl
theorem efl7 : isIn flatsT 7 = true := rfl
theorem etk8 : listAt takesT 8 = [] := rfl
theorem etn8 : listAt turnsT 8 = [] := rfl
theorem efl8 : isIn flatsT 8 = true := rfl
theorem etk9 : listAt takesT 9 = [] := rfl
theorem etn9 : listAt turnsT 9 = [] := rfl
theorem efl9 : isIn flatsT 9 = false := rfl
theorem etk10 : listAt takesT 10 = [] := rfl
theorem etn10 : listAt turnsT 10 = [] := rfl
theorem efl10 : isIn flatsT 10 = false := rfl
theorem etk11 : listAt takesT 11 = [] := rfl
theorem etn11 : listAt turnsT 11 = [] := rfl
theorem efl11 : isIn flatsT 11 = false := rfl
theorem etk12 : listAt takesT 12 = [] := rfl
theorem etn12 : listAt turnsT 12 = [] := rfl
theorem efl12 : isIn flatsT 12 = true := rfl
theorem etk13 : listAt takesT 13 = [] := rfl
theorem etn13 : listAt turnsT 13 = [] := rfl
theorem efl13 : isIn flatsT 13 = true := rfl
theorem etk14 : listAt takesT 14 = [] := rfl
theorem etn14 : listAt turnsT 14 = [] := rfl
theorem efl14 : isIn flatsT 14 = false := rfl
theorem etk15 : listAt takesT 15 = [] := rfl
theorem etn15 : listAt turnsT 15 = [] := rfl
theorem efl15 : isIn flatsT 15 = true := rfl
theorem etk16 : listAt takesT 16 = [] := rfl
theorem etn16 : listAt turnsT 16 = [] := rfl
theorem efl16 : isIn flatsT 16 = false := rfl
theorem etk17 : listAt takesT 17 = [] := rfl
theorem etn17 : listAt turnsT 17 = [] := rfl
theorem efl17 : isIn flatsT 17 = true := rfl
theorem etk18 : listAt takesT 18 = [] := rfl
theorem etn18 : listAt turnsT 18 = [] := rfl
theorem efl18 : isIn flatsT 18 = false := rfl
theorem etk23 : listAt takesT 23 = [] := rfl
theorem etn23 : listAt turnsT 23 = [] := rfl
theorem efl23 : isIn flatsT 23 = true := rfl
theorem etk31 : listAt takesT 31 = [] := rfl
theorem etn31 : listAt turnsT 31 = [] := rfl
theorem efl31 : isIn flatsT 31 = true := rfl
theorem etk37 : listAt takesT 37 = [] := rfl
theorem etn37 : listAt turnsT 37 = [] := rfl
theorem efl37 : isIn flatsT 37 = true := rfl
theorem etk38 : listAt takesT 38 = [] := rfl
theorem etn38 : listAt turnsT 38 = [] := rfl
theorem efl38 : isIn flatsT 38 = true := rfl
theorem etk39 : listAt takesT 39 = [] := rfl
theorem etn39 : listAt turnsT 39 = [] := rfl
theorem efl39 : isIn flatsT 39 = true := rfl
theorem etk40 : listAt takesT 40 = [0] := rfl
theorem etn40 : listAt turnsT 40 = [] := rfl
theorem efl40 : isIn flatsT 40 = false := rfl
theorem etk41 : listAt takesT 41 = [] := rfl
theorem etn41 : listAt turnsT 41 = [] := rfl
theorem efl41 : isIn flatsT 41 = false := rfl
theorem etk42 : listAt takesT 42 = [] := rfl
theorem etn42 : listAt turnsT 42 = [] := rfl
theorem efl42 : isIn flatsT 42 = true := rfl
theorem etk43 : listAt takesT 43 = [] := rfl
theorem etn43 : listAt turnsT 43 = [] := rfl
theorem efl43 : isIn flatsT 43 = false := rfl
theorem etk44 : listAt takesT 44 = [] := rfl
theorem etn44 : listAt turnsT 44 = [] := rfl
theorem efl44 : isIn flatsT 44 = true := rfl
theorem etk45 : listAt takesT 45 = [] := rfl
theorem etn45 : listAt turnsT 45 = [] := rfl
theorem efl45 : isIn flatsT 45 = true := rfl
theorem etk46 : listAt takesT 46 = [0] := rfl
theorem etn46 : listAt turnsT 46 = [] := rfl
theorem efl46 : isIn flatsT 46 = false := rfl
theorem etk47 : listAt takesT 47 = [] := rfl
theorem etn47 : listAt turnsT 47 = [] := rfl
theorem efl47 : isIn flatsT 47 = true := rfl
theorem etk48 : listAt takesT 48 = [] := rfl
theorem etn48 : listAt turnsT 48 = [] := rfl
theorem efl48 : isIn flatsT 48 = false := rfl
theorem etk51 : listAt takesT 51 = [] := rfl
theorem etn51 : listAt turnsT 51 = [] := rfl
theorem efl51 : isIn flatsT 51 = true := rfl
theorem etk52 : listAt takesT 52 = [] := rfl
theorem etn52 : listAt turnsT 52 = [] := rfl
theorem efl52 : isIn flatsT 52 = true := rfl
theorem etk53 : listAt takesT 53 = [] := rfl
theorem etn53 : listAt turnsT 53 = [] := rfl
theorem efl53 : isIn flatsT 53 = true := rfl
theorem etk54 : listAt takesT 54 = [] := rfl
theorem etn54 : listAt turnsT 54 = [] := rfl
theorem efl54 : isIn flatsT 54 = true := rfl
theorem etk66 : listAt takesT 66 = [] := rfl
theorem etn66 : listAt turnsT 66 = [] := rfl
theorem efl66 : isIn flatsT 66 = true := rfl
theorem etk73 : listAt takesT 73 = [] := rfl
theorem etn73 : listAt turnsT 73 = [] := rfl
theorem efl73 : isIn flatsT 73 = true := rfl
theorem etk74 : listAt takesT 74 = [0, 2] := rfl
theorem etn74 : listAt turnsT 74 = [] := rfl
theorem efl74 : isIn flatsT 74 = false := rfl
theorem etk75 : listAt takesT 75 = [] := rfl
theorem etn75 : listAt turnsT 75 = [] := rfl
theorem efl75 : isIn flatsT 75 = true := rfl
theorem etk76 : listAt takesT 76 = [] := rfl
theorem etn76 : listAt turnsT 76 = [] := rfl
theorem efl76 : isIn flatsT 76 = true := rfl
theorem etk77 : listAt takesT 77 = [] := rfl
theorem etn77 : listAt turnsT 77 = [] := rfl
theorem efl77 : isIn flatsT 77 = true := rfl
theorem etk78 : listAt takesT 78 = [] := rfl
theorem etn78 : listAt turnsT 78 = [] := rfl
theorem efl78 : isIn flatsT 78 = true := rfl
theorem etk79 : listAt takesT 79 = [] := rfl
theorem etn79 : listAt turnsT 79 = [] := rfl
theorem efl79 : isIn flatsT 79 = false := rfl
theorem etk80 : listAt takesT 80 = [] := rfl
theorem etn80 : listAt turnsT 80 = [] := rfl
theorem efl80 : isIn flatsT 80 = false := rfl
theorem etk81 : listAt takesT 81 = [] := rfl
theorem etn81 : listAt turnsT 81 = [] := rfl
theorem efl81 : isIn flatsT 81 = false := rfl
theorem etk82 : listAt takesT 82 = [] := rfl
theorem etn82 : listAt turnsT 82 = [] := rfl
theorem efl82 : isIn flatsT 82 = false := rfl
theorem etk85 : listAt takesT 85 = [] := rfl
theorem etn85 : listAt turnsT 85 = [] := rfl
theorem efl85 : isIn flatsT 85 = true := rfl
theorem etk87 : listAt takesT 87 = [] := rfl
theorem etn87 : listAt turnsT 87 = [] := rfl
theorem efl87 : isIn flatsT 87 = true := rfl
theorem etk88 : listAt takesT 88 = [] := rfl
theorem etn88 : listAt turnsT 88 = [] := rfl
theorem efl88 : isIn flatsT 88 = true := rfl
theorem etk106 : listAt takesT 106 = [] := rfl
theorem etn106 : listAt turnsT 106 = [] := rfl
theorem efl106 : isIn flatsT 106 = true := rfl
theorem etk114 : listAt takesT 114 = [] := rfl
theorem etn114 : listAt turnsT 114 = [] := rfl
theorem efl114 : isIn flatsT 114 = true := rfl
theorem etk115 : listAt takesT 115 = [] := rfl
theorem etn115 : listAt turnsT 115 = [] := rfl
theorem efl115 : isIn flatsT 115 = true := rfl
theorem etk116 : listAt takesT 116 = [] := rfl
theorem etn116 : listAt turnsT 116 = [] := rfl
theorem efl116 : isIn flatsT 116 = true := rfl
theorem etk119 : listAt takesT 119 = [] := rfl
theorem etn119 : listAt turnsT 119 = [] := rfl
theorem efl119 : isIn flatsT 119 = true := rfl
theorem etk120 : listAt takesT 120 = [] := rfl
theorem etn120 : listAt turnsT 120 = [] := rfl
theorem efl120 : isIn flatsT 120 = false := rfl
theorem etk121 : listAt takesT 121 = [] := rfl
theorem etn121 : listAt turnsT 121 = [] := rfl
theorem efl121 : isIn flatsT 121 = false := rfl
theorem etk122 : listAt takesT 122 = [] := rfl
theorem etn122 : listAt turnsT 122 = [] := rfl
theorem efl122 : isIn flatsT 122 = true := rfl
theorem etk127 : listAt takesT 127 = [] := rfl
theorem etn127 : listAt turnsT 127 = [] := rfl
theorem efl127 : isIn flatsT 127 = true := rfl
theorem etk128 : listAt takesT 128 = [] := rfl
theorem etn128 : listAt turnsT 128 = [] := rfl
theorem efl128 : isIn flatsT 128 = true := rfl
theorem etk129 : listAt takesT 129 = [] := rfl
theorem etn129 : listAt turnsT 129 = [] := rfl
theorem efl129 : isIn flatsT 129 = true := rfl
theorem etk130 : listAt takesT 130 = [] := rfl
theorem etn130 : listAt turnsT 130 = [] := rfl
theorem efl130 : isIn flatsT 130 = true := rfl
theorem etk154 : listAt takesT 154 = [] := rfl
theorem etn154 : listAt turnsT 154 = [] := rfl
theorem efl154 : isIn flatsT 154 = true := rfl
theorem etk155 : listAt takesT 155 = [] := rfl
theorem etn155 : listAt turnsT 155 = [] := rfl
theorem efl155 : isIn flatsT 155 = false := rfl
theorem etk156 : listAt takesT 156 = [] := rfl
theorem etn156 : listAt turnsT 156 = [] := rfl
theorem efl156 : isIn flatsT 156 = true := rfl
theorem etk157 : listAt takesT 157 = [] := rfl
theorem etn157 : listAt turnsT 157 = [] := rfl
theorem efl157 : isIn flatsT 157 = false := rfl
theorem etk158 : listAt takesT 158 = [] := rfl
theorem etn158 : listAt turnsT 158 = [] := rfl
theorem efl158 : isIn flatsT 158 = true := rfl
theorem etk159 : listAt takesT 159 = [] := rfl
theorem etn159 : listAt turnsT 159 = [] := rfl
theorem efl159 : isIn flatsT 159 = true := rfl
theorem etk161 : listAt takesT 161 = [] := rfl
theorem etn161 : listAt turnsT 161 = [] := rfl
theorem efl161 : isIn flatsT 161 = true := rfl
theorem etk162 : listAt takesT 162 = [] := rfl
theorem etn162 : listAt turnsT 162 = [] := rfl
theorem efl162 : isIn flatsT 162 = true := rfl
theorem etk197 : listAt takesT 197 = [] := rfl
theorem etn197 : listAt turnsT 197 = [] := rfl
theorem efl197 : isIn flatsT 197 = true := rfl
theorem etk198 : listAt takesT 198 = [] := rfl
theorem etn198 : listAt turnsT 198 = [] := rfl
theorem efl198 : isIn flatsT 198 = true := rfl
theorem etk199 : listAt takesT 199 = [] := rfl
theorem etn199 : listAt turnsT 199 = [] := rfl
theorem efl199 : isIn flatsT 199 = true := rfl
theorem etk200 : listAt takesT 200 = [] := rfl
theorem etn200 : listAt turnsT 200 = [] := rfl
theorem efl200 : isIn flatsT 200 = true := rfl
theorem etk202 : listAt takesT 202 = [] := rfl
theorem etn202 : listAt turnsT 202 = [] := rfl
theorem efl202 : isIn flatsT 202 = true := rfl
theorem etk220 : listAt takesT 220 = [] := rfl
theorem etn220 : listAt turnsT 220 = [] := rfl
theorem efl220 : isIn flatsT 220 = true := rfl
theorem etk221 : listAt takesT 221 = [] := rfl
theorem etn221 : listAt turnsT 221 = [] := rfl
theorem efl221 : isIn flatsT 221 = true := rfl
theorem etk222 : listAt takesT 222 = [] := rfl
theorem etn222 : listAt turnsT 222 = [] := rfl
theorem efl222 : isIn flatsT 222 = true := rfl
theorem etk234 : listAt takesT 234 = [] := rfl
theorem etn234 : listAt turnsT 234 = [] := rfl
theorem efl234 : isIn flatsT 234 = true := rfl
theorem eu8_3 : isIn u8sT 3 = false := rfl
theorem eu8_4 : isIn u8sT 4 = false := rfl
theorem eu8_5 : isIn u8sT 5 = false := rfl
theorem eu8_9 : isIn u8sT 9 = false := rfl
theorem eu8_22 : isIn u8sT 22 = false := rfl
theorem eu8_23 : isIn u8sT 23 = true := rfl
theorem eu8_26 : isIn u8sT 26 = false := rfl
theorem eu8_38 : isIn u8sT 38 = false := rfl
theorem eu8_42 : isIn u8sT 42 = false := rfl
theorem eu8_46 : isIn u8sT 46 = false := rfl
theorem eu8_48 : isIn u8sT 48 = false := rfl
theorem eu8_50 : isIn u8sT 50 = false := rfl
theorem eu8_52 : isIn u8sT 52 = false := rfl
theorem eu8_73 : isIn u8sT 73 = false := rfl
theorem eu8_82 : isIn u8sT 82 = false := rfl
theorem eu8_88 : isIn u8sT 88 = false := rfl
theorem eu8_126 : isIn u8sT 126 = false := rfl
theorem eu8_168 : isIn u8sT 168 = false := rfl
theorem eu8_170 : isIn u8sT 170 = false := rfl
theorem eu8_174 : isIn u8sT 174 = false := rfl
theorem eu8_178 : isIn u8sT 178 = false := rfl
theorem eu8_184 : isIn u8sT 184 = false := rfl
theorem eu8_210 : isIn u8sT 210 = false := rfl
end
end Go.Proofs.YtdddbifjkkhpbaaGreatDoor.G
