/- What is known of the library's functions, as the plain functions use it. No condition. -/
import Derived.Test.YtedbfdlgiilapaaGreatDoorPlainL
import Derived.Test.YtedbfdlgiilapaaGreatDoorFactsL
import Derived.Test.YtedbfdlgiilapaaGreatDoorKnownL
set_option linter.unusedSimpArgs false
set_option linter.unusedVariables false
namespace Go.Proofs.YtedbfdlgiilapaaGreatDoor.G
open Go Go.Zv Go.Zv.G Go.Proofs Go.Proofs.YtedbfdlgiilapaaGreatDoor
set_option maxRecDepth 100000
noncomputable abbrev prims:Nat→List V→Option (V×List V):=Go.Proofs.YtedbfdlgiilapaaGreatDoor.prims
theorem ints_map (s:List UInt8):ints? (s.map encB)=some (s.map fun b=>(b.toNat:Int)):=by
 induction s with
 | nil=>rfl
 | cons b s ih=>simp[ints?,encB,ih]
theorem strs_map (l:List (List UInt8)):strs (l.map Zv.encS)=some l:=by
 induction l with
 | nil=>rfl
 | cons b s ih=>simp[strs,Zv.encS,ih]
theorem letN_same:letG=Go.Proofs.YtedbfdlgiilapaaGreatDoor.letN:=rfl
theorem N7 (args:List V):prims 7 args=none:=rfl
theorem N25 (args:List V):prims 25 args=none:=rfl
theorem N26 (args:List V):prims 26 args=none:=rfl
theorem N27 (args:List V):prims 27 args=none:=rfl
theorem N28 (args:List V):prims 28 args=none:=rfl
theorem N29 (args:List V):prims 29 args=none:=rfl
theorem N30 (args:List V):prims 30 args=none:=rfl
theorem N31 (args:List V):prims 31 args=none:=rfl
theorem N33 (args:List V):prims 33 args=none:=rfl
theorem N34 (args:List V):prims 34 args=none:=rfl
theorem N35 (args:List V):prims 35 args=none:=rfl
theorem N37 (args:List V):prims 37 args=none:=rfl
theorem N38 (args:List V):prims 38 args=none:=rfl
theorem N39 (args:List V):prims 39 args=none:=rfl
theorem N40 (args:List V):prims 40 args=none:=rfl
theorem N41 (args:List V):prims 41 args=none:=rfl
theorem N42 (args:List V):prims 42 args=none:=rfl
theorem N63 (args:List V):prims 63 args=none:=rfl
theorem N64 (args:List V):prims 64 args=none:=rfl
theorem N65 (args:List V):prims 65 args=none:=rfl
theorem N66 (args:List V):prims 66 args=none:=rfl
theorem N67 (args:List V):prims 67 args=none:=rfl
theorem N68 (args:List V):prims 68 args=none:=rfl
theorem N69 (args:List V):prims 69 args=none:=rfl
theorem N70 (args:List V):prims 70 args=none:=rfl
theorem N71 (args:List V):prims 71 args=none:=rfl
theorem N72 (args:List V):prims 72 args=none:=rfl
theorem N73 (args:List V):prims 73 args=none:=rfl
theorem N74 (args:List V):prims 74 args=none:=rfl
theorem N75 (args:List V):prims 75 args=none:=rfl
theorem N76 (args:List V):prims 76 args=none:=rfl
theorem N77 (args:List V):prims 77 args=none:=rfl
theorem N78 (args:List V):prims 78 args=none:=rfl
theorem N79 (args:List V):prims 79 args=none:=rfl
theorem N95 (args:List V):prims 95 args=none:=rfl
theorem N96 (args:List V):prims 96 args=none:=rfl
theorem N99 (args:List V):prims 99 args=none:=rfl
theorem N100 (args:List V):prims 100 args=none:=rfl
theorem N101 (args:List V):prims 101 args=none:=rfl
theorem N102 (args:List V):prims 102 args=none:=rfl
theorem N103 (args:List V):prims 103 args=none:=rfl
theorem N105 (args:List V):prims 105 args=none:=rfl
theorem N107 (args:List V):prims 107 args=none:=rfl
theorem N109 (args:List V):prims 109 args=none:=rfl
theorem N110 (args:List V):prims 110 args=none:=rfl
theorem N111 (args:List V):prims 111 args=none:=rfl
theorem N112 (args:List V):prims 112 args=none:=rfl
theorem N128 (args:List V):prims 128 args=none:=rfl
theorem N129 (args:List V):prims 129 args=none:=rfl
theorem N143 (args:List V):prims 143 args=none:=rfl
theorem N147 (args:List V):prims 147 args=none:=rfl
theorem N148 (args:List V):prims 148 args=none:=rfl
theorem N149 (args:List V):prims 149 args=none:=rfl
theorem N151 (args:List V):prims 151 args=none:=rfl
theorem N152 (args:List V):prims 152 args=none:=rfl
theorem N153 (args:List V):prims 153 args=none:=rfl
theorem N154 (args:List V):prims 154 args=none:=rfl
theorem N155 (args:List V):prims 155 args=none:=rfl
theorem N156 (args:List V):prims 156 args=none:=rfl
theorem N157 (args:List V):prims 157 args=none:=rfl
theorem N159 (args:List V):prims 159 args=none:=rfl
theorem N164 (args:List V):prims 164 args=none:=rfl
theorem N165 (args:List V):prims 165 args=none:=rfl
theorem N182 (args:List V):prims 182 args=none:=rfl
theorem N183 (args:List V):prims 183 args=none:=rfl
theorem N188 (args:List V):prims 188 args=none:=rfl
theorem N189 (args:List V):prims 189 args=none:=rfl
theorem N190 (args:List V):prims 190 args=none:=rfl
theorem N191 (args:List V):prims 191 args=none:=rfl
theorem N204 (args:List V):prims 204 args=none:=rfl
theorem N205 (args:List V):prims 205 args=none:=rfl
theorem N214 (args:List V):prims 214 args=none:=rfl
theorem N217 (args:List V):prims 217 args=none:=rfl
theorem N220 (args:List V):prims 220 args=none:=rfl
theorem N225 (args:List V):prims 225 args=none:=rfl
theorem N228 (args:List V):prims 228 args=none:=rfl
theorem N231 (args:List V):prims 231 args=none:=rfl
theorem P224 (n d:Nat) (p1:List UInt8) (p2:Int):callD tab prims n (d+1) 224 [.str p1,.int .u8 p2]=some (.int .i64 (cnt8 p2.toNat.toUInt8 p1:Nat),[.ud,.ud]):=by
 refine prim_rule ?_
 change primCount [.str p1,.int .u8 p2]=some (.int .i64 (cnt8 p2.toNat.toUInt8 p1:Nat),[.ud,.ud])
 simp[primCount,bytesV?,asBytes_map]
theorem P227 (n d:Nat) (p1:List UInt8) (p2:Int):callD tab prims n (d+1) 227 [.str p1,.int .u8 p2]=some (.int .i64 (idx8 p2.toNat.toUInt8 p1 0),[.ud,.ud]):=by
 refine prim_rule ?_
 change primIndex [.str p1,.int .u8 p2]=some (.int .i64 (idx8 p2.toNat.toUInt8 p1 0),[.ud,.ud])
 simp[primIndex,bytesV?,asBytes_map]
theorem P127 (n d:Nat) (p1:List UInt8):callD tab prims n (d+1) 127 [.str p1,.fn 218 []]=some (.bool (p1.any fun b=>letG b.toNat),[.ud,.ud]):=by
 refine prim_rule ?_
 change primContains 218 Go.Proofs.YtedbfdlgiilapaaGreatDoor.letN [.str p1,.fn 218 []]=some (.bool (p1.any fun b=>letG b.toNat),[.ud,.ud])
 simp[primContains,letN_same]
theorem P158 (n d:Nat) {f1:Bool} (p1:List UInt8) (p2:Int):callD tab prims n (d+1) 158 [.sl 1 f1 (p1.map encB),.int .u8 p2]=some (.int .i64 (cnt8 p2.toNat.toUInt8 p1:Nat),[.ud,.ud]):=by
 refine prim_rule ?_
 change primCount [.sl 1 f1 (p1.map encB),.int .u8 p2]=some (.int .i64 (cnt8 p2.toNat.toUInt8 p1:Nat),[.ud,.ud])
 simp[primCount,bytesV?,asBytes_map]
theorem P140 (n d:Nat) (p1:List GFile) (p2:Int) (rs:List GFile) (h:growG p1 p2=some rs):callD tab prims n (d+1) 140 [.sl 2 true (p1.map eGF),.int .i64 p2]=some (.own false 2 (rs.map eGF),[.ud,.ud]):=by
 refine prim_rule ?_
 change primGrowK 2 [.sl 2 true (p1.map eGF),.int .i64 p2]=some (.own false 2 (rs.map eGF),[.ud,.ud])
 unfold growG at h
 split at h
 ·
  rename_i hl
  cases h
  obtain ⟨hl,h2⟩:=hl
  have hl':=List.eq_nil_of_length_eq_zero hl
  subst hl'
  simp only[primGrowK,List.map_nil]
  rw[if_pos (by first | exact ⟨rfl,by decide,h2⟩ | exact ⟨trivial,by decide,h2⟩ | simpa using h2)]
 ·
  cases h
theorem P97 (n d:Nat) (p1:List (List UInt8)) (rs:List (List UInt8)) (h:sortSI p1=some rs):callD tab prims n (d+1) 97 [.own false 1 (p1.map Zv.encS)]=some (.tup [],[.own false 1 (rs.map Zv.encS)]):=by
 refine prim_rule ?_
 change primSortS [.own false 1 (p1.map Zv.encS)]=some (.tup [],[.own false 1 (rs.map Zv.encS)])
 unfold sortSI at h
 split at h
 ·
  rename_i hl
  cases h
  simp only[primSortS]
  rw[if_pos (by simpa using hl),←sortS_isort]
  show ((strRows (List.map (fun s=>[V.str s]) _)).bind _)=_
  rw[strRows_map]
  rfl
 ·
  cases h
theorem P98 (n d:Nat) (p1:List (List UInt8)) (rs:List (List UInt8)) (h:uniqSI p1=some rs):callD tab prims n (d+1) 98 [.own false 1 (p1.map Zv.encS)]=some (.own false 1 (rs.map Zv.encS),[.ud]):=by
 refine prim_rule ?_
 change primCompactS [.own false 1 (p1.map Zv.encS)]=some (.own false 1 (rs.map Zv.encS),[.ud])
 unfold uniqSI at h
 split at h
 ·
  rename_i hl
  cases h
  simp only[primCompactS]
  rw[if_pos (by simpa using hl)]
  show ((strRows (List.map (fun s=>[V.str s]) _)).bind _)=_
  rw[strRows_map]
  rfl
 ·
  cases h
theorem P104 (n d:Nat) {f1:Bool} (p1:List (List UInt8)) (p2:List UInt8) (rs:List UInt8) (h:joinI p1 p2=some rs):callD tab prims n (d+1) 104 [.sl 1 f1 (p1.map Zv.encS),.str p2]=some (.str rs,[.ud,.ud]):=by
 refine prim_rule ?_
 change primJoin [.sl 1 f1 (p1.map Zv.encS),.str p2]=some (.str rs,[.ud,.ud])
 unfold joinI at h
 split at h
 ·
  rename_i hl
  cases h
  simp[primJoin,rowsOf,strs_map,hl]
 ·
  cases h
theorem P106 (n d:Nat) {f1:Bool} (p1:List Int) (p2:Int) (rs:List Int) (h:repI p1 p2=some rs):callD tab prims n (d+1) 106 [.sl 1 f1 (p1.map Zv.encI),.int .i64 p2]=some (.own false 1 (rs.map Zv.encI),[.ud,.ud]):=by
 refine prim_rule ?_
 change primRepI [.sl 1 f1 (p1.map Zv.encI),.int .i64 p2]=some (.own false 1 (rs.map Zv.encI),[.ud,.ud])
 unfold repI at h
 split at h
 ·
  rename_i hl
  cases h
  obtain ⟨a,rfl⟩:=List.length_eq_one_iff.1 hl.1
  simp only[primRepI,List.map_cons,List.map_nil,Zv.encI]
  rw[if_pos hl.2]
  simp[Zv.encI]
 ·
  cases h
theorem P108 (n d:Nat) {f1:Bool} (p1:List (List UInt8)) (rs:List (List UInt8)) (h:lmt p1=some rs):callD tab prims n (d+1) 108 [.sl 1 f1 (p1.map Zv.encS)]=some (.own false 1 (rs.map Zv.encS),[.ud]):=by
 refine prim_rule ?_
 change primCloneS [.sl 1 f1 (p1.map Zv.encS)]=some (.own false 1 (rs.map Zv.encS),[.ud])
 unfold lmt at h
 split at h
 ·
  rename_i hl
  cases h
  simp[primCloneS,rowsOf,strs_map,hl]
 ·
  cases h
theorem P52 (n d:Nat) {f1:Bool} (p1:List UInt8) (rs:List UInt8) (h:lmt p1=some rs):callD tab prims n (d+1) 52 [.sl 1 f1 (p1.map encB)]=some (.own false 1 (rs.map encB),[.ud]):=by
 refine prim_rule ?_
 change primCloneB [.sl 1 f1 (p1.map encB)]=some (.own false 1 (rs.map encB),[.ud])
 unfold lmt at h
 split at h
 ·
  rename_i hl
  cases h
  simp[primCloneB,rowsOf,ints_map,hl]
 ·
  cases h
end Go.Proofs.YtedbfdlgiilapaaGreatDoor.G
