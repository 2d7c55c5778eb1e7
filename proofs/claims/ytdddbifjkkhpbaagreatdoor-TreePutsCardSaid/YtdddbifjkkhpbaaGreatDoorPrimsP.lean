/- What is known of the library's functions, as the plain functions use it. No condition. -/
import Derived.Test.YtdddbifjkkhpbaaGreatDoorPlainP
import Derived.Test.YtdddbifjkkhpbaaGreatDoorKnownP
namespace Go.Proofs.YtdddbifjkkhpbaaGreatDoor.G
open Go Go.Zv Go.Proofs Go.Proofs.YtdddbifjkkhpbaaGreatDoor
set_option maxRecDepth 100000
noncomputable abbrev prims : Nat → List V → Option (V × List V) := Go.Proofs.YtdddbifjkkhpbaaGreatDoor.prims
theorem ints_map (s : List UInt8) : ints? (s.map encB) = some (s.map fun b => (b.toNat : Int)) := by
  induction s with
  | nil => rfl
  | cons b s ih => simp [ints?, encB, ih]
theorem strs_map (l : List (List UInt8)) : strs (l.map encS) = some l := by
  induction l with
  | nil => rfl
  | cons b s ih => simp [strs, encS, ih]
theorem letN_same : letN = Go.Proofs.YtdddbifjkkhpbaaGreatDoor.letN := rfl
theorem N3 (args : List V) : prims 3 args = none := rfl
theorem N7 (args : List V) : prims 7 args = none := rfl
theorem N8 (args : List V) : prims 8 args = none := rfl
theorem N9 (args : List V) : prims 9 args = none := rfl
theorem N10 (args : List V) : prims 10 args = none := rfl
theorem N11 (args : List V) : prims 11 args = none := rfl
theorem N12 (args : List V) : prims 12 args = none := rfl
theorem N13 (args : List V) : prims 13 args = none := rfl
theorem N14 (args : List V) : prims 14 args = none := rfl
theorem N15 (args : List V) : prims 15 args = none := rfl
theorem N16 (args : List V) : prims 16 args = none := rfl
theorem N17 (args : List V) : prims 17 args = none := rfl
theorem N18 (args : List V) : prims 18 args = none := rfl
theorem N23 (args : List V) : prims 23 args = none := rfl
theorem N31 (args : List V) : prims 31 args = none := rfl
theorem N37 (args : List V) : prims 37 args = none := rfl
theorem N38 (args : List V) : prims 38 args = none := rfl
theorem N39 (args : List V) : prims 39 args = none := rfl
theorem N40 (args : List V) : prims 40 args = none := rfl
theorem N41 (args : List V) : prims 41 args = none := rfl
theorem N42 (args : List V) : prims 42 args = none := rfl
theorem N44 (args : List V) : prims 44 args = none := rfl
theorem N45 (args : List V) : prims 45 args = none := rfl
theorem N47 (args : List V) : prims 47 args = none := rfl
theorem N48 (args : List V) : prims 48 args = none := rfl
theorem N51 (args : List V) : prims 51 args = none := rfl
theorem N52 (args : List V) : prims 52 args = none := rfl
theorem N53 (args : List V) : prims 53 args = none := rfl
theorem N54 (args : List V) : prims 54 args = none := rfl
theorem N66 (args : List V) : prims 66 args = none := rfl
theorem N73 (args : List V) : prims 73 args = none := rfl
theorem N75 (args : List V) : prims 75 args = none := rfl
theorem N76 (args : List V) : prims 76 args = none := rfl
theorem N77 (args : List V) : prims 77 args = none := rfl
theorem N78 (args : List V) : prims 78 args = none := rfl
theorem N79 (args : List V) : prims 79 args = none := rfl
theorem N80 (args : List V) : prims 80 args = none := rfl
theorem N81 (args : List V) : prims 81 args = none := rfl
theorem N82 (args : List V) : prims 82 args = none := rfl
theorem N85 (args : List V) : prims 85 args = none := rfl
theorem N87 (args : List V) : prims 87 args = none := rfl
theorem N88 (args : List V) : prims 88 args = none := rfl
theorem N106 (args : List V) : prims 106 args = none := rfl
theorem N114 (args : List V) : prims 114 args = none := rfl
theorem N116 (args : List V) : prims 116 args = none := rfl
theorem N119 (args : List V) : prims 119 args = none := rfl
theorem N120 (args : List V) : prims 120 args = none := rfl
theorem N121 (args : List V) : prims 121 args = none := rfl
theorem N122 (args : List V) : prims 122 args = none := rfl
theorem N127 (args : List V) : prims 127 args = none := rfl
theorem N128 (args : List V) : prims 128 args = none := rfl
theorem N129 (args : List V) : prims 129 args = none := rfl
theorem N155 (args : List V) : prims 155 args = none := rfl
theorem N156 (args : List V) : prims 156 args = none := rfl
theorem N157 (args : List V) : prims 157 args = none := rfl
theorem N158 (args : List V) : prims 158 args = none := rfl
theorem N159 (args : List V) : prims 159 args = none := rfl
theorem N161 (args : List V) : prims 161 args = none := rfl
theorem N162 (args : List V) : prims 162 args = none := rfl
theorem N197 (args : List V) : prims 197 args = none := rfl
theorem N198 (args : List V) : prims 198 args = none := rfl
theorem N199 (args : List V) : prims 199 args = none := rfl
theorem N200 (args : List V) : prims 200 args = none := rfl
theorem N202 (args : List V) : prims 202 args = none := rfl
theorem N221 (args : List V) : prims 221 args = none := rfl
theorem N222 (args : List V) : prims 222 args = none := rfl
theorem P220 (n d : Nat) (p1 : List UInt8) (p2 : Int) : callD tab prims n (d + 1) 220 [.str p1, .int .u8 p2] = some (.int .i64 (cnt8 p2.toNat.toUInt8 p1 : Nat), [.undef, .undef]) := by
  refine prim_rule ?_
  change primCount [.str p1, .int .u8 p2] = some (.int .i64 (cnt8 p2.toNat.toUInt8 p1 : Nat), [.undef, .undef])
  simp [primCount, bytesV?, asBytes_map]
theorem P234 (n d : Nat) (p1 : List UInt8) (p2 : Int) : callD tab prims n (d + 1) 234 [.str p1, .int .u8 p2] = some (.int .i64 (idx8 p2.toNat.toUInt8 p1 0), [.undef, .undef]) := by
  refine prim_rule ?_
  change primIndex [.str p1, .int .u8 p2] = some (.int .i64 (idx8 p2.toNat.toUInt8 p1 0), [.undef, .undef])
  simp [primIndex, bytesV?, asBytes_map]
theorem P130 (n d : Nat) (p1 : List UInt8) : callD tab prims n (d + 1) 130 [.str p1, .fn 131 []] = some (.bool (p1.any fun b => letN b.toNat), [.undef, .undef]) := by
  refine prim_rule ?_
  change primContains 131 Go.Proofs.YtdddbifjkkhpbaaGreatDoor.letN [.str p1, .fn 131 []] = some (.bool (p1.any fun b => letN b.toNat), [.undef, .undef])
  simp [primContains, letN_same]
theorem P115 (n d : Nat) {f1 : Bool} (p1 : List UInt8) (p2 : Int) : callD tab prims n (d + 1) 115 [.sl 1 f1 (p1.map encB), .int .u8 p2] = some (.int .i64 (cnt8 p2.toNat.toUInt8 p1 : Nat), [.undef, .undef]) := by
  refine prim_rule ?_
  change primCount [.sl 1 f1 (p1.map encB), .int .u8 p2] = some (.int .i64 (cnt8 p2.toNat.toUInt8 p1 : Nat), [.undef, .undef])
  simp [primCount, bytesV?, asBytes_map]
theorem P43 (n d : Nat) {f1 : Bool} (p1 : List UInt8) (rs : List UInt8) (h : lmt p1 = some rs) : callD tab prims n (d + 1) 43 [.sl 1 f1 (p1.map encB)] = some (.own false 1 (rs.map encB), [.undef]) := by
  refine prim_rule ?_
  change primCloneB [.sl 1 f1 (p1.map encB)] = some (.own false 1 (rs.map encB), [.undef])
  unfold lmt at h
  split at h
  · rename_i hl
    cases h
    simp [primCloneB, rowsOf, ints_map, hl]
  · cases h
theorem P154 (n d : Nat) (p1 : List UInt8) (p2 : List UInt8) : callD tab prims n (d + 1) 154 [.str p1, .str p2] = some (.int .i64 (Lib.compareBytes p1 p2), [.undef, .undef]) := by
  refine prim_rule ?_
  change primCmp [.str p1, .str p2] = some (.int .i64 (Lib.compareBytes p1 p2), [.undef, .undef])
  simp [primCmp, bytesV?]
theorem P74 (n d : Nat) (p1 : List GFile) (p2 : Int) (p3 : List GFile) (rs : List GFile) (h : insI p1 p2 p3 = some rs) : callD tab prims n (d + 1) 74 [.own false 2 (p1.map encGFile), .int .i64 p2, .own false 2 (p3.map encGFile)] = some (.own false 2 (rs.map encGFile), [.undef, .undef, .undef]) := by
  refine prim_rule ?_
  change primIns 2 [.own false 2 (p1.map encGFile), .int .i64 p2, .own false 2 (p3.map encGFile)] = some (.own false 2 (rs.map encGFile), [.undef, .undef, .undef])
  unfold insI at h
  split at h
  · rename_i hl
    cases h
    simp [primIns, hl, List.map_take, List.map_drop]
  · cases h
theorem P46 (n d : Nat) (p1 : List GFile) (p2 : Int) (p3 : Int) (rs : List GFile) (h : delI p1 p2 p3 = some rs) : callD tab prims n (d + 1) 46 [.own false 2 (p1.map encGFile), .int .i64 p2, .int .i64 p3] = some (.own false 2 (rs.map encGFile), [.undef, .undef, .undef]) := by
  refine prim_rule ?_
  change primDel 2 [.own false 2 (p1.map encGFile), .int .i64 p2, .int .i64 p3] = some (.own false 2 (rs.map encGFile), [.undef, .undef, .undef])
  unfold delI at h
  split at h
  · rename_i hl
    cases h
    simp [primDel, hl, List.map_take, List.map_drop]
  · cases h
end Go.Proofs.YtdddbifjkkhpbaaGreatDoor.G
