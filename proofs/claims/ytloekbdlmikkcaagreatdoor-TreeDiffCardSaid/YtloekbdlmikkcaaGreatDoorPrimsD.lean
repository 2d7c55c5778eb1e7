/- What is known of the library's functions, as the plain functions use it. No condition. -/
import Derived.Test.YtloekbdlmikkcaaGreatDoorPlainD
import Derived.Test.YtloekbdlmikkcaaGreatDoorFactsD
import Derived.Test.YtloekbdlmikkcaaGreatDoorKnownD
namespace Go.Proofs.YtloekbdlmikkcaaGreatDoor.G
open Go Go.Zv Go.Zv.G Go.Proofs Go.Proofs.YtloekbdlmikkcaaGreatDoor
set_option maxRecDepth 100000
noncomputable abbrev prims : Nat → List V → Option (V × List V) := Go.Proofs.YtloekbdlmikkcaaGreatDoor.prims
theorem ints_map (s : List UInt8) : ints? (s.map encB) = some (s.map fun b => (b.toNat : Int)) := by
  induction s with
  | nil => rfl
  | cons b s ih => simp [ints?, encB, ih]
theorem strs_map (l : List (List UInt8)) : strs (l.map encS) = some l := by
  induction l with
  | nil => rfl
  | cons b s ih => simp [strs, encS, ih]
theorem letN_same : letG = Go.Proofs.YtloekbdlmikkcaaGreatDoor.letN := rfl
theorem N3 (args : List V) : prims 3 args = none := rfl
theorem N10 (args : List V) : prims 10 args = none := rfl
theorem N11 (args : List V) : prims 11 args = none := rfl
theorem N12 (args : List V) : prims 12 args = none := rfl
theorem N13 (args : List V) : prims 13 args = none := rfl
theorem N14 (args : List V) : prims 14 args = none := rfl
theorem N15 (args : List V) : prims 15 args = none := rfl
theorem N16 (args : List V) : prims 16 args = none := rfl
theorem N17 (args : List V) : prims 17 args = none := rfl
theorem N18 (args : List V) : prims 18 args = none := rfl
theorem N27 (args : List V) : prims 27 args = none := rfl
theorem N35 (args : List V) : prims 35 args = none := rfl
theorem N37 (args : List V) : prims 37 args = none := rfl
theorem N38 (args : List V) : prims 38 args = none := rfl
theorem N39 (args : List V) : prims 39 args = none := rfl
theorem N40 (args : List V) : prims 40 args = none := rfl
theorem N41 (args : List V) : prims 41 args = none := rfl
theorem N42 (args : List V) : prims 42 args = none := rfl
theorem N43 (args : List V) : prims 43 args = none := rfl
theorem N44 (args : List V) : prims 44 args = none := rfl
theorem N45 (args : List V) : prims 45 args = none := rfl
theorem N46 (args : List V) : prims 46 args = none := rfl
theorem N47 (args : List V) : prims 47 args = none := rfl
theorem N48 (args : List V) : prims 48 args = none := rfl
theorem N49 (args : List V) : prims 49 args = none := rfl
theorem N50 (args : List V) : prims 50 args = none := rfl
theorem N67 (args : List V) : prims 67 args = none := rfl
theorem N71 (args : List V) : prims 71 args = none := rfl
theorem N72 (args : List V) : prims 72 args = none := rfl
theorem N73 (args : List V) : prims 73 args = none := rfl
theorem N74 (args : List V) : prims 74 args = none := rfl
theorem N75 (args : List V) : prims 75 args = none := rfl
theorem N76 (args : List V) : prims 76 args = none := rfl
theorem N77 (args : List V) : prims 77 args = none := rfl
theorem N78 (args : List V) : prims 78 args = none := rfl
theorem N80 (args : List V) : prims 80 args = none := rfl
theorem N81 (args : List V) : prims 81 args = none := rfl
theorem N82 (args : List V) : prims 82 args = none := rfl
theorem N84 (args : List V) : prims 84 args = none := rfl
theorem N85 (args : List V) : prims 85 args = none := rfl
theorem N87 (args : List V) : prims 87 args = none := rfl
theorem N88 (args : List V) : prims 88 args = none := rfl
theorem N89 (args : List V) : prims 89 args = none := rfl
theorem N94 (args : List V) : prims 94 args = none := rfl
theorem N108 (args : List V) : prims 108 args = none := rfl
theorem N113 (args : List V) : prims 113 args = none := rfl
theorem N114 (args : List V) : prims 114 args = none := rfl
theorem N116 (args : List V) : prims 116 args = none := rfl
theorem N117 (args : List V) : prims 117 args = none := rfl
theorem N118 (args : List V) : prims 118 args = none := rfl
theorem N119 (args : List V) : prims 119 args = none := rfl
theorem N120 (args : List V) : prims 120 args = none := rfl
theorem N121 (args : List V) : prims 121 args = none := rfl
theorem N123 (args : List V) : prims 123 args = none := rfl
theorem N124 (args : List V) : prims 124 args = none := rfl
theorem N125 (args : List V) : prims 125 args = none := rfl
theorem N126 (args : List V) : prims 126 args = none := rfl
theorem N127 (args : List V) : prims 127 args = none := rfl
theorem N128 (args : List V) : prims 128 args = none := rfl
theorem N132 (args : List V) : prims 132 args = none := rfl
theorem N135 (args : List V) : prims 135 args = none := rfl
theorem N147 (args : List V) : prims 147 args = none := rfl
theorem N149 (args : List V) : prims 149 args = none := rfl
theorem N152 (args : List V) : prims 152 args = none := rfl
theorem N153 (args : List V) : prims 153 args = none := rfl
theorem N154 (args : List V) : prims 154 args = none := rfl
theorem N155 (args : List V) : prims 155 args = none := rfl
theorem N156 (args : List V) : prims 156 args = none := rfl
theorem N158 (args : List V) : prims 158 args = none := rfl
theorem N159 (args : List V) : prims 159 args = none := rfl
theorem N187 (args : List V) : prims 187 args = none := rfl
theorem N188 (args : List V) : prims 188 args = none := rfl
theorem N189 (args : List V) : prims 189 args = none := rfl
theorem N190 (args : List V) : prims 190 args = none := rfl
theorem N192 (args : List V) : prims 192 args = none := rfl
theorem N210 (args : List V) : prims 210 args = none := rfl
theorem N211 (args : List V) : prims 211 args = none := rfl
theorem P209 (n d : Nat) (p1 : List UInt8) (p2 : Int) : callD tab prims n (d + 1) 209 [.str p1, .int .u8 p2] = some (.int .i64 (cnt8 p2.toNat.toUInt8 p1 : Nat), [.undef, .undef]) := by
  refine prim_rule ?_
  change primCount [.str p1, .int .u8 p2] = some (.int .i64 (cnt8 p2.toNat.toUInt8 p1 : Nat), [.undef, .undef])
  simp [primCount, bytesV?, asBytes_map]
theorem P219 (n d : Nat) (p1 : List UInt8) (p2 : Int) : callD tab prims n (d + 1) 219 [.str p1, .int .u8 p2] = some (.int .i64 (idx8 p2.toNat.toUInt8 p1 0), [.undef, .undef]) := by
  refine prim_rule ?_
  change primIndex [.str p1, .int .u8 p2] = some (.int .i64 (idx8 p2.toNat.toUInt8 p1 0), [.undef, .undef])
  simp [primIndex, bytesV?, asBytes_map]
theorem P129 (n d : Nat) (p1 : List UInt8) : callD tab prims n (d + 1) 129 [.str p1, .fn 130 []] = some (.bool (p1.any fun b => letG b.toNat), [.undef, .undef]) := by
  refine prim_rule ?_
  change primContains 130 Go.Proofs.YtloekbdlmikkcaaGreatDoor.letN [.str p1, .fn 130 []] = some (.bool (p1.any fun b => letG b.toNat), [.undef, .undef])
  simp [primContains, letN_same]
theorem P148 (n d : Nat) {f1 : Bool} (p1 : List UInt8) (p2 : Int) : callD tab prims n (d + 1) 148 [.sl 1 f1 (p1.map encB), .int .u8 p2] = some (.int .i64 (cnt8 p2.toNat.toUInt8 p1 : Nat), [.undef, .undef]) := by
  refine prim_rule ?_
  change primCount [.sl 1 f1 (p1.map encB), .int .u8 p2] = some (.int .i64 (cnt8 p2.toNat.toUInt8 p1 : Nat), [.undef, .undef])
  simp [primCount, bytesV?, asBytes_map]
theorem P122 (n d : Nat) {f1 : Bool} (p1 : List (List UInt8)) (p2 : List UInt8) (rs : List UInt8) (h : joinI p1 p2 = some rs) : callD tab prims n (d + 1) 122 [.sl 1 f1 (p1.map encS), .str p2] = some (.str rs, [.undef, .undef]) := by
  refine prim_rule ?_
  change primJoin [.sl 1 f1 (p1.map encS), .str p2] = some (.str rs, [.undef, .undef])
  unfold joinI at h
  split at h
  · rename_i hl
    cases h
    simp [primJoin, rowsOf, strs_map, hl]
  · cases h
theorem P86 (n d : Nat) {f1 : Bool} (p1 : List (List UInt8)) (rs : List (List UInt8)) (h : lmt p1 = some rs) : callD tab prims n (d + 1) 86 [.sl 1 f1 (p1.map encS)] = some (.own false 1 (rs.map encS), [.undef]) := by
  refine prim_rule ?_
  change primCloneS [.sl 1 f1 (p1.map encS)] = some (.own false 1 (rs.map encS), [.undef])
  unfold lmt at h
  split at h
  · rename_i hl
    cases h
    simp [primCloneS, rowsOf, strs_map, hl]
  · cases h
theorem P79 (n d : Nat) {f1 : Bool} (p1 : List UInt8) (rs : List UInt8) (h : lmt p1 = some rs) : callD tab prims n (d + 1) 79 [.sl 1 f1 (p1.map encB)] = some (.own false 1 (rs.map encB), [.undef]) := by
  refine prim_rule ?_
  change primCloneB [.sl 1 f1 (p1.map encB)] = some (.own false 1 (rs.map encB), [.undef])
  unfold lmt at h
  split at h
  · rename_i hl
    cases h
    simp [primCloneB, rowsOf, ints_map, hl]
  · cases h
theorem P171 (n d : Nat) (p1 : List UInt8) (p2 : List UInt8) : callD tab prims n (d + 1) 171 [.str p1, .str p2] = some (.int .i64 (Lib.compareBytes p1 p2), [.undef, .undef]) := by
  refine prim_rule ?_
  change primCmp [.str p1, .str p2] = some (.int .i64 (Lib.compareBytes p1 p2), [.undef, .undef])
  simp [primCmp, bytesV?]
theorem P115 (n d : Nat) (p1 : List GFile) (p2 : Int) (p3 : List GFile) (rs : List GFile) (h : insI p1 p2 p3 = some rs) : callD tab prims n (d + 1) 115 [.own false 2 (p1.map encGFile), .int .i64 p2, .own false 2 (p3.map encGFile)] = some (.own false 2 (rs.map encGFile), [.undef, .undef, .undef]) := by
  refine prim_rule ?_
  change primIns 2 [.own false 2 (p1.map encGFile), .int .i64 p2, .own false 2 (p3.map encGFile)] = some (.own false 2 (rs.map encGFile), [.undef, .undef, .undef])
  unfold insI at h
  split at h
  · rename_i hl
    cases h
    simp [primIns, hl, List.map_take, List.map_drop]
  · cases h
theorem P83 (n d : Nat) (p1 : List GFile) (p2 : Int) (p3 : Int) (rs : List GFile) (h : delI p1 p2 p3 = some rs) : callD tab prims n (d + 1) 83 [.own false 2 (p1.map encGFile), .int .i64 p2, .int .i64 p3] = some (.own false 2 (rs.map encGFile), [.undef, .undef, .undef]) := by
  refine prim_rule ?_
  change primDel 2 [.own false 2 (p1.map encGFile), .int .i64 p2, .int .i64 p3] = some (.own false 2 (rs.map encGFile), [.undef, .undef, .undef])
  unfold delI at h
  split at h
  · rename_i hl
    cases h
    simp [primDel, hl, List.map_take, List.map_drop]
  · cases h
end Go.Proofs.YtloekbdlmikkcaaGreatDoor.G
