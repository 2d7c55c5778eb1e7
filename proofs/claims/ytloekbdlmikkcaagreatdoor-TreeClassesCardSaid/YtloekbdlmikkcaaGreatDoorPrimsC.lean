/- What is known of the library's functions, as the plain functions use it. No condition. -/
import Derived.Test.YtloekbdlmikkcaaGreatDoorPlainC
import Derived.Test.YtloekbdlmikkcaaGreatDoorFactsC
import Derived.Test.YtloekbdlmikkcaaGreatDoorKnownC
namespace Go.Proofs.YtloekbdlmikkcaaGreatDoor.G
open Go Go.Zv Go.Zv.G Go.Proofs Go.Proofs.YtloekbdlmikkcaaGreatDoor
set_option maxRecDepth 100000
noncomputable abbrev prims : Nat → List V → Option (V × List V) := Go.Proofs.YtloekbdlmikkcaaGreatDoor.prims
theorem ints_map (s : List UInt8) : ints? (s.map encB) = some (s.map fun b => (b.toNat : Int)) := by
 induction s with
 | nil => rfl
 | cons b s ih => simp [ints?, encB, ih]
theorem strs_map (l : List (List UInt8)) : strs (l.map encS) = some l := by
 induction l with
 | nil => rfl
 | cons b s ih => simp [strs, encS, ih]
theorem letN_same : letG = Go.Proofs.YtloekbdlmikkcaaGreatDoor.letN := rfl
theorem keyV_patch (l : List GPatch) : (l.map eGP).map keyV = l.map GPatch.path_ := by
 rw [List.map_map]; rfl
theorem nodupG_eq : ∀ l : List (List UInt8), nodupG l = nodupB l
 | [] => rfl
 | x :: xs => by rw [nodupG, nodupB, nodupG_eq xs]
theorem insR_patch (r : GPatch) : ∀ l : List GPatch, insR (eGP r) (l.map eGP) = (insG r l).map eGP
 | [] => rfl
 | x :: xs => by
  rw [List.map_cons, insR, insG, insR_patch r xs]
  show cond (Op.bytesLess x.path_ r.path_) _ _ = _
  cases Op.bytesLess x.path_ r.path_ <;> rfl
theorem sortR_patch : ∀ l : List GPatch, sortR (l.map eGP) = (sortP l).map eGP
 | [] => rfl
 | r :: rs => by rw [List.map_cons, sortR, sortR_patch rs, insR_patch]; rfl
theorem N9 (args : List V) : prims 9 args = none := rfl
theorem N11 (args : List V) : prims 11 args = none := rfl
theorem N12 (args : List V) : prims 12 args = none := rfl
theorem N13 (args : List V) : prims 13 args = none := rfl
theorem N15 (args : List V) : prims 15 args = none := rfl
theorem N17 (args : List V) : prims 17 args = none := rfl
theorem N18 (args : List V) : prims 18 args = none := rfl
theorem N25 (args : List V) : prims 25 args = none := rfl
theorem N27 (args : List V) : prims 27 args = none := rfl
theorem N36 (args : List V) : prims 36 args = none := rfl
theorem N38 (args : List V) : prims 38 args = none := rfl
theorem N39 (args : List V) : prims 39 args = none := rfl
theorem N40 (args : List V) : prims 40 args = none := rfl
theorem N41 (args : List V) : prims 41 args = none := rfl
theorem N42 (args : List V) : prims 42 args = none := rfl
theorem N43 (args : List V) : prims 43 args = none := rfl
theorem N44 (args : List V) : prims 44 args = none := rfl
theorem N46 (args : List V) : prims 46 args = none := rfl
theorem N47 (args : List V) : prims 47 args = none := rfl
theorem N48 (args : List V) : prims 48 args = none := rfl
theorem N49 (args : List V) : prims 49 args = none := rfl
theorem N54 (args : List V) : prims 54 args = none := rfl
theorem N66 (args : List V) : prims 66 args = none := rfl
theorem N67 (args : List V) : prims 67 args = none := rfl
theorem N72 (args : List V) : prims 72 args = none := rfl
theorem N73 (args : List V) : prims 73 args = none := rfl
theorem N74 (args : List V) : prims 74 args = none := rfl
theorem N75 (args : List V) : prims 75 args = none := rfl
theorem N76 (args : List V) : prims 76 args = none := rfl
theorem N77 (args : List V) : prims 77 args = none := rfl
theorem N78 (args : List V) : prims 78 args = none := rfl
theorem N80 (args : List V) : prims 80 args = none := rfl
theorem N81 (args : List V) : prims 81 args = none := rfl
theorem N82 (args : List V) : prims 82 args = none := rfl
theorem N84 (args : List V) : prims 84 args = none := rfl
theorem N85 (args : List V) : prims 85 args = none := rfl
theorem N87 (args : List V) : prims 87 args = none := rfl
theorem N88 (args : List V) : prims 88 args = none := rfl
theorem N91 (args : List V) : prims 91 args = none := rfl
theorem N94 (args : List V) : prims 94 args = none := rfl
theorem N104 (args : List V) : prims 104 args = none := rfl
theorem N105 (args : List V) : prims 105 args = none := rfl
theorem N106 (args : List V) : prims 106 args = none := rfl
theorem N107 (args : List V) : prims 107 args = none := rfl
theorem N108 (args : List V) : prims 108 args = none := rfl
theorem N113 (args : List V) : prims 113 args = none := rfl
theorem N114 (args : List V) : prims 114 args = none := rfl
theorem N116 (args : List V) : prims 116 args = none := rfl
theorem N117 (args : List V) : prims 117 args = none := rfl
theorem N118 (args : List V) : prims 118 args = none := rfl
theorem N119 (args : List V) : prims 119 args = none := rfl
theorem N120 (args : List V) : prims 120 args = none := rfl
theorem N121 (args : List V) : prims 121 args = none := rfl
theorem N123 (args : List V) : prims 123 args = none := rfl
theorem N124 (args : List V) : prims 124 args = none := rfl
theorem N125 (args : List V) : prims 125 args = none := rfl
theorem N126 (args : List V) : prims 126 args = none := rfl
theorem N127 (args : List V) : prims 127 args = none := rfl
theorem N128 (args : List V) : prims 128 args = none := rfl
theorem N135 (args : List V) : prims 135 args = none := rfl
theorem N147 (args : List V) : prims 147 args = none := rfl
theorem N149 (args : List V) : prims 149 args = none := rfl
theorem N152 (args : List V) : prims 152 args = none := rfl
theorem N153 (args : List V) : prims 153 args = none := rfl
theorem N154 (args : List V) : prims 154 args = none := rfl
theorem N155 (args : List V) : prims 155 args = none := rfl
theorem N156 (args : List V) : prims 156 args = none := rfl
theorem N158 (args : List V) : prims 158 args = none := rfl
theorem N159 (args : List V) : prims 159 args = none := rfl
theorem N187 (args : List V) : prims 187 args = none := rfl
theorem N188 (args : List V) : prims 188 args = none := rfl
theorem N189 (args : List V) : prims 189 args = none := rfl
theorem N190 (args : List V) : prims 190 args = none := rfl
theorem N192 (args : List V) : prims 192 args = none := rfl
theorem N210 (args : List V) : prims 210 args = none := rfl
theorem N211 (args : List V) : prims 211 args = none := rfl
theorem P209 (n d : Nat) (p1 : List UInt8) (p2 : Int) : callD tab prims n (d + 1) 209 [.str p1, .int .u8 p2] = some (.int .i64 (cnt8 p2.toNat.toUInt8 p1 : Nat), [.ud, .ud]) := by
 refine prim_rule ?_
 change primCount [.str p1, .int .u8 p2] = some (.int .i64 (cnt8 p2.toNat.toUInt8 p1 : Nat), [.ud, .ud])
 simp [primCount, bytesV?, asBytes_map]
theorem P219 (n d : Nat) (p1 : List UInt8) (p2 : Int) : callD tab prims n (d + 1) 219 [.str p1, .int .u8 p2] = some (.int .i64 (idx8 p2.toNat.toUInt8 p1 0), [.ud, .ud]) := by
 refine prim_rule ?_
 change primIndex [.str p1, .int .u8 p2] = some (.int .i64 (idx8 p2.toNat.toUInt8 p1 0), [.ud, .ud])
 simp [primIndex, bytesV?, asBytes_map]
theorem P129 (n d : Nat) (p1 : List UInt8) : callD tab prims n (d + 1) 129 [.str p1, .fn 130 []] = some (.bool (p1.any fun b => letG b.toNat), [.ud, .ud]) := by
 refine prim_rule ?_
 change primContains 130 Go.Proofs.YtloekbdlmikkcaaGreatDoor.letN [.str p1, .fn 130 []] = some (.bool (p1.any fun b => letG b.toNat), [.ud, .ud])
 simp [primContains, letN_same]
theorem P148 (n d : Nat) {f1 : Bool} (p1 : List UInt8) (p2 : Int) : callD tab prims n (d + 1) 148 [.sl 1 f1 (p1.map encB), .int .u8 p2] = some (.int .i64 (cnt8 p2.toNat.toUInt8 p1 : Nat), [.ud, .ud]) := by
 refine prim_rule ?_
 change primCount [.sl 1 f1 (p1.map encB), .int .u8 p2] = some (.int .i64 (cnt8 p2.toNat.toUInt8 p1 : Nat), [.ud, .ud])
 simp [primCount, bytesV?, asBytes_map]
theorem P122 (n d : Nat) {f1 : Bool} (p1 : List (List UInt8)) (p2 : List UInt8) (rs : List UInt8) (h : joinI p1 p2 = some rs) : callD tab prims n (d + 1) 122 [.sl 1 f1 (p1.map encS), .str p2] = some (.str rs, [.ud, .ud]) := by
 refine prim_rule ?_
 change primJoin [.sl 1 f1 (p1.map encS), .str p2] = some (.str rs, [.ud, .ud])
 unfold joinI at h
 split at h
 ·
  rename_i hl
  cases h
  simp [primJoin, rowsOf, strs_map, hl]
 ·
  cases h
theorem P86 (n d : Nat) {f1 : Bool} (p1 : List (List UInt8)) (rs : List (List UInt8)) (h : lmt p1 = some rs) : callD tab prims n (d + 1) 86 [.sl 1 f1 (p1.map encS)] = some (.own false 1 (rs.map encS), [.ud]) := by
 refine prim_rule ?_
 change primCloneS [.sl 1 f1 (p1.map encS)] = some (.own false 1 (rs.map encS), [.ud])
 unfold lmt at h
 split at h
 ·
  rename_i hl
  cases h
  simp [primCloneS, rowsOf, strs_map, hl]
 ·
  cases h
theorem P79 (n d : Nat) {f1 : Bool} (p1 : List UInt8) (rs : List UInt8) (h : lmt p1 = some rs) : callD tab prims n (d + 1) 79 [.sl 1 f1 (p1.map encB)] = some (.own false 1 (rs.map encB), [.ud]) := by
 refine prim_rule ?_
 change primCloneB [.sl 1 f1 (p1.map encB)] = some (.own false 1 (rs.map encB), [.ud])
 unfold lmt at h
 split at h
 ·
  rename_i hl
  cases h
  simp [primCloneB, rowsOf, ints_map, hl]
 ·
  cases h
theorem P171 (n d : Nat) (p1 : List UInt8) (p2 : List UInt8) : callD tab prims n (d + 1) 171 [.str p1, .str p2] = some (.int .i64 (Lib.compareBytes p1 p2), [.ud, .ud]) := by
 refine prim_rule ?_
 change primCmp [.str p1, .str p2] = some (.int .i64 (Lib.compareBytes p1 p2), [.ud, .ud])
 simp [primCmp, bytesV?]
theorem P115 (n d : Nat) (p1 : List GFile) (p2 : Int) (p3 : List GFile) (rs : List GFile) (h : insI p1 p2 p3 = some rs) : callD tab prims n (d + 1) 115 [.own false 2 (p1.map eGF), .int .i64 p2, .own false 2 (p3.map eGF)] = some (.own false 2 (rs.map eGF), [.ud, .ud, .ud]) := by
 refine prim_rule ?_
 change primIns 2 [.own false 2 (p1.map eGF), .int .i64 p2, .own false 2 (p3.map eGF)] = some (.own false 2 (rs.map eGF), [.ud, .ud, .ud])
 unfold insI at h
 split at h
 ·
  rename_i hl
  cases h
  simp [primIns, hl, List.map_take, List.map_drop]
 ·
  cases h
theorem P83 (n d : Nat) (p1 : List GFile) (p2 : Int) (p3 : Int) (rs : List GFile) (h : delI p1 p2 p3 = some rs) : callD tab prims n (d + 1) 83 [.own false 2 (p1.map eGF), .int .i64 p2, .int .i64 p3] = some (.own false 2 (rs.map eGF), [.ud, .ud, .ud]) := by
 refine prim_rule ?_
 change primDel 2 [.own false 2 (p1.map eGF), .int .i64 p2, .int .i64 p3] = some (.own false 2 (rs.map eGF), [.ud, .ud, .ud])
 unfold delI at h
 split at h
 ·
  rename_i hl
  cases h
  simp [primDel, hl, List.map_take, List.map_drop]
 ·
  cases h
theorem P92 (n d : Nat) (p1 : List GPatch) (rs : List GPatch) (h : sortG p1 = some rs) : callD tab prims n (d + 1) 92 [.own false 4 (p1.map eGP), .fn 93 []] = some (.tup [], [.own false 4 (rs.map eGP), .ud]) := by
 refine prim_rule ?_
 change primSort 93 4 [.own false 4 (p1.map eGP), .fn 93 []] = some (.tup [], [.own false 4 (rs.map eGP), .ud])
 unfold sortG at h
 split at h
 ·
  rename_i hl
  cases h
  unfold primSort
  dsimp only
  rw [if_pos ⟨rfl, rfl, by simpa using hl.1, by simp [hasKey, eGP, List.all_eq_true], by rw [keyV_patch, ← nodupG_eq]; exact hl.2⟩, sortR_patch]
 ·
  cases h
end Go.Proofs.YtloekbdlmikkcaaGreatDoor.G
