/- What is known of the library's functions, as the plain functions use it. No condition. -/
import Derived.Test.YtloekbdlmikkcaaGreatDoorPlainK
import Derived.Test.YtloekbdlmikkcaaGreatDoorFactsK
import Derived.Test.YtloekbdlmikkcaaGreatDoorKnownK
set_option linter.unusedSimpArgs false
set_option linter.unusedVariables false
namespace Go.Proofs.YtloekbdlmikkcaaGreatDoor.G
open Go Go.Zv Go.Zv.G Go.Proofs Go.Proofs.YtloekbdlmikkcaaGreatDoor
set_option maxRecDepth 100000
noncomputable abbrev prims : Nat → List V → Option (V × List V) := Go.Proofs.YtloekbdlmikkcaaGreatDoor.prims
theorem ints_map (s : List UInt8) : ints? (s.map encB) = some (s.map fun b => (b.toNat : Int)) := by
 induction s with
 | nil => rfl
 | cons b s ih => simp [ints?, encB, ih]
theorem strs_map (l : List (List UInt8)) : strs (l.map encS) = some l := by
 induction l with
 | nil => rfl
 | cons b s ih => simp [strs, encS, ih]
theorem u8s_map (s : List UInt8) : u8s? (s.map encB) = some s := by
 induction s with
 | nil => rfl
 | cons b s ih =>
  have h := b.toNat_lt
  have h1 : (0 : Int) ≤ (b.toNat : Int) ∧ (b.toNat : Int) < 256 := ⟨by omega, by omega⟩
  simp only [List.map_cons, encB, u8s?]
  rw [if_pos h1, ih]
  simp
theorem letN_same : letG = Go.Proofs.YtloekbdlmikkcaaGreatDoor.letN := rfl
theorem keyV_patch (l : List GPatch) : (l.map eGP).map keyV = l.map GPatch.path_ := by
 rw [List.map_map]; rfl
theorem nodupG_eq : ∀ l : List (List UInt8), nodupG l = nodupB l
 | [] => rfl
 | x :: xs => by rw [nodupG, nodupB, nodupG_eq xs]
theorem insR_patch (r : GPatch) : ∀ l : List GPatch, insR (eGP r) (l.map eGP) = (insG r l).map eGP
 | [] => rfl
 | x :: xs => by
  rw [List.map_cons, insR, insG, insR_patch r xs]
  show cond (Op.bytesLess x.path_ r.path_) _ _ = _
  cases Op.bytesLess x.path_ r.path_ <;> rfl
theorem sortR_patch : ∀ l : List GPatch, sortR (l.map eGP) = (sortP l).map eGP
 | [] => rfl
 | r :: rs => by rw [List.map_cons, sortR, sortR_patch rs, insR_patch]; rfl
theorem N5 (args : List V) : prims 5 args = none := rfl
theorem N15 (args : List V) : prims 15 args = none := rfl
theorem N21 (args : List V) : prims 21 args = none := rfl
theorem N23 (args : List V) : prims 23 args = none := rfl
theorem N25 (args : List V) : prims 25 args = none := rfl
theorem N27 (args : List V) : prims 27 args = none := rfl
theorem N28 (args : List V) : prims 28 args = none := rfl
theorem N29 (args : List V) : prims 29 args = none := rfl
theorem N30 (args : List V) : prims 30 args = none := rfl
theorem N31 (args : List V) : prims 31 args = none := rfl
theorem N32 (args : List V) : prims 32 args = none := rfl
theorem N46 (args : List V) : prims 46 args = none := rfl
theorem N47 (args : List V) : prims 47 args = none := rfl
theorem N48 (args : List V) : prims 48 args = none := rfl
theorem N49 (args : List V) : prims 49 args = none := rfl
theorem N54 (args : List V) : prims 54 args = none := rfl
theorem N56 (args : List V) : prims 56 args = none := rfl
theorem N58 (args : List V) : prims 58 args = none := rfl
theorem N66 (args : List V) : prims 66 args = none := rfl
theorem N67 (args : List V) : prims 67 args = none := rfl
theorem N68 (args : List V) : prims 68 args = none := rfl
theorem N69 (args : List V) : prims 69 args = none := rfl
theorem N70 (args : List V) : prims 70 args = none := rfl
theorem N82 (args : List V) : prims 82 args = none := rfl
theorem N85 (args : List V) : prims 85 args = none := rfl
theorem N87 (args : List V) : prims 87 args = none := rfl
theorem N88 (args : List V) : prims 88 args = none := rfl
theorem N91 (args : List V) : prims 91 args = none := rfl
theorem N104 (args : List V) : prims 104 args = none := rfl
theorem N105 (args : List V) : prims 105 args = none := rfl
theorem N106 (args : List V) : prims 106 args = none := rfl
theorem N107 (args : List V) : prims 107 args = none := rfl
theorem N108 (args : List V) : prims 108 args = none := rfl
theorem N109 (args : List V) : prims 109 args = none := rfl
theorem N110 (args : List V) : prims 110 args = none := rfl
theorem N111 (args : List V) : prims 111 args = none := rfl
theorem N117 (args : List V) : prims 117 args = none := rfl
theorem N126 (args : List V) : prims 126 args = none := rfl
theorem N127 (args : List V) : prims 127 args = none := rfl
theorem N128 (args : List V) : prims 128 args = none := rfl
theorem N146 (args : List V) : prims 146 args = none := rfl
theorem N152 (args : List V) : prims 152 args = none := rfl
theorem N158 (args : List V) : prims 158 args = none := rfl
theorem N159 (args : List V) : prims 159 args = none := rfl
theorem N179 (args : List V) : prims 179 args = none := rfl
theorem N187 (args : List V) : prims 187 args = none := rfl
theorem N188 (args : List V) : prims 188 args = none := rfl
theorem N190 (args : List V) : prims 190 args = none := rfl
theorem N192 (args : List V) : prims 192 args = none := rfl
theorem N210 (args : List V) : prims 210 args = none := rfl
theorem N211 (args : List V) : prims 211 args = none := rfl
theorem P209 (n d : Nat) (p1 : List UInt8) (p2 : Int) : callD tab prims n (d + 1) 209 [.str p1, .int .u8 p2] = some (.int .i64 (cnt8 p2.toNat.toUInt8 p1 : Nat), [.ud, .ud]) := by
 refine prim_rule ?_
 change primCount [.str p1, .int .u8 p2] = some (.int .i64 (cnt8 p2.toNat.toUInt8 p1 : Nat), [.ud, .ud])
 simp [primCount, bytesV?, asBytes_map]
theorem P219 (n d : Nat) (p1 : List UInt8) (p2 : Int) : callD tab prims n (d + 1) 219 [.str p1, .int .u8 p2] = some (.int .i64 (idx8 p2.toNat.toUInt8 p1 0), [.ud, .ud]) := by
 refine prim_rule ?_
 change primIndex [.str p1, .int .u8 p2] = some (.int .i64 (idx8 p2.toNat.toUInt8 p1 0), [.ud, .ud])
 simp [primIndex, bytesV?, asBytes_map]
theorem P129 (n d : Nat) (p1 : List UInt8) : callD tab prims n (d + 1) 129 [.str p1, .fn 130 []] = some (.bool (p1.any fun b => letG b.toNat), [.ud, .ud]) := by
 refine prim_rule ?_
 change primContains 130 Go.Proofs.YtloekbdlmikkcaaGreatDoor.letN [.str p1, .fn 130 []] = some (.bool (p1.any fun b => letG b.toNat), [.ud, .ud])
 simp [primContains, letN_same]
theorem P86 (n d : Nat) {f1 : Bool} (p1 : List (List UInt8)) (rs : List (List UInt8)) (h : lmt p1 = some rs) : callD tab prims n (d + 1) 86 [.sl 1 f1 (p1.map encS)] = some (.own false 1 (rs.map encS), [.ud]) := by
 refine prim_rule ?_
 change primCloneS [.sl 1 f1 (p1.map encS)] = some (.own false 1 (rs.map encS), [.ud])
 unfold lmt at h
 split at h
 ·
  rename_i hl
  cases h
  simp [primCloneS, rowsOf, strs_map, hl]
 ·
  cases h
theorem P92 (n d : Nat) (p1 : List GPatch) (rs : List GPatch) (h : sortG p1 = some rs) : callD tab prims n (d + 1) 92 [.own false 4 (p1.map eGP), .fn 93 []] = some (.tup [], [.own false 4 (rs.map eGP), .ud]) := by
 refine prim_rule ?_
 change primSort 93 4 [.own false 4 (p1.map eGP), .fn 93 []] = some (.tup [], [.own false 4 (rs.map eGP), .ud])
 unfold sortG at h
 split at h
 ·
  rename_i hl
  cases h
  unfold primSort
  dsimp only
  rw [if_pos ⟨rfl, rfl, by simpa using hl.1, by simp [hasKey, eGP, List.all_eq_true], by rw [keyV_patch, ← nodupG_eq]; exact hl.2⟩, sortR_patch]
 ·
  cases h
theorem P59 (n d : Nat) (p1 : Int) (rs : List UInt8) (h : itoaI p1 = some rs) : callD tab prims n (d + 1) 59 [.int .i64 p1] = some (.str rs, [.ud]) := by
 refine prim_rule ?_
 change primItoa [.int .i64 p1] = some (.str rs, [.ud])
 unfold itoaI at h
 split at h
 ·
  rename_i hl
  cases h
  simp only [primItoa]
  rw [if_pos hl]
 ·
  cases h
theorem P96 (n d : Nat) (p1 : List UInt8) (p2 : List UInt8) (rs : List UInt8) (h : wsI p1 p2 = some rs) : callD tab prims n (d + 1) 96 [.lib 0 136 5 p1, .str p2] = some (.tup [.int .i64 (p2.length : Int), .ud], [.lib 0 136 5 rs, .ud]) := by
 refine prim_rule ?_
 change primWS 0 136 5 [.lib 0 136 5 p1, .str p2] = some (.tup [.int .i64 (p2.length : Int), .ud], [.lib 0 136 5 rs, .ud])
 unfold wsI at h
 split at h
 ·
  rename_i hl
  cases h
  simp [primWS, hl]
 ·
  cases h
theorem P97 (n d : Nat) (p1 : List UInt8) : callD tab prims n (d + 1) 97 [.lib 0 136 5 p1] = some (.int .i64 (p1.length : Int), [.lib 0 136 5 p1]) := by
 refine prim_rule ?_
 change primLenW 136 5 [.lib 0 136 5 p1] = some (.int .i64 (p1.length : Int), [.lib 0 136 5 p1])
 simp [primLenW]
theorem P98 (n d : Nat) (p1 : List UInt8) (rs : List UInt8) (h : strI p1 = some rs) : callD tab prims n (d + 1) 98 [.lib 0 136 5 p1] = some (.str rs, [.lib 2 136 5 ([] : List UInt8)]) := by
 refine prim_rule ?_
 change primStrW 136 5 [.lib 0 136 5 p1] = some (.str rs, [.lib 2 136 5 ([] : List UInt8)])
 unfold strI at h
 split at h
 ·
  rename_i hl
  cases h
  simp [primStrW, hl]
 ·
  cases h
theorem P57 (n d : Nat) (p1 : List UInt8) (p2 : List UInt8) (rs : List UInt8) (h : wsI p1 p2 = some rs) : callD tab prims n (d + 1) 57 [.lib 1 89 5 p1, .str p2] = some (.tup [.int .i64 (p2.length : Int), .ud], [.lib 1 89 5 rs, .ud]) := by
 refine prim_rule ?_
 change primWS 1 89 5 [.lib 1 89 5 p1, .str p2] = some (.tup [.int .i64 (p2.length : Int), .ud], [.lib 1 89 5 rs, .ud])
 unfold wsI at h
 split at h
 ·
  rename_i hl
  cases h
  simp [primWS, hl]
 ·
  cases h
theorem P60 (n d : Nat) {f1 : Bool} (p1 : List UInt8) (p2 : List UInt8) (rs : List UInt8) (h : wsI p1 p2 = some rs) : callD tab prims n (d + 1) 60 [.lib 1 89 5 p1, .sl 1 f1 (p2.map encB)] = some (.tup [.int .i64 (p2.length : Int), .ud], [.lib 1 89 5 rs, .ud]) := by
 refine prim_rule ?_
 change primWB 89 5 [.lib 1 89 5 p1, .sl 1 f1 (p2.map encB)] = some (.tup [.int .i64 (p2.length : Int), .ud], [.lib 1 89 5 rs, .ud])
 unfold wsI at h
 split at h
 ·
  rename_i hl
  cases h
  simp [primWB, hl, u8s_map]
 ·
  cases h
theorem P61 (n d : Nat) (p1 : List UInt8) : callD tab prims n (d + 1) 61 [.lib 1 89 5 p1] = some (.sl 1 false (p1.map encB), [.lib 2 89 5 ([] : List UInt8)]) := by
 refine prim_rule ?_
 change primBytesW 89 5 [.lib 1 89 5 p1] = some (.sl 1 false (p1.map encB), [.lib 2 89 5 ([] : List UInt8)])
 simp [primBytesW, bVe]
theorem P145 (n d : Nat) (p1 : List UInt8) (p2 : Int) (rs : List UInt8) (h : growI p1 p2 = some rs) : callD tab prims n (d + 1) 145 [.sl 1 true (p1.map encB), .int .i64 p2] = some (.own false 1 (rs.map encB), [.ud, .ud]) := by
 refine prim_rule ?_
 change primGrow [.sl 1 true (p1.map encB), .int .i64 p2] = some (.own false 1 (rs.map encB), [.ud, .ud])
 unfold growI at h
 split at h
 ·
  rename_i hl
  cases h
  obtain ⟨hl, h2⟩ := hl
  subst hl
  simp only [primGrow, List.map_nil]
  rw [if_pos h2]
 ·
  cases h
theorem P112 (n d : Nat) {f1 : Bool} (p1 : List UInt8) (rs : List UInt8) (h : lmt p1 = some rs) : callD tab prims n (d + 1) 112 [.sl 1 f1 (p1.map encB)] = some (.own false 1 (rs.map encB), [.ud]) := by
 refine prim_rule ?_
 change primCloneB [.sl 1 f1 (p1.map encB)] = some (.own false 1 (rs.map encB), [.ud])
 unfold lmt at h
 split at h
 ·
  rename_i hl
  cases h
  simp [primCloneB, rowsOf, ints_map, hl]
 ·
  cases h
end Go.Proofs.YtloekbdlmikkcaaGreatDoor.G
