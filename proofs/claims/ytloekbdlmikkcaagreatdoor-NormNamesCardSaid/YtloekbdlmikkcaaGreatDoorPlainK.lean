/- Plain functions, printed from the program's functions. No condition. -/
import Derived.Test.YtloekbdlmikkcaaGreatDoorZvK7
import Derived.Test.YtloekbdlmikkcaaGreatDoorZvKx
import Derived.Test.YtloekbdlmikkcaaGreatDoorGlobK
set_option linter.unusedSimpArgs false
set_option linter.unusedVariables false
namespace Go.Zv.G
open Go Go.Zv
set_option maxRecDepth 100000
set_option linter.unusedVariables false
def letG (c : Nat) : Bool := !(Nat.ble 97 c && Nat.ble c 122 || Nat.ble 65 c && Nat.ble c 90 || Nat.ble 48 c && Nat.ble c 57 || Nat.beq c 45 || Nat.beq c 95 || Nat.beq c 46)
def byt (x : Int) : Option UInt8 := if 0 ≤ x ∧ x < 256 then some (UInt8.ofNat x.toNat) else none
theorem bytw {x : Int} {y : UInt8} (h : byt x = some y) : x = (y.toNat : Int) := by
 unfold byt at h
 split at h
 ·
  cases h
  rw [UInt8.toNat_ofNat']
  omega
 ·
  cases h
def wsI (bs s : List UInt8) : Option (List UInt8) := if s ≠ [] ∧ bs.length + s.length ≤ lim then some (bs ++ s) else none
def strI (bs : List UInt8) : Option (List UInt8) := if bs ≠ [] then some bs else none
def itoaI (n : Int) : Option (List UInt8) := if 0 ≤ n ∧ n < 100 then some (dig10 n.toNat) else none
def growI (l : List UInt8) (n : Int) : Option (List UInt8) := if l = [] ∧ 0 ≤ n ∧ n ≤ (lim : Int) then some [] else none
structure GHunk where
 at_ : Int
 old_ : List (List UInt8)
 new_ : List (List UInt8)
structure GPatch where
 path_ : List UInt8
 was_ : Bool
 stays_ : Bool
 hunks_ : List GHunk
def eGH (x : GHunk) : List V := [.int .i64 x.at_, .sl 1 false (x.old_.map encS), .sl 1 false (x.new_.map encS)]
def eGP (x : GPatch) : List V := [.str x.path_, .bool x.was_, .bool x.stays_, .sl 3 false (x.hunks_.map eGH)]
def encL_List_UInt8 (x : List UInt8) : List V := [.sl 1 false (x.map encB)]
def insG (r : GPatch) : List GPatch → List GPatch
 | [] => [r]
 | x :: xs => if Op.bytesLess x.path_ r.path_ = true then x :: insG r xs else r :: x :: xs
def sortP : List GPatch → List GPatch
 | [] => []
 | r :: rs => insG r (sortP rs)
def nodupG : List (List UInt8) → Bool
 | [] => true
 | x :: xs => !xs.contains x && nodupG xs
def sortG (l : List GPatch) : Option (List GPatch) := if l.length ≤ lim ∧ nodupG (l.map GPatch.path_) = true then some (sortP l) else none
def f_sidinglaw17_repeated_L6 (p2 : Int) (bp1 : UInt8) : Nat → (List UInt8) → Int → Option ((List UInt8))
 | 0, _, _ => none
 | m6 + 1, v7, v8 =>
  if (decide (v8 < p2)) = true then
   (need (v7.length + 1 ≤ lim)).bind fun _ =>
   (rng (v8 + 1)).bind fun i16 =>
   (fun (a20 : List UInt8) (a21 : Int) => f_sidinglaw17_repeated_L6 p2 bp1 m6 a20 a21) (v7 ++ ([bp1] : List UInt8)) i16
  else
   some v7
def f_sidinglaw17_repeated (n : Nat) (p1 : Int) (p2 : Int) : Option ((List UInt8)) :=
 (byt p1).bind fun bp1 =>
 f_sidinglaw17_repeated_L6 p2 bp1 n ([] : List UInt8) 0
def f_sidinglaw17_one (n : Nat) (p1 : List UInt8) (p2 : Int) (p3 : List (List UInt8)) (p4 : List (List UInt8)) : Option ((List UInt8) × Bool × Bool × (List GHunk)) :=
 some (p1, true, true, ([(⟨p2, p3, p4⟩ : GHunk)] : List GHunk))
def f_norm_Check_1 (n : Nat) (p1 : List UInt8) (p2 : Bool) (p3 : Bool) (p4 : List GHunk) (p5 : List UInt8) (p6 : Bool) (p7 : Bool) (p8 : List GHunk) : Option (Bool) :=
 some (p1 == p5)
def f_slices_IndexFunc_Patch_by_norm_Check_1_L5 (n : Nat) (p1 : List GPatch) (p2 : List UInt8) (p3 : Bool) (p4 : Bool) (p5 : List GHunk) : Nat → Int → Option (Int)
 | 0, _ => none
 | m5 + 1, v6 =>
  if (decide (v6 < (p1.length : Int))) = true then
   (ix p1 v6).bind fun x14 =>
   (f_norm_Check_1 n x14.path_ x14.was_ x14.stays_ x14.hunks_ p2 p3 p4 p5).bind fun r16 =>
   if r16 = true then
    some v6
   else
    (rng (v6 + 1)).bind fun i20 =>
    (fun (a25 : Int) => f_slices_IndexFunc_Patch_by_norm_Check_1_L5 n p1 p2 p3 p4 p5 m5 a25) i20
  else
   some (-1)
def f_slices_IndexFunc_Patch_by_norm_Check_1 (n : Nat) (p1 : List GPatch) (p2 : List UInt8) (p3 : Bool) (p4 : Bool) (p5 : List GHunk) : Option (Int) :=
 f_slices_IndexFunc_Patch_by_norm_Check_1_L5 n p1 p2 p3 p4 p5 n 0
def f_slices_ContainsFunc_Patch_by_norm_Check_1 (n : Nat) (p1 : List GPatch) (p2 : List UInt8) (p3 : Bool) (p4 : Bool) (p5 : List GHunk) : Option (Bool) :=
 (f_slices_IndexFunc_Patch_by_norm_Check_1 n p1 p2 p3 p4 p5).bind fun r3 =>
 some (decide (r3 ≥ 0))
def f_stringslite_IndexByte (n : Nat) (p1 : List UInt8) (p2 : Int) : Option (Int) :=
 some (idx8 p2.toNat.toUInt8 p1 0)
def f_stringslite_Index (n : Nat) (p1 : List UInt8) (p2 : List UInt8) : Option (Int) :=
 if (((p2.length : Int) == 0) || (p2 == p1)) = true then
  some 0
 else
  if ((p2.length : Int) == 1) = true then
   (ix p2 0).bind fun x9 =>
   (f_stringslite_IndexByte n p1 (x9.toNat : Int)).bind fun r11 =>
   some r11
  else
   if (decide ((p2.length : Int) ≥ (p1.length : Int))) = true then
    some (-1)
   else
    none
def f_strings_Index (n : Nat) (p1 : List UInt8) (p2 : List UInt8) : Option (Int) :=
 (f_stringslite_Index n p1 p2).bind fun r3 =>
 some r3
def f_strings_Count_L15 (n : Nat) (p2 : List UInt8) : Nat → (List UInt8) → Int → Option (Int)
 | 0, _, _ => none
 | m15 + 1, v16, v17 =>
  (f_strings_Index n v16 p2).bind fun r22 =>
  if (r22 == (-1)) = true then
   some v17
  else
   (rng (v17 + 1)).bind fun i29 =>
   (rng (r22 + (p2.length : Int))).bind fun i31 =>
   (cutI v16 i31 (v16.length : Int)).bind fun l33 =>
   (fun (a36 : List UInt8) (a37 : Int) => f_strings_Count_L15 n p2 m15 a36 a37) l33 i29
def f_strings_Count (n : Nat) (p1 : List UInt8) (p2 : List UInt8) : Option (Int) :=
 if ((p2.length : Int) == 0) = true then
  none
 else
  if ((p2.length : Int) == 1) = true then
   (ix p2 0).bind fun x8 =>
   some (cnt8 (x8.toNat : Int).toNat.toUInt8 p1 : Nat)
  else
   f_strings_Count_L15 n p2 n p1 0
def f_strings_genSplit_J19 (v20 : List UInt8) (v21 : List (List UInt8)) (v22 : Int) : Option ((List (List UInt8))) :=
 (ix v21 v22).bind fun x24 =>
 (rng (v22 + 1)).bind fun i27 =>
 (cutI (v21.set v22.toNat v20) 0 i27).bind fun l29 =>
 some l29
def f_strings_genSplit_L32 (n : Nat) (p2 : List UInt8) (p3 : Int) (i16 : Int) : Nat → (List UInt8) → (List (List UInt8)) → Int → Option ((List (List UInt8)))
 | 0, _, _, _ => none
 | m32 + 1, v33, v34, v35 =>
  if (decide (v35 < i16)) = true then
   (f_strings_Index n v33 p2).bind fun r43 =>
   if (decide (r43 < 0)) = true then
    f_strings_genSplit_J19 v33 v34 v35
   else
    (rng (r43 + p3)).bind fun i49 =>
    (cutI v33 0 i49).bind fun l51 =>
    (ix v34 v35).bind fun x53 =>
    (rng (r43 + (p2.length : Int))).bind fun i56 =>
    (cutI v33 i56 (v33.length : Int)).bind fun l58 =>
    (rng (v35 + 1)).bind fun i60 =>
    (fun (a64 : List UInt8) (a65 : List (List UInt8)) (a66 : Int) => f_strings_genSplit_L32 n p2 p3 i16 m32 a64 a65 a66) l58 (v34.set v35.toNat l51) i60
  else
   f_strings_genSplit_J19 v33 v34 v35
def f_strings_genSplit_J8 (n : Nat) (p1 : List UInt8) (p2 : List UInt8) (p3 : Int) (v9 : Int) : Option ((List (List UInt8))) :=
 (rng ((p1.length : Int) + 1)).bind fun i11 =>
 (need (0 ≤ (if i11 < v9 then i11 else v9) ∧ (if i11 < v9 then i11 else v9) ≤ (if i11 < v9 then i11 else v9) ∧ (if i11 < v9 then i11 else v9) ≤ (lim : Int))).bind fun _ =>
 (rng ((if i11 < v9 then i11 else v9) - 1)).bind fun i16 =>
 f_strings_genSplit_L32 n p2 p3 i16 n p1 (List.replicate (if i11 < v9 then i11 else v9).toNat ([] : List UInt8)) 0
def f_strings_genSplit (n : Nat) (p1 : List UInt8) (p2 : List UInt8) (p3 : Int) (p4 : Int) : Option ((List (List UInt8))) :=
 if (p4 == 0) = true then
  some ([] : List (List UInt8))
 else
  if (p2 == ([] : List UInt8)) = true then
   none
  else
   if (decide (p4 < 0)) = true then
    (f_strings_Count n p1 p2).bind fun r68 =>
    (rng (r68 + 1)).bind fun i71 =>
    f_strings_genSplit_J8 n p1 p2 p3 i71
   else
    f_strings_genSplit_J8 n p1 p2 p3 p4
def f_strings_Split (n : Nat) (p1 : List UInt8) (p2 : List UInt8) : Option ((List (List UInt8))) :=
 (f_strings_genSplit n p1 p2 0 (-1)).bind fun r3 =>
 some r3
def f_norm_path_1 (n : Nat) (p1 : List UInt8) : Option (Bool) :=
 if (((p1 == ([] : List UInt8)) || (p1 == ([46] : List UInt8))) || (p1 == ([46, 46] : List UInt8))) = true then
  some true
 else
  some (p1.any fun b => letG b.toNat)
def f_slices_IndexFunc_string_by_norm_path_1_L5 (n : Nat) (p1 : List (List UInt8)) : Nat → Int → Option (Int)
 | 0, _ => none
 | m5 + 1, v6 =>
  if (decide (v6 < (p1.length : Int))) = true then
   (ix p1 v6).bind fun x14 =>
   (f_norm_path_1 n x14).bind fun r16 =>
   if r16 = true then
    some v6
   else
    (rng (v6 + 1)).bind fun i20 =>
    (fun (a25 : Int) => f_slices_IndexFunc_string_by_norm_path_1_L5 n p1 m5 a25) i20
  else
   some (-1)
def f_slices_IndexFunc_string_by_norm_path_1 (n : Nat) (p1 : List (List UInt8)) : Option (Int) :=
 f_slices_IndexFunc_string_by_norm_path_1_L5 n p1 n 0
def f_slices_ContainsFunc_string_by_norm_path_1 (n : Nat) (p1 : List (List UInt8)) : Option (Bool) :=
 (f_slices_IndexFunc_string_by_norm_path_1 n p1).bind fun r3 =>
 some (decide (r3 ≥ 0))
def f_norm_path (n : Nat) (p1 : List UInt8) : Option (Bool) :=
 if (((p1.length : Int) == 0) || (decide ((p1.length : Int) > 60))) = true then
  some false
 else
  (f_strings_Split n p1 ([47] : List UInt8)).bind fun r6 =>
  (f_slices_ContainsFunc_string_by_norm_path_1 n r6).bind fun r9 =>
  some (!r9)
def f_strings_IndexByte (n : Nat) (p1 : List UInt8) (p2 : Int) : Option (Int) :=
 (f_stringslite_IndexByte n p1 p2).bind fun r3 =>
 some r3
def f_hunk_plain_1 (n : Nat) (p1 : List UInt8) : Option (Bool) :=
 if (decide ((p1.length : Int) > 2000)) = true then
  some true
 else
  (f_strings_IndexByte n p1 10).bind fun r4 =>
  some (decide (r4 ≥ 0))
def f_slices_IndexFunc_string_by_hunk_plain_1_L5 (n : Nat) (p1 : List (List UInt8)) : Nat → Int → Option (Int)
 | 0, _ => none
 | m5 + 1, v6 =>
  if (decide (v6 < (p1.length : Int))) = true then
   (ix p1 v6).bind fun x14 =>
   (f_hunk_plain_1 n x14).bind fun r16 =>
   if r16 = true then
    some v6
   else
    (rng (v6 + 1)).bind fun i20 =>
    (fun (a25 : Int) => f_slices_IndexFunc_string_by_hunk_plain_1_L5 n p1 m5 a25) i20
  else
   some (-1)
def f_slices_IndexFunc_string_by_hunk_plain_1 (n : Nat) (p1 : List (List UInt8)) : Option (Int) :=
 f_slices_IndexFunc_string_by_hunk_plain_1_L5 n p1 n 0
def f_slices_ContainsFunc_string_by_hunk_plain_1 (n : Nat) (p1 : List (List UInt8)) : Option (Bool) :=
 (f_slices_IndexFunc_string_by_hunk_plain_1 n p1).bind fun r3 =>
 some (decide (r3 ≥ 0))
def f_hunk_plain (n : Nat) (p1 : List (List UInt8)) : Option (Bool) :=
 if (decide ((p1.length : Int) ≤ 60)) = true then
  (f_slices_ContainsFunc_string_by_hunk_plain_1 n p1).bind fun r4 =>
  some (!r4)
 else
  some false
def f_hunk_valid (n : Nat) (p1 : Int) (p2 : List (List UInt8)) (p3 : List (List UInt8)) : Option (Bool) :=
 if (decide (p1 ≥ 0)) = true then
  if (decide (p1 ≤ 60)) = true then
   (f_hunk_plain n p2).bind fun r5 =>
   if r5 = true then
    (f_hunk_plain n p3).bind fun r9 =>
    if r9 = true then
     (rng ((p2.length : Int) + (p3.length : Int))).bind fun i13 =>
     some (decide (i13 > 0))
    else
     some false
   else
    some false
  else
   some false
 else
  some false
def f_hunk_Check_L9 (n : Nat) (p1 : List GHunk) : Nat → Int → Int → Option (Int)
 | 0, _, _ => none
 | m9 + 1, v10, v11 =>
  if (decide (v11 < (p1.length : Int))) = true then
   (ix p1 v11).bind fun x19 =>
   (f_hunk_valid n x19.at_ x19.old_ x19.new_).bind fun r23 =>
   if (!r23) = true then
    some 8
   else
    if (decide (x19.at_ < v10)) = true then
     some 8
    else
     (rng (x19.at_ + (x19.old_.length : Int))).bind fun i29 =>
     (rng (i29 + 1)).bind fun i31 =>
     (rng (v11 + 1)).bind fun i33 =>
     (fun (a38 : Int) (a39 : Int) => f_hunk_Check_L9 n p1 m9 a38 a39) i31 i33
  else
   some 0
def f_hunk_Check (n : Nat) (p1 : List GHunk) : Option (Int) :=
 if (decide ((p1.length : Int) > 40)) = true then
  some 4
 else
  f_hunk_Check_L9 n p1 n 0 0
def f_norm_valid_J3 (p2 : Bool) (p3 : Bool) (p4 : List GHunk) : Option (Bool) :=
 if ((p4.length : Int) != 1) = true then
  some false
 else
  (ix p4 0).bind fun x8 =>
  if (x8.at_ != 0) = true then
   some false
  else
   if p2 = true then
    if p3 = true then
     some true
    else
     some ((x8.new_.length : Int) == 0)
   else
    if ((x8.old_.length : Int) == 0) = true then
     if p3 = true then
      some true
     else
      some ((x8.new_.length : Int) == 0)
    else
     some false
def f_norm_valid_J2 (p2 : Bool) (p3 : Bool) (p4 : List GHunk) : Option (Bool) :=
 if p2 = true then
  if p3 = true then
   some true
  else
   f_norm_valid_J3 p2 p3 p4
 else
  f_norm_valid_J3 p2 p3 p4
def f_norm_valid (n : Nat) (p1 : List UInt8) (p2 : Bool) (p3 : Bool) (p4 : List GHunk) : Option (Bool) :=
 (f_norm_path n p1).bind fun r23 =>
 if (!r23) = true then
  some false
 else
  if (!p2) = true then
   if (!p3) = true then
    some false
   else
    (f_hunk_Check n p4).bind fun r31 =>
    if (r31 != 0) = true then
     some false
    else
     f_norm_valid_J2 p2 p3 p4
  else
   (f_hunk_Check n p4).bind fun r36 =>
   if (r36 != 0) = true then
    some false
   else
    f_norm_valid_J2 p2 p3 p4
def f_norm_Check_2 (n : Nat) (p1 : List UInt8) (p2 : Bool) (p3 : Bool) (p4 : List GHunk) : Option (Bool) :=
 (f_norm_valid n p1 p2 p3 p4).bind fun r3 =>
 some (!r3)
def f_slices_IndexFunc_Patch_by_norm_Check_2_L5 (n : Nat) (p1 : List GPatch) : Nat → Int → Option (Int)
 | 0, _ => none
 | m5 + 1, v6 =>
  if (decide (v6 < (p1.length : Int))) = true then
   (ix p1 v6).bind fun x14 =>
   (f_norm_Check_2 n x14.path_ x14.was_ x14.stays_ x14.hunks_).bind fun r16 =>
   if r16 = true then
    some v6
   else
    (rng (v6 + 1)).bind fun i20 =>
    (fun (a25 : Int) => f_slices_IndexFunc_Patch_by_norm_Check_2_L5 n p1 m5 a25) i20
  else
   some (-1)
def f_slices_IndexFunc_Patch_by_norm_Check_2 (n : Nat) (p1 : List GPatch) : Option (Int) :=
 f_slices_IndexFunc_Patch_by_norm_Check_2_L5 n p1 n 0
def f_slices_ContainsFunc_Patch_by_norm_Check_2 (n : Nat) (p1 : List GPatch) : Option (Bool) :=
 (f_slices_IndexFunc_Patch_by_norm_Check_2 n p1).bind fun r3 =>
 some (decide (r3 ≥ 0))
def f_norm_Check_L8 (n : Nat) (p1 : List GPatch) : Nat → Int → Option (Int)
 | 0, _ => none
 | m8 + 1, v9 =>
  if (decide (v9 < (p1.length : Int))) = true then
   (ix p1 v9).bind fun x16 =>
   (cutI p1 0 v9).bind fun l19 =>
   (f_slices_ContainsFunc_Patch_by_norm_Check_1 n l19 x16.path_ x16.was_ x16.stays_ x16.hunks_).bind fun r21 =>
   if r21 = true then
    some 14
   else
    (rng (v9 + 1)).bind fun i25 =>
    (fun (a37 : Int) => f_norm_Check_L8 n p1 m8 a37) i25
  else
   (f_slices_ContainsFunc_Patch_by_norm_Check_2 n p1).bind fun r30 =>
   if r30 = true then
    some 8
   else
    some 0
def f_norm_Check (n : Nat) (p1 : List GPatch) : Option (Int) :=
 if (decide ((p1.length : Int) > 24)) = true then
  some 4
 else
  f_norm_Check_L8 n p1 n 0
def f_norm_trim_L27 : Nat → (List (List UInt8)) → (List (List UInt8)) → Option ((List (List UInt8)) × (List (List UInt8)))
 | 0, _, _ => none
 | m27 + 1, v28, v30 =>
  if ((decide ((v28.length : Int) > 0)) && (decide ((v30.length : Int) > 0))) = true then
   (rng ((v28.length : Int) - 1)).bind fun i39 =>
   (ix v28 i39).bind fun x41 =>
   (rng ((v30.length : Int) - 1)).bind fun i43 =>
   (ix v30 i43).bind fun x45 =>
   if (x41 == x45) = true then
    (rng ((v28.length : Int) - 1)).bind fun i48 =>
    (cutI v28 0 i48).bind fun l50 =>
    (rng ((v30.length : Int) - 1)).bind fun i52 =>
    (cutI v30 0 i52).bind fun l54 =>
    (fun (a71 : List (List UInt8)) (a72 : List (List UInt8)) => f_norm_trim_L27 m27 a71 a72) l50 l54
   else
    (lmt v28).bind fun r57 =>
    (lmt v30).bind fun r60 =>
    some (r57, r60)
  else
   (lmt v28).bind fun r65 =>
   (lmt v30).bind fun r68 =>
   some (r65, r68)
def f_norm_trim_L76 : Nat → (List (List UInt8)) → (List (List UInt8)) → Option ((List (List UInt8)) × (List (List UInt8)))
 | 0, _, _ => none
 | m76 + 1, v77, v79 =>
  if ((decide ((v77.length : Int) > 0)) && (decide ((v79.length : Int) > 0))) = true then
   (rng ((v77.length : Int) - 1)).bind fun i88 =>
   (ix v77 i88).bind fun x90 =>
   (rng ((v79.length : Int) - 1)).bind fun i92 =>
   (ix v79 i92).bind fun x94 =>
   if (x90 == x94) = true then
    (rng ((v77.length : Int) - 1)).bind fun i97 =>
    (cutI v77 0 i97).bind fun l99 =>
    (rng ((v79.length : Int) - 1)).bind fun i101 =>
    (cutI v79 0 i101).bind fun l103 =>
    (fun (a120 : List (List UInt8)) (a121 : List (List UInt8)) => f_norm_trim_L76 m76 a120 a121) l99 l103
   else
    (lmt v77).bind fun r106 =>
    (lmt v79).bind fun r109 =>
    some (r106, r109)
  else
   (lmt v77).bind fun r114 =>
   (lmt v79).bind fun r117 =>
   some (r114, r117)
def f_norm_trim_L4 (n : Nat) : Nat → (List (List UInt8)) → (List (List UInt8)) → Option ((List (List UInt8)) × (List (List UInt8)))
 | 0, _, _ => none
 | m4 + 1, v5, v7 =>
  if ((decide ((v5.length : Int) > 0)) && (decide ((v7.length : Int) > 0))) = true then
   (ix v5 0).bind fun x16 =>
   (ix v7 0).bind fun x18 =>
   if (x16 == x18) = true then
    (cutI v5 1 (v5.length : Int)).bind fun l21 =>
    (cutI v7 1 (v7.length : Int)).bind fun l23 =>
    (fun (a122 : List (List UInt8)) (a123 : List (List UInt8)) => f_norm_trim_L4 n m4 a122 a123) l21 l23
   else
    f_norm_trim_L27 n v5 v7
  else
   f_norm_trim_L76 n v5 v7
def f_norm_trim (n : Nat) (p1 : List (List UInt8)) (p2 : List (List UInt8)) : Option ((List (List UInt8)) × (List (List UInt8))) :=
 f_norm_trim_L4 n n p1 p2
def f_norm_norm_L23 (n : Nat) (v7 : List GPatch) (v8 : Int) (x16 : GPatch) (rec6 : (List GPatch) → Int → Option ((List GPatch))) : Nat → (List GHunk) → Int → Int → Option ((List GPatch))
 | 0, _, _, _ => none
 | m23 + 1, v24, v25, v26 =>
  if (decide (v26 < (x16.hunks_.length : Int))) = true then
   (ix x16.hunks_ v26).bind fun x35 =>
   (f_norm_trim n x35.old_ x35.new_).bind fun r38 =>
   (rng ((r38.1.length : Int) + (r38.2.length : Int))).bind fun i42 =>
   if (decide (i42 > 0)) = true then
    (need (v24.length + 1 ≤ lim)).bind fun _ =>
    (rng ((r38.1.length : Int) + 1)).bind fun i46 =>
    (rng (v25 + i46)).bind fun i48 =>
    (rng (v26 + 1)).bind fun i50 =>
    (fun (a63 : List GHunk) (a64 : Int) (a65 : Int) => f_norm_norm_L23 n v7 v8 x16 rec6 m23 a63 a64 a65) (v24 ++ ([(⟨v25, r38.1, r38.2⟩ : GHunk)] : List GHunk)) i48 i50
   else
    (rng (v26 + 1)).bind fun i52 =>
    (fun (a63 : List GHunk) (a64 : Int) (a65 : Int) => f_norm_norm_L23 n v7 v8 x16 rec6 m23 a63 a64 a65) v24 v25 i52
  else
   if (decide ((v24.length : Int) > 0)) = true then
    (need (v7.length + 1 ≤ lim)).bind fun _ =>
    (rng (v8 + 1)).bind fun i57 =>
    rec6 (v7 ++ ([(⟨x16.path_, x16.was_, x16.stays_, v24⟩ : GPatch)] : List GPatch)) i57
   else
    (rng (v8 + 1)).bind fun i59 =>
    rec6 v7 i59
def f_norm_norm_L6 (n : Nat) (p1 : List GPatch) : Nat → (List GPatch) → Int → Option ((List GPatch))
 | 0, _, _ => none
 | m6 + 1, v7, v8 =>
  if (decide (v8 < (p1.length : Int))) = true then
   (ix p1 v8).bind fun x16 =>
   f_norm_norm_L23 n v7 v8 x16 (fun (a72 : List GPatch) (a73 : Int) => f_norm_norm_L6 n p1 m6 a72 a73) m6 ([] : List GHunk) 0 0
  else
   (sortG v7).bind fun r67 =>
   some r67
def f_norm_norm (n : Nat) (p1 : List GPatch) : Option ((List GPatch)) :=
 f_norm_norm_L6 n p1 n ([] : List GPatch) 0
def f_hunk_Text_L68 (v15 : Int) (x23 : GHunk) (rec13 : (List UInt8) → Int → Option ((List UInt8) × Int)) : Nat → (List UInt8) → Int → Option ((List UInt8) × Int)
 | 0, _, _ => none
 | m68 + 1, v69, v70 =>
  if (decide (v70 < (x23.new_.length : Int))) = true then
   (ix x23.new_ v70).bind fun x78 =>
   (need (([43] : List UInt8).length + (x78).length ≤ strLim)).bind fun _ =>
   (need ((43 :: x78).length + ([10] : List UInt8).length ≤ strLim)).bind fun _ =>
   (wsI v69 (43 :: (x78 ++ [10]))).bind fun r82 =>
   (rng (v70 + 1)).bind fun i85 =>
   (fun (a90 : List UInt8) (a91 : Int) => f_hunk_Text_L68 v15 x23 rec13 m68 a90 a91) r82 i85
  else
   (rng (v15 + 1)).bind fun i87 =>
   rec13 v69 i87
def f_hunk_Text_L47 (v15 : Int) (m13 : Nat) (x23 : GHunk) (rec13 : (List UInt8) → Int → Option ((List UInt8) × Int)) : Nat → (List UInt8) → Int → Option ((List UInt8) × Int)
 | 0, _, _ => none
 | m47 + 1, v48, v49 =>
  if (decide (v49 < (x23.old_.length : Int))) = true then
   (ix x23.old_ v49).bind fun x57 =>
   (need (([45] : List UInt8).length + (x57).length ≤ strLim)).bind fun _ =>
   (need ((45 :: x57).length + ([10] : List UInt8).length ≤ strLim)).bind fun _ =>
   (wsI v48 (45 :: (x57 ++ [10]))).bind fun r61 =>
   (rng (v49 + 1)).bind fun i64 =>
   (fun (a93 : List UInt8) (a94 : Int) => f_hunk_Text_L47 v15 m13 x23 rec13 m47 a93 a94) r61 i64
  else
   f_hunk_Text_L68 v15 x23 rec13 m13 v48 0
def f_hunk_Text_L13 (p1 : List GHunk) : Nat → (List UInt8) → Int → Option ((List UInt8) × Int)
 | 0, _, _ => none
 | m13 + 1, v14, v15 =>
  if (decide (v15 < (p1.length : Int))) = true then
   (ix p1 v15).bind fun x23 =>
   (itoaI x23.at_).bind fun r26 =>
   (need (([64] : List UInt8).length + (r26).length ≤ strLim)).bind fun _ =>
   (need ((64 :: r26).length + ([32] : List UInt8).length ≤ strLim)).bind fun _ =>
   (itoaI (x23.old_.length : Int)).bind fun r31 =>
   (need ((64 :: (r26 ++ [32])).length + (r31).length ≤ strLim)).bind fun _ =>
   (need ((64 :: (r26 ++ (32 :: r31))).length + ([32] : List UInt8).length ≤ strLim)).bind fun _ =>
   (itoaI (x23.new_.length : Int)).bind fun r36 =>
   (need ((64 :: (r26 ++ (32 :: (r31 ++ [32])))).length + (r36).length ≤ strLim)).bind fun _ =>
   (need ((64 :: (r26 ++ (32 :: (r31 ++ (32 :: r36))))).length + ([10] : List UInt8).length ≤ strLim)).bind fun _ =>
   (wsI v14 (64 :: (r26 ++ (32 :: (r31 ++ (32 :: (r36 ++ [10]))))))).bind fun r41 =>
   f_hunk_Text_L47 v15 m13 x23 (fun (a107 : List UInt8) (a108 : Int) => f_hunk_Text_L13 p1 m13 a107 a108) m13 r41 0
  else
   if (decide ((v14.length : Int) > 20000)) = true then
    some (([] : List UInt8), 4)
   else
    (strI v14).bind fun r102 =>
    some (r102, 0)
def f_hunk_Text (n : Nat) (p1 : List GHunk) : Option ((List UInt8) × Int) :=
 (f_hunk_Check n p1).bind fun r4 =>
 if (r4 != 0) = true then
  some (([] : List UInt8), r4)
 else
  f_hunk_Text_L13 p1 n ([] : List UInt8) 0
def f_norm_truth (n : Nat) (p1 : Bool) : Option ((List UInt8)) :=
 if p1 = true then
  some ([49] : List UInt8)
 else
  some ([48] : List UInt8)
def f_sha_Start (n : Nat) : Option ((Nat → Int) × (List UInt8) × Int) :=
 some ((litA glob0), ([] : List UInt8), 0)
def f_slices_Concat_byte_L32 (p1 : List (List UInt8)) : Nat → (List UInt8) → Int → Option ((List UInt8))
 | 0, _, _ => none
 | m32 + 1, v33, v34 =>
  if (decide (v34 < (p1.length : Int))) = true then
   (ix p1 v34).bind fun x42 =>
   (need (v33.length + x42.length ≤ lim)).bind fun _ =>
   (rng (v34 + 1)).bind fun i45 =>
   (fun (a49 : List UInt8) (a50 : Int) => f_slices_Concat_byte_L32 p1 m32 a49 a50) (v33 ++ x42) i45
  else
   some v33
def f_slices_Concat_byte_L6 (n : Nat) (p1 : List (List UInt8)) : Nat → Int → Int → Option ((List UInt8))
 | 0, _, _ => none
 | m6 + 1, v7, v8 =>
  if (decide (v8 < (p1.length : Int))) = true then
   (ix p1 v8).bind fun x16 =>
   (rng (v7 + (x16.length : Int))).bind fun i19 =>
   if (decide (i19 < 0)) = true then
    none
   else
    (rng (v8 + 1)).bind fun i22 =>
    (fun (a52 : Int) (a53 : Int) => f_slices_Concat_byte_L6 n p1 m6 a52 a53) i19 i22
  else
   (growI ([] : List UInt8) v7).bind fun r26 =>
   f_slices_Concat_byte_L32 p1 n r26 0
def f_slices_Concat_byte (n : Nat) (p1 : List (List UInt8)) : Option ((List UInt8)) :=
 f_slices_Concat_byte_L6 n p1 n 0 0
def f_math_bits_RotateLeft32 (n : Nat) (p1 : Int) (p2 : Int) : Option (Int) :=
 (frc (IntKind.u64.wrap p2)).bind fun i3 =>
 (frc (bitsOf .and .u64 i3 31)).bind fun i5 =>
 (need (0 ≤ i5)).bind fun _ =>
 (frc (IntKind.u32.wrap (p1 * (2 ^ (min (Int.toNat i5) (IntKind.bits .u32)))))).bind fun i9 =>
 (frc (IntKind.u64.wrap (32 - i5))).bind fun i11 =>
 (need (0 ≤ i11)).bind fun _ =>
 (frc (Int.fdiv p1 (2 ^ (min (Int.toNat i11) (IntKind.bits .u32))))).bind fun i14 =>
 (frc (bitsOf .or .u32 i9 i14)).bind fun i16 =>
 some i16
def f_sha_turns_L6 (n : Nat) (p1 : Int) (p2 : List Int) : Nat → Int → Int → Option (Int)
 | 0, _, _ => none
 | m6 + 1, v7, v8 =>
  if (decide (v8 < (p2.length : Int))) = true then
   (ix p2 v8).bind fun x16 =>
   (rng (0 - x16)).bind fun i18 =>
   (f_math_bits_RotateLeft32 n p1 i18).bind fun r20 =>
   (frc (bitsOf .xor .u32 v7 r20)).bind fun i23 =>
   (rng (v8 + 1)).bind fun i25 =>
   (fun (a29 : Int) (a30 : Int) => f_sha_turns_L6 n p1 p2 m6 a29 a30) i23 i25
  else
   some v7
def f_sha_turns (n : Nat) (p1 : Int) (p2 : List Int) : Option (Int) :=
 f_sha_turns_L6 n p1 p2 n 0 0
def f_sha_take_L26 (v8 : Int) (l23 : List UInt8) (rec6 : (Nat → Int) → Int → Option ((Nat → Int))) : Nat → (Nat → Int) → Int → Option ((Nat → Int))
 | 0, _, _ => none
 | m26 + 1, v27, v28 =>
  if (decide (v28 < (l23.length : Int))) = true then
   (ix l23 v28).bind fun x36 =>
   (need (0 ≤ v8 ∧ v8 < 64)).bind fun _ =>
   (frc (IntKind.u32.wrap ((v27 v8.toNat) * (2 ^ (min (Int.toNat 8) (IntKind.bits .u32)))))).bind fun i39 =>
   (need (IntKind.u32.wrap (x36.toNat : Int) = (x36.toNat : Int))).bind fun _ =>
   (frc (bitsOf .or .u32 i39 (x36.toNat : Int))).bind fun i42 =>
   (rng (v28 + 1)).bind fun i44 =>
   (fun (a49 : Nat → Int) (a50 : Int) => f_sha_take_L26 v8 l23 rec6 m26 a49 a50) (updA v27 v8.toNat i42) i44
  else
   (rng (v8 + 1)).bind fun i46 =>
   rec6 v27 i46
def f_sha_take_L161 (v104 : Nat → Int) : Nat → (Nat → Int) → Int → Option ((Nat → Int))
 | 0, _, _ => none
 | m161 + 1, v162, v163 =>
  if (decide (v163 < 8)) = true then
   (need (0 ≤ v163 ∧ v163 < 8)).bind fun _ =>
   (frc (IntKind.u32.wrap ((v162 v163.toNat) + (v104 v163.toNat)))).bind fun i172 =>
   (rng (v163 + 1)).bind fun i174 =>
   (fun (a178 : Nat → Int) (a179 : Int) => f_sha_take_L161 v104 m161 a178 a179) (updA v162 v163.toNat i172) i174
  else
   some v162
def f_sha_take_L103 (n : Nat) (p1 : Nat → Int) (v55 : Nat → Int) : Nat → (Nat → Int) → Int → Option ((Nat → Int))
 | 0, _, _ => none
 | m103 + 1, v104, v105 =>
  if (decide (v105 < 64)) = true then
   (f_sha_turns n (v104 4) ([6, 11, 25] : List Int)).bind fun r115 =>
   (frc (IntKind.u32.wrap ((v104 7) + r115))).bind fun i118 =>
   (frc (bitsOf .and .u32 (v104 4) (v104 5))).bind fun i120 =>
   (frc (bitsOf .xor .u32 (if IntKind.signed .u32 = true then -1 else IntKind.max .u32) (v104 4))).bind fun i122 =>
   (frc (bitsOf .and .u32 i122 (v104 6))).bind fun i124 =>
   (frc (bitsOf .xor .u32 i120 i124)).bind fun i126 =>
   (frc (IntKind.u32.wrap (i118 + i126))).bind fun i128 =>
   (need (0 ≤ v105 ∧ v105 < 64)).bind fun _ =>
   (frc (IntKind.u32.wrap (i128 + ((litA glob2) v105.toNat)))).bind fun i131 =>
   (frc (IntKind.u32.wrap (i131 + (v55 v105.toNat)))).bind fun i133 =>
   (f_sha_turns n (v104 0) ([2, 13, 22] : List Int)).bind fun r136 =>
   (frc (bitsOf .and .u32 (v104 0) (v104 1))).bind fun i139 =>
   (frc (bitsOf .and .u32 (v104 0) (v104 2))).bind fun i141 =>
   (frc (bitsOf .xor .u32 i139 i141)).bind fun i143 =>
   (frc (bitsOf .and .u32 (v104 1) (v104 2))).bind fun i145 =>
   (frc (bitsOf .xor .u32 i143 i145)).bind fun i147 =>
   (frc (IntKind.u32.wrap (r136 + i147))).bind fun i149 =>
   (frc (IntKind.u32.wrap (i133 + i149))).bind fun i152 =>
   (frc (IntKind.u32.wrap (((cpyA v104 v104 1 7 0) 4) + i133))).bind fun i154 =>
   (rng (v105 + 1)).bind fun i156 =>
   (fun (a181 : Nat → Int) (a182 : Int) => f_sha_take_L103 n p1 v55 m103 a181 a182) (updA (updA (cpyA v104 v104 1 7 0) 0 i152) 4 i154) i156
  else
   f_sha_take_L161 v104 n p1 0
def f_sha_take_L54 (n : Nat) (p1 : Nat → Int) : Nat → (Nat → Int) → Int → Option ((Nat → Int))
 | 0, _, _ => none
 | m54 + 1, v55, v56 =>
  if (decide (v56 < 64)) = true then
   (rng (v56 - 15)).bind fun i64 =>
   (need (0 ≤ i64 ∧ i64 < 64)).bind fun _ =>
   (rng (v56 - 2)).bind fun i67 =>
   (need (0 ≤ i67 ∧ i67 < 64)).bind fun _ =>
   (rng (v56 - 16)).bind fun i70 =>
   (need (0 ≤ i70 ∧ i70 < 64)).bind fun _ =>
   (rng (v56 - 7)).bind fun i73 =>
   (need (0 ≤ i73 ∧ i73 < 64)).bind fun _ =>
   (frc (IntKind.u32.wrap ((v55 i70.toNat) + (v55 i73.toNat)))).bind fun i76 =>
   (f_sha_turns n (v55 i64.toNat) ([7, 18] : List Int)).bind fun r78 =>
   (frc (Int.fdiv (v55 i64.toNat) (2 ^ (min (Int.toNat 3) (IntKind.bits .u32))))).bind fun i81 =>
   (frc (bitsOf .xor .u32 r78 i81)).bind fun i83 =>
   (frc (IntKind.u32.wrap (i76 + i83))).bind fun i85 =>
   (f_sha_turns n (v55 i67.toNat) ([17, 19] : List Int)).bind fun r87 =>
   (frc (Int.fdiv (v55 i67.toNat) (2 ^ (min (Int.toNat 10) (IntKind.bits .u32))))).bind fun i90 =>
   (frc (bitsOf .xor .u32 r87 i90)).bind fun i92 =>
   (frc (IntKind.u32.wrap (i85 + i92))).bind fun i94 =>
   (need (0 ≤ v56 ∧ v56 < 64)).bind fun _ =>
   (rng (v56 + 1)).bind fun i97 =>
   (fun (a184 : Nat → Int) (a185 : Int) => f_sha_take_L54 n p1 m54 a184 a185) (updA v55 v56.toNat i94) i97
  else
   f_sha_take_L103 n p1 v55 n p1 0
def f_sha_take_L6 (n : Nat) (p1 : Nat → Int) (p2 : List UInt8) : Nat → (Nat → Int) → Int → Option ((Nat → Int))
 | 0, _, _ => none
 | m6 + 1, v7, v8 =>
  if (decide (v8 < 16)) = true then
   (rng (4 * v8)).bind fun i17 =>
   (rng (4 * v8)).bind fun i19 =>
   (rng (i19 + 4)).bind fun i21 =>
   (cutI p2 i17 i21).bind fun l23 =>
   f_sha_take_L26 v8 l23 (fun (a187 : Nat → Int) (a188 : Int) => f_sha_take_L6 n p1 p2 m6 a187 a188) m6 v7 0
  else
   f_sha_take_L54 n p1 n v7 16
def f_sha_take (n : Nat) (p1 : Nat → Int) (p2 : List UInt8) : Option ((Nat → Int)) :=
 f_sha_take_L6 n p1 p2 n zeroA 0
def f_sha_write_L11 (n : Nat) (i3 : Int) : Nat → (Nat → Int) → (List UInt8) → Option ((Nat → Int) × (List UInt8) × Int)
 | 0, _, _ => none
 | m11 + 1, v12, v13 =>
  if (decide ((v13.length : Int) ≥ 64)) = true then
   (cutI v13 0 64).bind fun l20 =>
   (f_sha_take n v12 l20).bind fun r22 =>
   (cutI v13 64 (v13.length : Int)).bind fun l25 =>
   (fun (a33 : Nat → Int) (a34 : List UInt8) => f_sha_write_L11 n i3 m11 a33 a34) r22 l25
  else
   (lmt v13).bind fun r28 =>
   some (v12, r28, i3)
def f_sha_write (n : Nat) (p1 : Nat → Int) (p2 : List UInt8) (p3 : Int) (p4 : List UInt8) : Option ((Nat → Int) × (List UInt8) × Int) :=
 (rng (p3 + (p4.length : Int))).bind fun i3 =>
 (f_slices_Concat_byte n ([p2, p4] : List (List UInt8))).bind fun r6 =>
 f_sha_write_L11 n i3 n p1 r6
def f_sha_pad_L15 (p1 : Int) : Nat → (List UInt8) → Int → Option ((List UInt8))
 | 0, _, _ => none
 | m15 + 1, v16, v17 =>
  if (decide (v17 < 8)) = true then
   (frc (IntKind.u64.wrap p1)).bind fun i25 =>
   (frc (IntKind.u64.wrap (i25 * (2 ^ (min (Int.toNat 3) (IntKind.bits .u64)))))).bind fun i27 =>
   (rng (8 * v17)).bind fun i29 =>
   (rng (56 - i29)).bind fun i31 =>
   (need (0 ≤ i31)).bind fun _ =>
   (frc (Int.fdiv i27 (2 ^ (min (Int.toNat i31) (IntKind.bits .u64))))).bind fun i34 =>
   (frc8 (IntKind.u8.wrap i34)).bind fun b36 =>
   (need (v16.length + 1 ≤ lim)).bind fun _ =>
   (rng (v17 + 1)).bind fun i39 =>
   (fun (a43 : List UInt8) (a44 : Int) => f_sha_pad_L15 p1 m15 a43 a44) (v16 ++ ([b36] : List UInt8)) i39
  else
   some v16
def f_sha_pad (n : Nat) (p1 : Int) : Option ((List UInt8)) :=
 (frc (Int.tmod p1 64)).bind fun i3 =>
 (rng (119 - i3)).bind fun i5 =>
 (frc (Int.tmod i5 64)).bind fun i7 =>
 (need (0 ≤ i7 ∧ i7 ≤ (lim : Int))).bind fun _ =>
 (need (1 + i7.toNat ≤ lim)).bind fun _ =>
 f_sha_pad_L15 p1 n (([(128 : UInt8)] : List UInt8) ++ (List.replicate i7.toNat (0 : UInt8))) 0
def f_sha_finish_L25 (r6 : (Nat → Int) × (List UInt8) × Int) (v14 : Int) (rec12 : (Nat → Int) → Int → Option ((Nat → Int))) : Nat → (Nat → Int) → Int → Option ((Nat → Int))
 | 0, _, _ => none
 | m25 + 1, v26, v27 =>
  if (decide (v27 < 4)) = true then
   (rng (4 * v14)).bind fun i35 =>
   (rng (i35 + v27)).bind fun i37 =>
   (rng (8 * v27)).bind fun i39 =>
   (rng (24 - i39)).bind fun i41 =>
   (need (0 ≤ i41)).bind fun _ =>
   (frc (Int.fdiv (r6.1 v14.toNat) (2 ^ (min (Int.toNat i41) (IntKind.bits .u32))))).bind fun i44 =>
   (frc8 (IntKind.u8.wrap i44)).bind fun b46 =>
   (need (0 ≤ i37 ∧ i37 < 32)).bind fun _ =>
   (rng (v27 + 1)).bind fun i49 =>
   (fun (a54 : Nat → Int) (a55 : Int) => f_sha_finish_L25 r6 v14 rec12 m25 a54 a55) (updA v26 i37.toNat (b46.toNat : Int)) i49
  else
   (rng (v14 + 1)).bind fun i51 =>
   rec12 v26 i51
def f_sha_finish_L12 (r6 : (Nat → Int) × (List UInt8) × Int) : Nat → (Nat → Int) → Int → Option ((Nat → Int))
 | 0, _, _ => none
 | m12 + 1, v13, v14 =>
  if (decide (v14 < 8)) = true then
   (need (0 ≤ v14 ∧ v14 < 8)).bind fun _ =>
   f_sha_finish_L25 r6 v14 (fun (a58 : Nat → Int) (a59 : Int) => f_sha_finish_L12 r6 m12 a58 a59) m12 v13 0
  else
   some v13
def f_sha_finish (n : Nat) (p1 : Nat → Int) (p2 : List UInt8) (p3 : Int) : Option ((Nat → Int)) :=
 (f_sha_pad n p3).bind fun r3 =>
 (f_sha_write n p1 p2 p3 r3).bind fun r6 =>
 f_sha_finish_L12 r6 n zeroA 0
def f_sha_Sum (n : Nat) (p1 : List UInt8) : Option ((Nat → Int) × Int) :=
 if (decide ((p1.length : Int) > 1000000)) = true then
  some (zeroA, 4)
 else
  (f_sha_Start n).bind fun r6 =>
  (f_sha_write n r6.1 r6.2.1 r6.2.2 p1).bind fun r9 =>
  (f_sha_finish n r9.1 r9.2.1 r9.2.2).bind fun r12 =>
  some (r12, 0)
def f_norm_Class_L16 (n : Nat) (r12 : (List GPatch)) : Nat → (List UInt8) → Int → Option ((Nat → Int) × Int)
 | 0, _, _ => none
 | m16 + 1, v17, v18 =>
  if (decide (v18 < (r12.length : Int))) = true then
   (ix r12 v18).bind fun x26 =>
   (f_hunk_Text n x26.hunks_).bind fun r29 =>
   if (r29.2 != 0) = true then
    some (zeroA, r29.2)
   else
    (need (x26.path_.length + 1 ≤ strLim)).bind fun _ =>
    (f_norm_truth n x26.was_).bind fun r37 =>
    (need ((x26.path_ ++ [32]).length + (r37).length ≤ strLim)).bind fun _ =>
    (need ((x26.path_ ++ (32 :: r37)).length + ([32] : List UInt8).length ≤ strLim)).bind fun _ =>
    (f_norm_truth n x26.stays_).bind fun r42 =>
    (need ((x26.path_ ++ (32 :: (r37 ++ [32]))).length + (r42).length ≤ strLim)).bind fun _ =>
    (need ((x26.path_ ++ (32 :: (r37 ++ (32 :: r42)))).length + ([32] : List UInt8).length ≤ strLim)).bind fun _ =>
    (itoaI (x26.hunks_.length : Int)).bind fun r47 =>
    (need ((x26.path_ ++ (32 :: (r37 ++ (32 :: (r42 ++ [32]))))).length + (r47).length ≤ strLim)).bind fun _ =>
    (need ((x26.path_ ++ (32 :: (r37 ++ (32 :: (r42 ++ (32 :: r47)))))).length + ([10] : List UInt8).length ≤ strLim)).bind fun _ =>
    (wsI v17 (x26.path_ ++ (32 :: (r37 ++ (32 :: (r42 ++ (32 :: (r47 ++ [10])))))))).bind fun r52 =>
    (wsI r52 r29.1).bind fun r55 =>
    (rng (v18 + 1)).bind fun i58 =>
    (fun (a69 : List UInt8) (a70 : Int) => f_norm_Class_L16 n r12 m16 a69 a70) r55 i58
  else
   (f_sha_Sum n v17).bind fun r65 =>
   some (r65.1, r65.2)
def f_norm_Class (n : Nat) (p1 : List GPatch) : Option ((Nat → Int) × Int) :=
 (f_norm_Check n p1).bind fun r4 =>
 if (r4 != 0) = true then
  some (zeroA, r4)
 else
  (f_norm_norm n p1).bind fun r12 =>
  f_norm_Class_L16 n r12 n ([] : List UInt8) 0
def f_sidinglaw17_given (n : Nat) : Option ((List GPatch)) :=
 (f_sidinglaw17_one n ([102] : List UInt8) 4 ([([97] : List UInt8), ([98] : List UInt8), ([99] : List UInt8)] : List (List UInt8)) ([([97] : List UInt8), ([120] : List UInt8), ([99] : List UInt8)] : List (List UInt8))).bind fun r3 =>
 some ([(⟨r3.1, r3.2.1, r3.2.2.1, r3.2.2.2⟩ : GPatch)] : List GPatch)
def f_slices_Equal_string_L8 (p1 : List (List UInt8)) (p2 : List (List UInt8)) : Nat → Int → Option (Bool)
 | 0, _ => none
 | m8 + 1, v9 =>
  if (decide (v9 < (p1.length : Int))) = true then
   (ix p1 v9).bind fun x17 =>
   (ix p2 v9).bind fun x19 =>
   if (!(x17 == x19)) = true then
    some false
   else
    (rng (v9 + 1)).bind fun i22 =>
    (fun (a27 : Int) => f_slices_Equal_string_L8 p1 p2 m8 a27) i22
  else
   some true
def f_slices_Equal_string (n : Nat) (p1 : List (List UInt8)) (p2 : List (List UInt8)) : Option (Bool) :=
 if ((p1.length : Int) != (p2.length : Int)) = true then
  some false
 else
  f_slices_Equal_string_L8 p1 p2 n 0
def f_norm_same_1_1 (n : Nat) (p1 : Int) (p2 : List (List UInt8)) (p3 : List (List UInt8)) (p4 : Int) (p5 : List (List UInt8)) (p6 : List (List UInt8)) : Option (Bool) :=
 if (p1 == p4) = true then
  (f_slices_Equal_string n p2 p5).bind fun r4 =>
  if r4 = true then
   (f_slices_Equal_string n p3 p6).bind fun r8 =>
   some r8
  else
   some false
 else
  some false
def f_slices_EqualFunc_Hunk_by_norm_same_1_1_L8 (n : Nat) (p1 : List GHunk) (p2 : List GHunk) : Nat → Int → Option (Bool)
 | 0, _ => none
 | m8 + 1, v9 =>
  if (decide (v9 < (p1.length : Int))) = true then
   (ix p1 v9).bind fun x16 =>
   (ix p2 v9).bind fun x19 =>
   (f_norm_same_1_1 n x16.at_ x16.old_ x16.new_ x19.at_ x19.old_ x19.new_).bind fun r22 =>
   if (!r22) = true then
    some false
   else
    (rng (v9 + 1)).bind fun i26 =>
    (fun (a31 : Int) => f_slices_EqualFunc_Hunk_by_norm_same_1_1_L8 n p1 p2 m8 a31) i26
  else
   some true
def f_slices_EqualFunc_Hunk_by_norm_same_1_1 (n : Nat) (p1 : List GHunk) (p2 : List GHunk) : Option (Bool) :=
 if ((p1.length : Int) != (p2.length : Int)) = true then
  some false
 else
  f_slices_EqualFunc_Hunk_by_norm_same_1_1_L8 n p1 p2 n 0
def f_norm_same_1 (n : Nat) (p1 : List UInt8) (p2 : Bool) (p3 : Bool) (p4 : List GHunk) (p5 : List UInt8) (p6 : Bool) (p7 : Bool) (p8 : List GHunk) : Option (Bool) :=
 if (p1 == p5) = true then
  if (p2 == p6) = true then
   if (p3 == p7) = true then
    (f_slices_EqualFunc_Hunk_by_norm_same_1_1 n p4 p8).bind fun r6 =>
    some r6
   else
    some false
  else
   some false
 else
  some false
def f_slices_EqualFunc_Patch_by_norm_same_1_L8 (n : Nat) (p1 : List GPatch) (p2 : List GPatch) : Nat → Int → Option (Bool)
 | 0, _ => none
 | m8 + 1, v9 =>
  if (decide (v9 < (p1.length : Int))) = true then
   (ix p1 v9).bind fun x16 =>
   (ix p2 v9).bind fun x19 =>
   (f_norm_same_1 n x16.path_ x16.was_ x16.stays_ x16.hunks_ x19.path_ x19.was_ x19.stays_ x19.hunks_).bind fun r22 =>
   if (!r22) = true then
    some false
   else
    (rng (v9 + 1)).bind fun i26 =>
    (fun (a31 : Int) => f_slices_EqualFunc_Patch_by_norm_same_1_L8 n p1 p2 m8 a31) i26
  else
   some true
def f_slices_EqualFunc_Patch_by_norm_same_1 (n : Nat) (p1 : List GPatch) (p2 : List GPatch) : Option (Bool) :=
 if ((p1.length : Int) != (p2.length : Int)) = true then
  some false
 else
  f_slices_EqualFunc_Patch_by_norm_same_1_L8 n p1 p2 n 0
def f_norm_same (n : Nat) (p1 : List GPatch) (p2 : List GPatch) : Option (Bool) :=
 (f_slices_EqualFunc_Patch_by_norm_same_1 n p1 p2).bind fun r3 =>
 some r3
def f_norm_Same (n : Nat) (p1 : List GPatch) (p2 : List GPatch) : Option (Bool × Int) :=
 (f_norm_Check n p1).bind fun r4 =>
 if (r4 != 0) = true then
  some (false, r4)
 else
  (f_norm_Check n p2).bind fun r11 =>
  if (r11 != 0) = true then
   some (false, r11)
  else
   (f_norm_norm n p1).bind fun r17 =>
   (f_norm_norm n p2).bind fun r20 =>
   (f_norm_same n r17 r20).bind fun r23 =>
   some (r23, 0)
def f_norm_Norm (n : Nat) (p1 : List GPatch) : Option ((List GPatch) × Int) :=
 (f_norm_Check n p1).bind fun r4 =>
 if (r4 != 0) = true then
  some (([] : List GPatch), r4)
 else
  (f_norm_norm n p1).bind fun r10 =>
  some (r10, 0)
def f_sidingref13_Same_L8 (p1 : List (List UInt8)) (p2 : List (List UInt8)) : Nat → Int → Option (Bool)
 | 0, _ => none
 | m8 + 1, v9 =>
  if (decide (v9 < (p1.length : Int))) = true then
   (ix p1 v9).bind fun x16 =>
   (ix p2 v9).bind fun x18 =>
   if (!(x16 == x18)) = true then
    some false
   else
    (rng (v9 + 1)).bind fun i21 =>
    (fun (a26 : Int) => f_sidingref13_Same_L8 p1 p2 m8 a26) i21
  else
   some true
def f_sidingref13_Same (n : Nat) (p1 : List (List UInt8)) (p2 : List (List UInt8)) : Option (Bool) :=
 if ((p1.length : Int) != (p2.length : Int)) = true then
  some false
 else
  f_sidingref13_Same_L8 p1 p2 n 0
def f_sidingref15_Same_L8 (n : Nat) (p1 : List GHunk) (p2 : List GHunk) : Nat → Int → Option (Bool)
 | 0, _ => none
 | m8 + 1, v9 =>
  if (decide (v9 < (p1.length : Int))) = true then
   (ix p1 v9).bind fun x16 =>
   (ix p2 v9).bind fun x18 =>
   if (x16.at_ != x18.at_) = true then
    some false
   else
    (f_sidingref13_Same n x16.old_ x18.old_).bind fun r23 =>
    if (!r23) = true then
     some false
    else
     (f_sidingref13_Same n x16.new_ x18.new_).bind fun r29 =>
     if (!r29) = true then
      some false
     else
      (rng (v9 + 1)).bind fun i33 =>
      (fun (a38 : Int) => f_sidingref15_Same_L8 n p1 p2 m8 a38) i33
  else
   some true
def f_sidingref15_Same (n : Nat) (p1 : List GHunk) (p2 : List GHunk) : Option (Bool) :=
 if ((p1.length : Int) != (p2.length : Int)) = true then
  some false
 else
  f_sidingref15_Same_L8 n p1 p2 n 0
def f_sidingref17_Equal_L8 (n : Nat) (p1 : List GPatch) (p2 : List GPatch) : Nat → Int → Option (Bool)
 | 0, _ => none
 | m8 + 1, v9 =>
  if (decide (v9 < (p1.length : Int))) = true then
   (ix p1 v9).bind fun x16 =>
   (ix p2 v9).bind fun x18 =>
   if (((!(x16.path_ == x18.path_)) || (!(x16.was_ == x18.was_))) || (!(x16.stays_ == x18.stays_))) = true then
    some false
   else
    (f_sidingref15_Same n x16.hunks_ x18.hunks_).bind fun r22 =>
    if (!r22) = true then
     some false
    else
     (rng (v9 + 1)).bind fun i26 =>
     (fun (a31 : Int) => f_sidingref17_Equal_L8 n p1 p2 m8 a31) i26
  else
   some true
def f_sidingref17_Equal (n : Nat) (p1 : List GPatch) (p2 : List GPatch) : Option (Bool) :=
 if ((p1.length : Int) != (p2.length : Int)) = true then
  some false
 else
  f_sidingref17_Equal_L8 n p1 p2 n 0
def f_sidinglaw17_alive (n : Nat) : Option (Bool) :=
 (f_sidinglaw17_given n).bind fun r3 =>
 (f_norm_Norm n r3).bind fun r6 =>
 (f_sidinglaw17_given n).bind fun r10 =>
 (f_norm_Class n r10).bind fun r13 =>
 (f_sha_Sum n ([(102 : UInt8), (32 : UInt8), (49 : UInt8), (32 : UInt8), (49 : UInt8), (32 : UInt8), (49 : UInt8), (10 : UInt8), (64 : UInt8), (48 : UInt8), (32 : UInt8), (49 : UInt8), (32 : UInt8), (49 : UInt8), (10 : UInt8), (45 : UInt8), (98 : UInt8), (10 : UInt8), (43 : UInt8), (120 : UInt8), (10 : UInt8)] : List UInt8)).bind fun r17 =>
 (f_sidinglaw17_given n).bind fun r22 =>
 (f_sidinglaw17_one n ([102] : List UInt8) 9 ([([98] : List UInt8)] : List (List UInt8)) ([([120] : List UInt8)] : List (List UInt8))).bind fun r25 =>
 (f_norm_Same n r22 ([(⟨r25.1, r25.2.1, r25.2.2.1, r25.2.2.2⟩ : GPatch)] : List GPatch)).bind fun r28 =>
 (f_sidinglaw17_given n).bind fun r32 =>
 (f_sidinglaw17_one n ([103] : List UInt8) 9 ([([98] : List UInt8)] : List (List UInt8)) ([([120] : List UInt8)] : List (List UInt8))).bind fun r35 =>
 (f_norm_Same n r32 ([(⟨r35.1, r35.2.1, r35.2.2.1, r35.2.2.2⟩ : GPatch)] : List GPatch)).bind fun r38 =>
 (f_sidinglaw17_one n ([102] : List UInt8) 2 ([([98] : List UInt8)] : List (List UInt8)) ([([98] : List UInt8)] : List (List UInt8))).bind fun r42 =>
 (f_norm_Norm n ([(⟨r42.1, r42.2.1, r42.2.2.1, r42.2.2.2⟩ : GPatch)] : List GPatch)).bind fun r45 =>
 if ((((((r6.2 == 0) && (r13.2 == 0)) && (r17.2 == 0)) && (r28.2 == 0)) && (r38.2 == 0)) && (r45.2 == 0)) = true then
  (f_sidinglaw17_one n ([102] : List UInt8) 0 ([([98] : List UInt8)] : List (List UInt8)) ([([120] : List UInt8)] : List (List UInt8))).bind fun r51 =>
  (f_sidingref17_Equal n r6.1 ([(⟨r51.1, r51.2.1, r51.2.2.1, r51.2.2.2⟩ : GPatch)] : List GPatch)).bind fun r54 =>
  if (((r54 && (eqA 32 r13.1 r17.1)) && r28.1) && (!r38.1)) = true then
   some ((r45.1.length : Int) == 0)
  else
   some false
 else
  some false
def f_sidinglaw17_NormNames_L63 (n : Nat) (l58 : List GPatch) : Nat → Int → Option (Bool)
 | 0, _ => none
 | m63 + 1, v64 =>
  if (decide (v64 < (l58.length : Int))) = true then
   (rng (v64 + 1)).bind fun i71 =>
   (cutI l58 v64 i71).bind fun l73 =>
   (f_norm_Class n l73).bind fun r75 =>
   (rng (v64 + 1)).bind fun i79 =>
   (cutI l58 v64 i79).bind fun l81 =>
   (f_norm_Check n l81).bind fun r83 =>
   if ((r83 != 8) || (r75.2 != 8)) = true then
    some false
   else
    (rng (v64 + 1)).bind fun i87 =>
    (fun (a141 : Int) => f_sidinglaw17_NormNames_L63 n l58 m63 a141) i87
  else
   (need (0 ≤ 25 ∧ 25 ≤ 25 ∧ 25 ≤ (lim : Int))).bind fun _ =>
   (some (List.replicate 25 (⟨([] : List UInt8), false, false, ([] : List GHunk)⟩ : GPatch))).bind fun l92 =>
   (f_norm_Check n l92).bind fun r94 =>
   (f_norm_Check n ([(⟨([102] : List UInt8), false, false, ([] : List GHunk)⟩ : GPatch), (⟨([102] : List UInt8), false, false, ([] : List GHunk)⟩ : GPatch)] : List GPatch)).bind fun r98 =>
   (f_norm_Check n ([(⟨([102] : List UInt8), false, true, ([(⟨0, ([] : List (List UInt8)), ([([98] : List UInt8)] : List (List UInt8))⟩ : GHunk)] : List GHunk)⟩ : GPatch), (⟨([103] : List UInt8), true, false, ([(⟨0, ([([97] : List UInt8)] : List (List UInt8)), ([] : List (List UInt8))⟩ : GHunk)] : List GHunk)⟩ : GPatch)] : List GPatch)).bind fun r102 =>
   (f_sidinglaw17_given n).bind fun r106 =>
   (cutI l58 0 1).bind fun l109 =>
   (f_norm_Same n r106 l109).bind fun r111 =>
   (f_norm_Class n ([] : List GPatch)).bind fun r115 =>
   (f_sha_Sum n ([] : List UInt8)).bind fun r119 =>
   (f_sidinglaw17_one n ([103] : List UInt8) 7 ([([97] : List UInt8)] : List (List UInt8)) ([([98] : List UInt8)] : List (List UInt8))).bind fun r123 =>
   (f_norm_Norm n ([(⟨r123.1, r123.2.1, r123.2.2.1, r123.2.2.2⟩ : GPatch), (⟨([102] : List UInt8), true, true, ([(⟨3, ([([112] : List UInt8), ([113] : List UInt8)] : List (List UInt8)), ([([112] : List UInt8)] : List (List UInt8))⟩ : GHunk), (⟨9, ([] : List (List UInt8)), ([([98] : List UInt8)] : List (List UInt8))⟩ : GHunk)] : List GHunk)⟩ : GPatch)] : List GPatch)).bind fun r126 =>
   (f_sidinglaw17_alive n).bind fun r130 =>
   if ((((((((r130 && (r94 == 4)) && (r98 == 14)) && (r102 == 0)) && (r111.2 == 8)) && (r115.2 == 0)) && (r119.2 == 0)) && (eqA 32 r115.1 r119.1)) && (r126.2 == 0)) = true then
    (f_sidinglaw17_one n ([103] : List UInt8) 0 ([([97] : List UInt8)] : List (List UInt8)) ([([98] : List UInt8)] : List (List UInt8))).bind fun r134 =>
    (f_sidingref17_Equal n r126.1 ([(⟨([102] : List UInt8), true, true, ([(⟨0, ([([113] : List UInt8)] : List (List UInt8)), ([] : List (List UInt8))⟩ : GHunk), (⟨2, ([] : List (List UInt8)), ([([98] : List UInt8)] : List (List UInt8))⟩ : GHunk)] : List GHunk)⟩ : GPatch), (⟨r134.1, r134.2.1, r134.2.2.1, r134.2.2.2⟩ : GPatch)] : List GPatch)).bind fun r137 =>
    some r137
   else
    some false
def f_sidinglaw17_NormNames_L37 (n : Nat) (r31 : (List UInt8)) : Nat → Int → Option (Bool)
 | 0, _ => none
 | m37 + 1, v38 =>
  if (decide (v38 < 7)) = true then
   (ix ([([97] : List UInt8), ([65, 47, 98, 45, 99, 95, 100, 46, 101] : List UInt8), ([46, 46, 46] : List UInt8), ([46, 97] : List UInt8), ([97, 46] : List UInt8), ([48, 47, 49, 47, 50] : List UInt8), r31] : List (List UInt8)) v38).bind fun x45 =>
   (f_sidinglaw17_one n x45 0 ([([97] : List UInt8)] : List (List UInt8)) ([([98] : List UInt8)] : List (List UInt8))).bind fun r47 =>
   (f_norm_Check n ([(⟨r47.1, r47.2.1, r47.2.2.1, r47.2.2.2⟩ : GPatch)] : List GPatch)).bind fun r50 =>
   if (r50 != 0) = true then
    some false
   else
    (rng (v38 + 1)).bind fun i54 =>
    (fun (a143 : Int) => f_sidinglaw17_NormNames_L37 n r31 m37 a143) i54
  else
   (some ([(⟨([102] : List UInt8), false, false, ([] : List GHunk)⟩ : GPatch), (⟨([102] : List UInt8), false, true, ([] : List GHunk)⟩ : GPatch), (⟨([102] : List UInt8), true, false, ([] : List GHunk)⟩ : GPatch), (⟨([102] : List UInt8), false, true, ([(⟨0, ([([97] : List UInt8)] : List (List UInt8)), ([([98] : List UInt8)] : List (List UInt8))⟩ : GHunk)] : List GHunk)⟩ : GPatch), (⟨([102] : List UInt8), true, false, ([(⟨0, ([([97] : List UInt8)] : List (List UInt8)), ([([98] : List UInt8)] : List (List UInt8))⟩ : GHunk)] : List GHunk)⟩ : GPatch), (⟨([102] : List UInt8), false, true, ([(⟨1, ([] : List (List UInt8)), ([([98] : List UInt8)] : List (List UInt8))⟩ : GHunk)] : List GHunk)⟩ : GPatch), (⟨([102] : List UInt8), true, false, ([(⟨0, ([([97] : List UInt8)] : List (List UInt8)), ([] : List (List UInt8))⟩ : GHunk), (⟨3, ([([97] : List UInt8)] : List (List UInt8)), ([] : List (List UInt8))⟩ : GHunk)] : List GHunk)⟩ : GPatch), (⟨([102] : List UInt8), true, true, ([(⟨0, ([] : List (List UInt8)), ([] : List (List UInt8))⟩ : GHunk)] : List GHunk)⟩ : GPatch)] : List GPatch)).bind fun l58 =>
   f_sidinglaw17_NormNames_L63 n l58 n 0
def f_sidinglaw17_NormNames_L10 (n : Nat) (r4 : (List UInt8)) : Nat → Int → Option (Bool)
 | 0, _ => none
 | m10 + 1, v11 =>
  if (decide (v11 < 13)) = true then
   (ix ([([] : List UInt8), ([47] : List UInt8), ([97, 47] : List UInt8), ([47, 97] : List UInt8), ([97, 47, 47, 98] : List UInt8), ([46] : List UInt8), ([46, 46] : List UInt8), ([97, 47, 46, 46] : List UInt8), ([46, 47, 97] : List UInt8), ([97, 32, 98] : List UInt8), ([97, 92, 98] : List UInt8), ([195, 164] : List UInt8), r4] : List (List UInt8)) v11).bind fun x18 =>
   (f_sidinglaw17_one n x18 0 ([([97] : List UInt8)] : List (List UInt8)) ([([98] : List UInt8)] : List (List UInt8))).bind fun r20 =>
   (f_norm_Check n ([(⟨r20.1, r20.2.1, r20.2.2.1, r20.2.2.2⟩ : GPatch)] : List GPatch)).bind fun r23 =>
   if (r23 != 8) = true then
    some false
   else
    (rng (v11 + 1)).bind fun i27 =>
    (fun (a145 : Int) => f_sidinglaw17_NormNames_L10 n r4 m10 a145) i27
  else
   (f_sidinglaw17_repeated n 97 60).bind fun r31 =>
   f_sidinglaw17_NormNames_L37 n r31 n 0
def f_sidinglaw17_NormNames (n : Nat) : Option (Bool) :=
 (f_sidinglaw17_repeated n 97 61).bind fun r4 =>
 f_sidinglaw17_NormNames_L10 n r4 n 0
end Go.Zv.G
