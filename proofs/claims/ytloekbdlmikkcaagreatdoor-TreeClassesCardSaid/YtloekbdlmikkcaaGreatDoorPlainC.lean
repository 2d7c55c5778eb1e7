/- Plain functions, printed from the program's functions. No condition. -/
import Derived.Test.YtloekbdlmikkcaaGreatDoorZvC7
import Derived.Test.YtloekbdlmikkcaaGreatDoorZvCx
namespace Go.Zv.G
open Go Go.Zv
set_option maxRecDepth 100000
set_option linter.unusedVariables false
def letG (c : Nat) : Bool := !(Nat.ble 97 c && Nat.ble c 122 || Nat.ble 65 c && Nat.ble c 90 || Nat.ble 48 c && Nat.ble c 57 || Nat.beq c 45 || Nat.beq c 95 || Nat.beq c 46)
def joinI (l : List (List UInt8)) (sep : List UInt8) : Option (List UInt8) := if l.length ≤ lim ∧ (joinL l sep).length ≤ lim then some (joinL l sep) else none
structure GFile where
 path_ : List UInt8
 text_ : List UInt8
structure GHunk where
 at_ : Int
 old_ : List (List UInt8)
 new_ : List (List UInt8)
structure GPatch where
 path_ : List UInt8
 was_ : Bool
 stays_ : Bool
 hunks_ : List GHunk
structure GMatch where
 i_ : Int
 k_ : Int
def eGF (x : GFile) : List V := [.str x.path_, .sl 1 false (x.text_.map encB)]
def eGH (x : GHunk) : List V := [.int .i64 x.at_, .sl 1 false (x.old_.map encS), .sl 1 false (x.new_.map encS)]
def eGP (x : GPatch) : List V := [.str x.path_, .bool x.was_, .bool x.stays_, .sl 3 false (x.hunks_.map eGH)]
def encO_encI : Option (List Int) → List V
 | none => [.nilsl]
 | some l => [.own false 1 (l.map encI)]
theorem tail_encO_encI (x : Option (List Int)) : (encO_encI x).tail = [] := by cases x <;> rfl
def encOs_encI : Option (List Int) → List V
 | none => [.nilsl]
 | some l => [.sl 1 false (l.map encI)]
theorem froz_encO_encI (k : Nat) (l : List (Option (List Int))) : froz 3 (.own true k (l.map encO_encI)) = .sl k false (l.map encOs_encI) := by
 simp only [froz, cond_true, V.sl.injEq, true_and, List.map_map]
 refine List.map_congr_left fun x _ => ?_
 cases x <;> rfl
def encGMatch (x : GMatch) : List V := [.int .i64 x.i_, .int .i64 x.k_]
def insG (r : GPatch) : List GPatch → List GPatch
 | [] => [r]
 | x :: xs => if Op.bytesLess x.path_ r.path_ = true then x :: insG r xs else r :: x :: xs
def sortP : List GPatch → List GPatch
 | [] => []
 | r :: rs => insG r (sortP rs)
def nodupG : List (List UInt8) → Bool
 | [] => true
 | x :: xs => !xs.contains x && nodupG xs
def sortG (l : List GPatch) : Option (List GPatch) := if l.length ≤ lim ∧ nodupG (l.map GPatch.path_) = true then some (sortP l) else none
def f_sidingref21_Long_L5 (p1 : List GFile) : Nat → Int → Option (Bool)
 | 0, _ => none
 | m5 + 1, v6 =>
  if ((decide (v6 < (p1.length : Int))) && (decide (v6 ≤ 40))) = true then
   (ix p1 v6).bind fun x13 =>
   if ((decide ((x13.path_.length : Int) > 200)) || (decide ((x13.text_.length : Int) > 3000))) = true then
    some true
   else
    (rng (v6 + 1)).bind fun i16 =>
    (fun (a21 : Int) => f_sidingref21_Long_L5 p1 m5 a21) i16
  else
   some (decide ((p1.length : Int) > 40))
def f_sidingref21_Long (n : Nat) (p1 : List GFile) : Option (Bool) :=
 f_sidingref21_Long_L5 p1 n 0
def f_sidingref17_part_L8 (p1 : List UInt8) : Nat → Int → Option (Bool)
 | 0, _ => none
 | m8 + 1, v9 =>
  if (decide (v9 < (p1.length : Int))) = true then
   (ix p1 v9).bind fun x16 =>
   if ((((((!((decide ((x16.toNat : Int) ≥ 97)) && (decide ((x16.toNat : Int) ≤ 122)))) && (!((decide ((x16.toNat : Int) ≥ 65)) && (decide ((x16.toNat : Int) ≤ 90))))) && (!((decide ((x16.toNat : Int) ≥ 48)) && (decide ((x16.toNat : Int) ≤ 57))))) && ((x16.toNat : Int) != 45)) && ((x16.toNat : Int) != 95)) && ((x16.toNat : Int) != 46)) = true then
    some false
   else
    (rng (v9 + 1)).bind fun i20 =>
    (fun (a25 : Int) => f_sidingref17_part_L8 p1 m8 a25) i20
  else
   some true
def f_sidingref17_part (n : Nat) (p1 : List UInt8) : Option (Bool) :=
 if ((((p1.length : Int) == 0) || (p1 == ([46] : List UInt8))) || (p1 == ([46, 46] : List UInt8))) = true then
  some false
 else
  f_sidingref17_part_L8 p1 n 0
def f_sidingref17_Path_L9 (n : Nat) (p1 : List UInt8) : Nat → Int → Int → Option (Bool)
 | 0, _, _ => none
 | m9 + 1, v10, v11 =>
  if (decide (v11 < (p1.length : Int))) = true then
   (ix p1 v11).bind fun x19 =>
   if ((x19.toNat : Int) == 47) = true then
    (cutI p1 v10 v11).bind fun l23 =>
    (f_sidingref17_part n l23).bind fun r25 =>
    if (!r25) = true then
     some false
    else
     (rng (v11 + 1)).bind fun i29 =>
     (rng (v11 + 1)).bind fun i31 =>
     (fun (a44 : Int) (a45 : Int) => f_sidingref17_Path_L9 n p1 m9 a44 a45) i29 i31
   else
    (rng (v11 + 1)).bind fun i34 =>
    (fun (a44 : Int) (a45 : Int) => f_sidingref17_Path_L9 n p1 m9 a44 a45) v10 i34
  else
   (cutI p1 v10 (p1.length : Int)).bind fun l38 =>
   (f_sidingref17_part n l38).bind fun r40 =>
   some r40
def f_sidingref17_Path (n : Nat) (p1 : List UInt8) : Option (Bool) :=
 if (decide ((p1.length : Int) > 60)) = true then
  some false
 else
  f_sidingref17_Path_L9 n p1 n 0 0
def f_sidingref13_Parts_L7 (p1 : List UInt8) : Nat → (List (List UInt8)) → Int → Int → Option ((List (List UInt8)))
 | 0, _, _, _ => none
 | m7 + 1, v8, v9, v10 =>
  if (decide (v10 < (p1.length : Int))) = true then
   (ix p1 v10).bind fun x19 =>
   if ((x19.toNat : Int) == 10) = true then
    (rng ((v8.length : Int) - 1)).bind fun i22 =>
    (cutI p1 v9 v10).bind fun l24 =>
    (ix v8 i22).bind fun x26 =>
    (need (v8.length + 1 ≤ lim)).bind fun _ =>
    (rng (v10 + 1)).bind fun i30 =>
    (rng (v10 + 1)).bind fun i32 =>
    (fun (a46 : List (List UInt8)) (a47 : Int) (a48 : Int) => f_sidingref13_Parts_L7 p1 m7 a46 a47 a48) ((v8.set i22.toNat l24) ++ ([([] : List UInt8)] : List (List UInt8))) i30 i32
   else
    (rng (v10 + 1)).bind fun i34 =>
    (fun (a46 : List (List UInt8)) (a47 : Int) (a48 : Int) => f_sidingref13_Parts_L7 p1 m7 a46 a47 a48) v8 v9 i34
  else
   (rng ((v8.length : Int) - 1)).bind fun i38 =>
   (cutI p1 v9 (p1.length : Int)).bind fun l40 =>
   (ix v8 i38).bind fun x42 =>
   some (v8.set i38.toNat l40)
def f_sidingref13_Parts (n : Nat) (p1 : List UInt8) : Option ((List (List UInt8))) :=
 f_sidingref13_Parts_L7 p1 n ([([] : List UInt8)] : List (List UInt8)) 0 0
def f_sidingref13_Check (n : Nat) (p1 : List UInt8) : Option (Int) :=
 if (decide ((p1.length : Int) > 2000)) = true then
  some 4
 else
  (f_sidingref13_Parts n p1).bind fun r6 =>
  if (decide ((r6.length : Int) > 60)) = true then
   some 4
  else
   some 0
def f_sidingref21_Check_L39 (n : Nat) (p1 : List GFile) : Nat → Int → Option (Int)
 | 0, _ => none
 | m39 + 1, v40 =>
  if (decide (v40 < (p1.length : Int))) = true then
   (ix p1 v40).bind fun x47 =>
   (f_sidingref13_Check n x47.text_).bind fun r49 =>
   if (r49 != 0) = true then
    (f_sidingref13_Check n x47.text_).bind fun r53 =>
    some r53
   else
    (rng (v40 + 1)).bind fun i56 =>
    (fun (a61 : Int) => f_sidingref21_Check_L39 n p1 m39 a61) i56
  else
   some 0
def f_sidingref21_Check_L8 (n : Nat) (p1 : List GFile) : Nat → Int → Option (Int)
 | 0, _ => none
 | m8 + 1, v9 =>
  if (decide (v9 < (p1.length : Int))) = true then
   (ix p1 v9).bind fun x17 =>
   (f_sidingref17_Path n x17.path_).bind fun r19 =>
   if (!r19) = true then
    some 8
   else
    if (decide (v9 > 0)) = true then
     (rng (v9 - 1)).bind fun i25 =>
     (ix p1 i25).bind fun x27 =>
     if (!(Op.bytesLess x27.path_ x17.path_)) = true then
      some 8
     else
      (rng (v9 + 1)).bind fun i30 =>
      (fun (a63 : Int) => f_sidingref21_Check_L8 n p1 m8 a63) i30
    else
     (rng (v9 + 1)).bind fun i33 =>
     (fun (a63 : Int) => f_sidingref21_Check_L8 n p1 m8 a63) i33
  else
   f_sidingref21_Check_L39 n p1 n 0
def f_sidingref21_Check (n : Nat) (p1 : List GFile) : Option (Int) :=
 if (decide ((p1.length : Int) > 12)) = true then
  some 4
 else
  f_sidingref21_Check_L8 n p1 n 0
def f_sidinglaw21_fit (n : Nat) (p1 : List GFile) (p2 : List GFile) : Option (Bool) :=
 (f_sidingref21_Long n p1).bind fun r3 =>
 if (!r3) = true then
  (f_sidingref21_Long n p2).bind fun r7 =>
  if (!r7) = true then
   (f_sidingref21_Check n p1).bind fun r11 =>
   if (r11 == 0) = true then
    (f_sidingref21_Check n p2).bind fun r15 =>
    some (r15 == 0)
   else
    some false
  else
   some false
 else
  some false
def f_norm_Check_1 (n : Nat) (p1 : List UInt8) (p2 : Bool) (p3 : Bool) (p4 : List GHunk) (p5 : List UInt8) (p6 : Bool) (p7 : Bool) (p8 : List GHunk) : Option (Bool) :=
 some (p1 == p5)
def f_slices_IndexFunc_Patch_by_norm_Check_1_L5 (n : Nat) (p1 : List GPatch) (p2 : List UInt8) (p3 : Bool) (p4 : Bool) (p5 : List GHunk) : Nat → Int → Option (Int)
 | 0, _ => none
 | m5 + 1, v6 =>
  if (decide (v6 < (p1.length : Int))) = true then
   (ix p1 v6).bind fun x14 =>
   (f_norm_Check_1 n x14.path_ x14.was_ x14.stays_ x14.hunks_ p2 p3 p4 p5).bind fun r16 =>
   if r16 = true then
    some v6
   else
    (rng (v6 + 1)).bind fun i20 =>
    (fun (a25 : Int) => f_slices_IndexFunc_Patch_by_norm_Check_1_L5 n p1 p2 p3 p4 p5 m5 a25) i20
  else
   some (-1)
def f_slices_IndexFunc_Patch_by_norm_Check_1 (n : Nat) (p1 : List GPatch) (p2 : List UInt8) (p3 : Bool) (p4 : Bool) (p5 : List GHunk) : Option (Int) :=
 f_slices_IndexFunc_Patch_by_norm_Check_1_L5 n p1 p2 p3 p4 p5 n 0
def f_slices_ContainsFunc_Patch_by_norm_Check_1 (n : Nat) (p1 : List GPatch) (p2 : List UInt8) (p3 : Bool) (p4 : Bool) (p5 : List GHunk) : Option (Bool) :=
 (f_slices_IndexFunc_Patch_by_norm_Check_1 n p1 p2 p3 p4 p5).bind fun r3 =>
 some (decide (r3 ≥ 0))
def f_stringslite_IndexByte (n : Nat) (p1 : List UInt8) (p2 : Int) : Option (Int) :=
 some (idx8 p2.toNat.toUInt8 p1 0)
def f_stringslite_Index (n : Nat) (p1 : List UInt8) (p2 : List UInt8) : Option (Int) :=
 if (((p2.length : Int) == 0) || (p2 == p1)) = true then
  some 0
 else
  if ((p2.length : Int) == 1) = true then
   (ix p2 0).bind fun x9 =>
   (f_stringslite_IndexByte n p1 (x9.toNat : Int)).bind fun r11 =>
   some r11
  else
   if (decide ((p2.length : Int) ≥ (p1.length : Int))) = true then
    some (-1)
   else
    none
def f_strings_Index (n : Nat) (p1 : List UInt8) (p2 : List UInt8) : Option (Int) :=
 (f_stringslite_Index n p1 p2).bind fun r3 =>
 some r3
def f_strings_Count_L15 (n : Nat) (p2 : List UInt8) : Nat → (List UInt8) → Int → Option (Int)
 | 0, _, _ => none
 | m15 + 1, v16, v17 =>
  (f_strings_Index n v16 p2).bind fun r22 =>
  if (r22 == (-1)) = true then
   some v17
  else
   (rng (v17 + 1)).bind fun i29 =>
   (rng (r22 + (p2.length : Int))).bind fun i31 =>
   (cutI v16 i31 (v16.length : Int)).bind fun l33 =>
   (fun (a36 : List UInt8) (a37 : Int) => f_strings_Count_L15 n p2 m15 a36 a37) l33 i29
def f_strings_Count (n : Nat) (p1 : List UInt8) (p2 : List UInt8) : Option (Int) :=
 if ((p2.length : Int) == 0) = true then
  none
 else
  if ((p2.length : Int) == 1) = true then
   (ix p2 0).bind fun x8 =>
   some (cnt8 (x8.toNat : Int).toNat.toUInt8 p1 : Nat)
  else
   f_strings_Count_L15 n p2 n p1 0
def f_strings_genSplit_J19 (v20 : List UInt8) (v21 : List (List UInt8)) (v22 : Int) : Option ((List (List UInt8))) :=
 (ix v21 v22).bind fun x24 =>
 (rng (v22 + 1)).bind fun i27 =>
 (cutI (v21.set v22.toNat v20) 0 i27).bind fun l29 =>
 some l29
def f_strings_genSplit_L32 (n : Nat) (p2 : List UInt8) (p3 : Int) (i16 : Int) : Nat → (List UInt8) → (List (List UInt8)) → Int → Option ((List (List UInt8)))
 | 0, _, _, _ => none
 | m32 + 1, v33, v34, v35 =>
  if (decide (v35 < i16)) = true then
   (f_strings_Index n v33 p2).bind fun r43 =>
   if (decide (r43 < 0)) = true then
    f_strings_genSplit_J19 v33 v34 v35
   else
    (rng (r43 + p3)).bind fun i49 =>
    (cutI v33 0 i49).bind fun l51 =>
    (ix v34 v35).bind fun x53 =>
    (rng (r43 + (p2.length : Int))).bind fun i56 =>
    (cutI v33 i56 (v33.length : Int)).bind fun l58 =>
    (rng (v35 + 1)).bind fun i60 =>
    (fun (a64 : List UInt8) (a65 : List (List UInt8)) (a66 : Int) => f_strings_genSplit_L32 n p2 p3 i16 m32 a64 a65 a66) l58 (v34.set v35.toNat l51) i60
  else
   f_strings_genSplit_J19 v33 v34 v35
def f_strings_genSplit_J8 (n : Nat) (p1 : List UInt8) (p2 : List UInt8) (p3 : Int) (v9 : Int) : Option ((List (List UInt8))) :=
 (rng ((p1.length : Int) + 1)).bind fun i11 =>
 (need (0 ≤ (if i11 < v9 then i11 else v9) ∧ (if i11 < v9 then i11 else v9) ≤ (if i11 < v9 then i11 else v9) ∧ (if i11 < v9 then i11 else v9) ≤ (lim : Int))).bind fun _ =>
 (rng ((if i11 < v9 then i11 else v9) - 1)).bind fun i16 =>
 f_strings_genSplit_L32 n p2 p3 i16 n p1 (List.replicate (if i11 < v9 then i11 else v9).toNat ([] : List UInt8)) 0
def f_strings_genSplit (n : Nat) (p1 : List UInt8) (p2 : List UInt8) (p3 : Int) (p4 : Int) : Option ((List (List UInt8))) :=
 if (p4 == 0) = true then
  some ([] : List (List UInt8))
 else
  if (p2 == ([] : List UInt8)) = true then
   none
  else
   if (decide (p4 < 0)) = true then
    (f_strings_Count n p1 p2).bind fun r68 =>
    (rng (r68 + 1)).bind fun i71 =>
    f_strings_genSplit_J8 n p1 p2 p3 i71
   else
    f_strings_genSplit_J8 n p1 p2 p3 p4
def f_strings_Split (n : Nat) (p1 : List UInt8) (p2 : List UInt8) : Option ((List (List UInt8))) :=
 (f_strings_genSplit n p1 p2 0 (-1)).bind fun r3 =>
 some r3
def f_norm_path_1 (n : Nat) (p1 : List UInt8) : Option (Bool) :=
 if (((p1 == ([] : List UInt8)) || (p1 == ([46] : List UInt8))) || (p1 == ([46, 46] : List UInt8))) = true then
  some true
 else
  some (p1.any fun b => letG b.toNat)
def f_slices_IndexFunc_string_by_norm_path_1_L5 (n : Nat) (p1 : List (List UInt8)) : Nat → Int → Option (Int)
 | 0, _ => none
 | m5 + 1, v6 =>
  if (decide (v6 < (p1.length : Int))) = true then
   (ix p1 v6).bind fun x14 =>
   (f_norm_path_1 n x14).bind fun r16 =>
   if r16 = true then
    some v6
   else
    (rng (v6 + 1)).bind fun i20 =>
    (fun (a25 : Int) => f_slices_IndexFunc_string_by_norm_path_1_L5 n p1 m5 a25) i20
  else
   some (-1)
def f_slices_IndexFunc_string_by_norm_path_1 (n : Nat) (p1 : List (List UInt8)) : Option (Int) :=
 f_slices_IndexFunc_string_by_norm_path_1_L5 n p1 n 0
def f_slices_ContainsFunc_string_by_norm_path_1 (n : Nat) (p1 : List (List UInt8)) : Option (Bool) :=
 (f_slices_IndexFunc_string_by_norm_path_1 n p1).bind fun r3 =>
 some (decide (r3 ≥ 0))
def f_norm_path (n : Nat) (p1 : List UInt8) : Option (Bool) :=
 if (((p1.length : Int) == 0) || (decide ((p1.length : Int) > 60))) = true then
  some false
 else
  (f_strings_Split n p1 ([47] : List UInt8)).bind fun r6 =>
  (f_slices_ContainsFunc_string_by_norm_path_1 n r6).bind fun r9 =>
  some (!r9)
def f_strings_IndexByte (n : Nat) (p1 : List UInt8) (p2 : Int) : Option (Int) :=
 (f_stringslite_IndexByte n p1 p2).bind fun r3 =>
 some r3
def f_hunk_plain_1 (n : Nat) (p1 : List UInt8) : Option (Bool) :=
 if (decide ((p1.length : Int) > 2000)) = true then
  some true
 else
  (f_strings_IndexByte n p1 10).bind fun r4 =>
  some (decide (r4 ≥ 0))
def f_slices_IndexFunc_string_by_hunk_plain_1_L5 (n : Nat) (p1 : List (List UInt8)) : Nat → Int → Option (Int)
 | 0, _ => none
 | m5 + 1, v6 =>
  if (decide (v6 < (p1.length : Int))) = true then
   (ix p1 v6).bind fun x14 =>
   (f_hunk_plain_1 n x14).bind fun r16 =>
   if r16 = true then
    some v6
   else
    (rng (v6 + 1)).bind fun i20 =>
    (fun (a25 : Int) => f_slices_IndexFunc_string_by_hunk_plain_1_L5 n p1 m5 a25) i20
  else
   some (-1)
def f_slices_IndexFunc_string_by_hunk_plain_1 (n : Nat) (p1 : List (List UInt8)) : Option (Int) :=
 f_slices_IndexFunc_string_by_hunk_plain_1_L5 n p1 n 0
def f_slices_ContainsFunc_string_by_hunk_plain_1 (n : Nat) (p1 : List (List UInt8)) : Option (Bool) :=
 (f_slices_IndexFunc_string_by_hunk_plain_1 n p1).bind fun r3 =>
 some (decide (r3 ≥ 0))
def f_hunk_plain (n : Nat) (p1 : List (List UInt8)) : Option (Bool) :=
 if (decide ((p1.length : Int) ≤ 60)) = true then
  (f_slices_ContainsFunc_string_by_hunk_plain_1 n p1).bind fun r4 =>
  some (!r4)
 else
  some false
def f_hunk_valid (n : Nat) (p1 : Int) (p2 : List (List UInt8)) (p3 : List (List UInt8)) : Option (Bool) :=
 if (decide (p1 ≥ 0)) = true then
  if (decide (p1 ≤ 60)) = true then
   (f_hunk_plain n p2).bind fun r5 =>
   if r5 = true then
    (f_hunk_plain n p3).bind fun r9 =>
    if r9 = true then
     (rng ((p2.length : Int) + (p3.length : Int))).bind fun i13 =>
     some (decide (i13 > 0))
    else
     some false
   else
    some false
  else
   some false
 else
  some false
def f_hunk_Check_L9 (n : Nat) (p1 : List GHunk) : Nat → Int → Int → Option (Int)
 | 0, _, _ => none
 | m9 + 1, v10, v11 =>
  if (decide (v11 < (p1.length : Int))) = true then
   (ix p1 v11).bind fun x19 =>
   (f_hunk_valid n x19.at_ x19.old_ x19.new_).bind fun r23 =>
   if (!r23) = true then
    some 8
   else
    if (decide (x19.at_ < v10)) = true then
     some 8
    else
     (rng (x19.at_ + (x19.old_.length : Int))).bind fun i29 =>
     (rng (i29 + 1)).bind fun i31 =>
     (rng (v11 + 1)).bind fun i33 =>
     (fun (a38 : Int) (a39 : Int) => f_hunk_Check_L9 n p1 m9 a38 a39) i31 i33
  else
   some 0
def f_hunk_Check (n : Nat) (p1 : List GHunk) : Option (Int) :=
 if (decide ((p1.length : Int) > 40)) = true then
  some 4
 else
  f_hunk_Check_L9 n p1 n 0 0
def f_norm_valid_J3 (p2 : Bool) (p3 : Bool) (p4 : List GHunk) : Option (Bool) :=
 if ((p4.length : Int) != 1) = true then
  some false
 else
  (ix p4 0).bind fun x8 =>
  if (x8.at_ != 0) = true then
   some false
  else
   if p2 = true then
    if p3 = true then
     some true
    else
     some ((x8.new_.length : Int) == 0)
   else
    if ((x8.old_.length : Int) == 0) = true then
     if p3 = true then
      some true
     else
      some ((x8.new_.length : Int) == 0)
    else
     some false
def f_norm_valid_J2 (p2 : Bool) (p3 : Bool) (p4 : List GHunk) : Option (Bool) :=
 if p2 = true then
  if p3 = true then
   some true
  else
   f_norm_valid_J3 p2 p3 p4
 else
  f_norm_valid_J3 p2 p3 p4
def f_norm_valid (n : Nat) (p1 : List UInt8) (p2 : Bool) (p3 : Bool) (p4 : List GHunk) : Option (Bool) :=
 (f_norm_path n p1).bind fun r23 =>
 if (!r23) = true then
  some false
 else
  if (!p2) = true then
   if (!p3) = true then
    some false
   else
    (f_hunk_Check n p4).bind fun r31 =>
    if (r31 != 0) = true then
     some false
    else
     f_norm_valid_J2 p2 p3 p4
  else
   (f_hunk_Check n p4).bind fun r36 =>
   if (r36 != 0) = true then
    some false
   else
    f_norm_valid_J2 p2 p3 p4
def f_norm_Check_2 (n : Nat) (p1 : List UInt8) (p2 : Bool) (p3 : Bool) (p4 : List GHunk) : Option (Bool) :=
 (f_norm_valid n p1 p2 p3 p4).bind fun r3 =>
 some (!r3)
def f_slices_IndexFunc_Patch_by_norm_Check_2_L5 (n : Nat) (p1 : List GPatch) : Nat → Int → Option (Int)
 | 0, _ => none
 | m5 + 1, v6 =>
  if (decide (v6 < (p1.length : Int))) = true then
   (ix p1 v6).bind fun x14 =>
   (f_norm_Check_2 n x14.path_ x14.was_ x14.stays_ x14.hunks_).bind fun r16 =>
   if r16 = true then
    some v6
   else
    (rng (v6 + 1)).bind fun i20 =>
    (fun (a25 : Int) => f_slices_IndexFunc_Patch_by_norm_Check_2_L5 n p1 m5 a25) i20
  else
   some (-1)
def f_slices_IndexFunc_Patch_by_norm_Check_2 (n : Nat) (p1 : List GPatch) : Option (Int) :=
 f_slices_IndexFunc_Patch_by_norm_Check_2_L5 n p1 n 0
def f_slices_ContainsFunc_Patch_by_norm_Check_2 (n : Nat) (p1 : List GPatch) : Option (Bool) :=
 (f_slices_IndexFunc_Patch_by_norm_Check_2 n p1).bind fun r3 =>
 some (decide (r3 ≥ 0))
def f_norm_Check_L8 (n : Nat) (p1 : List GPatch) : Nat → Int → Option (Int)
 | 0, _ => none
 | m8 + 1, v9 =>
  if (decide (v9 < (p1.length : Int))) = true then
   (ix p1 v9).bind fun x16 =>
   (cutI p1 0 v9).bind fun l19 =>
   (f_slices_ContainsFunc_Patch_by_norm_Check_1 n l19 x16.path_ x16.was_ x16.stays_ x16.hunks_).bind fun r21 =>
   if r21 = true then
    some 14
   else
    (rng (v9 + 1)).bind fun i25 =>
    (fun (a37 : Int) => f_norm_Check_L8 n p1 m8 a37) i25
  else
   (f_slices_ContainsFunc_Patch_by_norm_Check_2 n p1).bind fun r30 =>
   if r30 = true then
    some 8
   else
    some 0
def f_norm_Check (n : Nat) (p1 : List GPatch) : Option (Int) :=
 if (decide ((p1.length : Int) > 24)) = true then
  some 4
 else
  f_norm_Check_L8 n p1 n 0
def f_tree_path (n : Nat) (p1 : List UInt8) : Option (Bool) :=
 (f_norm_Check n ([(⟨p1, true, true, ([] : List GHunk)⟩ : GPatch)] : List GPatch)).bind fun r3 =>
 some (r3 == 0)
def f_utf8_RuneCount_L6 (p1 : List UInt8) : Nat → Int → Option (Int)
 | 0, _ => none
 | m6 + 1, v7 =>
  if (decide (v7 < (p1.length : Int))) = true then
   (ix p1 v7).bind fun x14 =>
   if (decide ((x14.toNat : Int) ≥ 128)) = true then
    (cutI p1 v7 (p1.length : Int)).bind fun l18 =>
    none
   else
    (rng (v7 + 1)).bind fun i20 =>
    (fun (a25 : Int) => f_utf8_RuneCount_L6 p1 m6 a25) i20
  else
   some v7
def f_utf8_RuneCount (n : Nat) (p1 : List UInt8) : Option (Int) :=
 f_utf8_RuneCount_L6 p1 n 0
def f_bytes_Equal (n : Nat) (p1 : List UInt8) (p2 : List UInt8) : Option (Bool) :=
 some (p1 == p2)
def f_bytes_Index (n : Nat) (p1 : List UInt8) (p2 : List UInt8) : Option (Int) :=
 if ((p2.length : Int) == 0) = true then
  some 0
 else
  if ((p2.length : Int) == 1) = true then
   (ix p2 0).bind fun x9 =>
   none
  else
   if ((p2.length : Int) == (p1.length : Int)) = true then
    (f_bytes_Equal n p2 p1).bind fun r14 =>
    if r14 = true then
     some 0
    else
     some (-1)
   else
    if (decide ((p2.length : Int) > (p1.length : Int))) = true then
     some (-1)
    else
     none
def f_bytes_Count_L20 (n : Nat) (p2 : List UInt8) : Nat → (List UInt8) → Int → Option (Int)
 | 0, _, _ => none
 | m20 + 1, v21, v23 =>
  (f_bytes_Index n v21 p2).bind fun r29 =>
  if (r29 == (-1)) = true then
   some v23
  else
   (rng (v23 + 1)).bind fun i36 =>
   (rng (r29 + (p2.length : Int))).bind fun i38 =>
   (cutI v21 i38 (v21.length : Int)).bind fun l40 =>
   (fun (a43 : List UInt8) (a44 : Int) => f_bytes_Count_L20 n p2 m20 a43 a44) l40 i36
def f_bytes_Count (n : Nat) (p1 : List UInt8) (p2 : List UInt8) : Option (Int) :=
 if ((p2.length : Int) == 0) = true then
  (f_utf8_RuneCount n p1).bind fun r5 =>
  (rng (r5 + 1)).bind fun i8 =>
  some i8
 else
  if ((p2.length : Int) == 1) = true then
   (ix p2 0).bind fun x13 =>
   some (cnt8 (x13.toNat : Int).toNat.toUInt8 p1 : Nat)
  else
   f_bytes_Count_L20 n p2 n p1 0
def f_lines_Check (n : Nat) (p1 : List UInt8) : Option (Int) :=
 if (decide ((p1.length : Int) > 2000)) = true then
  some 4
 else
  (f_bytes_Count n p1 ([(10 : UInt8)] : List UInt8)).bind fun r6 =>
  if (decide (r6 ≥ 60)) = true then
   some 4
  else
   some 0
def f_tree_Check_L39 (n : Nat) (p1 : List GFile) : Nat → Int → Option (Int)
 | 0, _ => none
 | m39 + 1, v40 =>
  if (decide (v40 < (p1.length : Int))) = true then
   (ix p1 v40).bind fun x47 =>
   (f_lines_Check n x47.text_).bind fun r50 =>
   if (r50 != 0) = true then
    some r50
   else
    (rng (v40 + 1)).bind fun i55 =>
    (fun (a60 : Int) => f_tree_Check_L39 n p1 m39 a60) i55
  else
   some 0
def f_tree_Check_L8 (n : Nat) (p1 : List GFile) : Nat → Int → Option (Int)
 | 0, _ => none
 | m8 + 1, v9 =>
  if (decide (v9 < (p1.length : Int))) = true then
   (ix p1 v9).bind fun x16 =>
   (f_tree_path n x16.path_).bind fun r19 =>
   if r19 = true then
    if (decide (v9 > 0)) = true then
     (rng (v9 - 1)).bind fun i25 =>
     (ix p1 i25).bind fun x27 =>
     if (!Op.bytesLess x27.path_ x16.path_) = true then
      some 8
     else
      (rng (v9 + 1)).bind fun i30 =>
      (fun (a62 : Int) => f_tree_Check_L8 n p1 m8 a62) i30
    else
     (rng (v9 + 1)).bind fun i33 =>
     (fun (a62 : Int) => f_tree_Check_L8 n p1 m8 a62) i33
   else
    some 8
  else
   f_tree_Check_L39 n p1 n 0
def f_tree_Check (n : Nat) (p1 : List GFile) : Option (Int) :=
 if (decide ((p1.length : Int) > 12)) = true then
  some 4
 else
  f_tree_Check_L8 n p1 n 0
def f_lines_Split (n : Nat) (p1 : List UInt8) : Option ((List (List UInt8)) × Int) :=
 (f_lines_Check n p1).bind fun r4 =>
 if (r4 != 0) = true then
  some (([] : List (List UInt8)), r4)
 else
  (f_strings_Split n p1 ([10] : List UInt8)).bind fun r10 =>
  some (r10, 0)
def f_lines_odd_1 (n : Nat) (p1 : List UInt8) : Option (Bool) :=
 (f_strings_IndexByte n p1 10).bind fun r3 =>
 some (decide (r3 ≥ 0))
def f_slices_IndexFunc_string_by_lines_odd_1_L5 (n : Nat) (p1 : List (List UInt8)) : Nat → Int → Option (Int)
 | 0, _ => none
 | m5 + 1, v6 =>
  if (decide (v6 < (p1.length : Int))) = true then
   (ix p1 v6).bind fun x14 =>
   (f_lines_odd_1 n x14).bind fun r16 =>
   if r16 = true then
    some v6
   else
    (rng (v6 + 1)).bind fun i20 =>
    (fun (a25 : Int) => f_slices_IndexFunc_string_by_lines_odd_1_L5 n p1 m5 a25) i20
  else
   some (-1)
def f_slices_IndexFunc_string_by_lines_odd_1 (n : Nat) (p1 : List (List UInt8)) : Option (Int) :=
 f_slices_IndexFunc_string_by_lines_odd_1_L5 n p1 n 0
def f_slices_ContainsFunc_string_by_lines_odd_1 (n : Nat) (p1 : List (List UInt8)) : Option (Bool) :=
 (f_slices_IndexFunc_string_by_lines_odd_1 n p1).bind fun r3 =>
 some (decide (r3 ≥ 0))
def f_lines_odd (n : Nat) (p1 : List (List UInt8)) : Option (Bool) :=
 (f_slices_ContainsFunc_string_by_lines_odd_1 n p1).bind fun r3 =>
 some r3
def f_lines_check_L11 (n : Nat) (p1 : List (List UInt8)) : Nat → Int → Int → Option (Int)
 | 0, _, _ => none
 | m11 + 1, v12, v13 =>
  if (decide (v13 < (p1.length : Int))) = true then
   (ix p1 v13).bind fun x21 =>
   (rng (v12 + (x21.length : Int))).bind fun i23 =>
   (rng (v13 + 1)).bind fun i25 =>
   (fun (a42 : Int) (a43 : Int) => f_lines_check_L11 n p1 m11 a42 a43) i23 i25
  else
   if (decide (v12 > 2000)) = true then
    some 4
   else
    if ((p1.length : Int) == 0) = true then
     some 8
    else
     (f_lines_odd n p1).bind fun r34 =>
     if r34 = true then
      some 8
     else
      some 0
def f_lines_check (n : Nat) (p1 : List (List UInt8)) : Option (Int) :=
 if (decide ((p1.length : Int) > 60)) = true then
  some 4
 else
  (rng ((p1.length : Int) - 1)).bind fun i6 =>
  f_lines_check_L11 n p1 n i6 0
def f_lines_Join (n : Nat) (p1 : List (List UInt8)) : Option ((List UInt8) × Int) :=
 (f_lines_check n p1).bind fun r4 =>
 if (r4 != 0) = true then
  some (([] : List UInt8), r4)
 else
  (joinI p1 ([10] : List UInt8)).bind fun r10 =>
  some (r10, 0)
def f_lcs_check (n : Nat) (p1 : List (List UInt8)) (p2 : List (List UInt8)) : Option (Int) :=
 (f_lines_Join n p1).bind fun r4 =>
 if (r4.2 != 0) = true then
  some r4.2
 else
  (f_lines_Join n p2).bind fun r10 =>
  some r10.2
def f_lcs_table_L45 (p1 : List (List UInt8)) (p2 : List (List UInt8)) (v34 : Int) (rec32 : (List (Option (List Int))) → Int → Option ((List (Option (List Int))))) : Nat → (List (Option (List Int))) → Int → Option ((List (Option (List Int))))
 | 0, _, _ => none
 | m45 + 1, v46, v47 =>
  if (decide (v47 ≥ 0)) = true then
   (ix p1 v34).bind fun x55 =>
   (ix p2 v47).bind fun x57 =>
   if (x55 == x57) = true then
    (need (0 ≤ v34 ∧ v34 < (v46.length : Int))).bind fun _ =>
    (ixO v46 v34).bind fun x60 =>
    (rng (v34 + 1)).bind fun i62 =>
    (need (0 ≤ i62 ∧ i62 < (v46.length : Int))).bind fun _ =>
    (ixO v46 i62).bind fun x65 =>
    (rng (v47 + 1)).bind fun i67 =>
    (ix x65 i67).bind fun x69 =>
    (rng (1 + x69)).bind fun i71 =>
    (ix x60 v47).bind fun x73 =>
    (rng (v47 - 1)).bind fun i75 =>
    (fun (a99 : List (Option (List Int))) (a100 : Int) => f_lcs_table_L45 p1 p2 v34 rec32 m45 a99 a100) (v46.set v34.toNat (some (x60.set v47.toNat i71))) i75
   else
    (need (0 ≤ v34 ∧ v34 < (v46.length : Int))).bind fun _ =>
    (ixO v46 v34).bind fun x78 =>
    (rng (v34 + 1)).bind fun i80 =>
    (need (0 ≤ i80 ∧ i80 < (v46.length : Int))).bind fun _ =>
    (ixO v46 i80).bind fun x83 =>
    (ix x83 v47).bind fun x85 =>
    (rng (v47 + 1)).bind fun i87 =>
    (ix x78 i87).bind fun x89 =>
    (ix x78 v47).bind fun x91 =>
    (rng (v47 - 1)).bind fun i93 =>
    (fun (a99 : List (Option (List Int))) (a100 : Int) => f_lcs_table_L45 p1 p2 v34 rec32 m45 a99 a100) (v46.set v34.toNat (some (x78.set v47.toNat (if x89 > x85 then x89 else x85)))) i93
  else
   (rng (v34 - 1)).bind fun i96 =>
   rec32 v46 i96
def f_lcs_table_L32 (p1 : List (List UInt8)) (p2 : List (List UInt8)) : Nat → (List (Option (List Int))) → Int → Option ((List (Option (List Int))))
 | 0, _, _ => none
 | m32 + 1, v33, v34 =>
  if (decide (v34 ≥ 0)) = true then
   (rng ((p2.length : Int) - 1)).bind fun i42 =>
   f_lcs_table_L45 p1 p2 v34 (fun (a103 : List (Option (List Int))) (a104 : Int) => f_lcs_table_L32 p1 p2 m32 a103 a104) m32 v33 i42
  else
   some v33
def f_lcs_table_L9 (n : Nat) (p1 : List (List UInt8)) (p2 : List (List UInt8)) (i3 : Int) : Nat → (List (Option (List Int))) → Int → Option ((List (Option (List Int))))
 | 0, _, _ => none
 | m9 + 1, v10, v11 =>
  if (decide (v11 < ((List.replicate i3.toNat (none : Option (List Int))).length : Int))) = true then
   (rng ((p2.length : Int) + 1)).bind fun i19 =>
   (need (0 ≤ i19 ∧ i19 ≤ i19 ∧ i19 ≤ (lim : Int))).bind fun _ =>
   (need (0 ≤ v11 ∧ v11 < (v10.length : Int))).bind fun _ =>
   (ix v10 v11).bind fun o23 =>
   (rng (v11 + 1)).bind fun i25 =>
   (fun (a106 : List (Option (List Int))) (a107 : Int) => f_lcs_table_L9 n p1 p2 i3 m9 a106 a107) (v10.set v11.toNat (some (List.replicate i19.toNat 0))) i25
  else
   (rng ((p1.length : Int) - 1)).bind fun i29 =>
   f_lcs_table_L32 p1 p2 n v10 i29
def f_lcs_table (n : Nat) (p1 : List (List UInt8)) (p2 : List (List UInt8)) : Option ((List (Option (List Int)))) :=
 (rng ((p1.length : Int) + 1)).bind fun i3 =>
 (need (0 ≤ i3 ∧ i3 ≤ i3 ∧ i3 ≤ (lim : Int))).bind fun _ =>
 f_lcs_table_L9 n p1 p2 i3 n (List.replicate i3.toNat (none : Option (List Int))) 0
def f_lcs_next_L15 (p1 : List (List UInt8)) (p2 : List (List UInt8)) (p3 : List (Option (List Int))) (x5 : Int) (v9 : Int) (rec8 : Int → Option (Int × Int)) : Nat → Int → Option (Int × Int)
 | 0, _ => none
 | m15 + 1, v16 =>
  if (decide (v16 < (p2.length : Int))) = true then
   (ix p1 v9).bind fun x23 =>
   (ix p2 v16).bind fun x25 =>
   if (x23 == x25) = true then
    (rng (v9 + 1)).bind fun i28 =>
    (ixO p3 i28).bind fun x30 =>
    (rng (v16 + 1)).bind fun i32 =>
    (ix x30 i32).bind fun x34 =>
    (rng (x5 - 1)).bind fun i36 =>
    if (x34 == i36) = true then
     some (v9, v16)
    else
     (rng (v16 + 1)).bind fun i39 =>
     (fun (a47 : Int) => f_lcs_next_L15 p1 p2 p3 x5 v9 rec8 m15 a47) i39
   else
    (rng (v16 + 1)).bind fun i42 =>
    (fun (a47 : Int) => f_lcs_next_L15 p1 p2 p3 x5 v9 rec8 m15 a47) i42
  else
   (rng (v9 + 1)).bind fun i44 =>
   rec8 i44
def f_lcs_next_L8 (p1 : List (List UInt8)) (p2 : List (List UInt8)) (p3 : List (Option (List Int))) (p5 : Int) (x5 : Int) : Nat → Int → Option (Int × Int)
 | 0, _ => none
 | m8 + 1, v9 =>
  f_lcs_next_L15 p1 p2 p3 x5 v9 (fun (a48 : Int) => f_lcs_next_L8 p1 p2 p3 p5 x5 m8 a48) m8 p5
def f_lcs_next (n : Nat) (p1 : List (List UInt8)) (p2 : List (List UInt8)) (p3 : List (Option (List Int))) (p4 : Int) (p5 : Int) : Option (Int × Int) :=
 (ixO p3 p4).bind fun x3 =>
 (ix x3 p5).bind fun x5 =>
 f_lcs_next_L8 p1 p2 p3 p5 x5 n p4
def f_lcs_Best_L17 (n : Nat) (p1 : List (List UInt8)) (p2 : List (List UInt8)) (r10 : (List (Option (List Int)))) : Nat → (List GMatch) → Int → Int → Option ((List GMatch) × Int)
 | 0, _, _, _ => none
 | m17 + 1, v18, v19, v20 =>
  (need (0 ≤ v19 ∧ v19 < (r10.length : Int))).bind fun _ =>
  (ixO r10 v19).bind fun x27 =>
  (ix x27 v20).bind fun x29 =>
  if (decide (x29 > 0)) = true then
   (f_lcs_next n p1 p2 r10 v19 v20).bind fun r33 =>
   (need (v18.length + 1 ≤ lim)).bind fun _ =>
   (rng (r33.1 + 1)).bind fun i38 =>
   (rng (r33.2 + 1)).bind fun i40 =>
   (fun (a44 : List GMatch) (a45 : Int) (a46 : Int) => f_lcs_Best_L17 n p1 p2 r10 m17 a44 a45 a46) (v18 ++ ([(⟨r33.1, r33.2⟩ : GMatch)] : List GMatch)) i38 i40
  else
   some (v18, 0)
def f_lcs_Best (n : Nat) (p1 : List (List UInt8)) (p2 : List (List UInt8)) : Option ((List GMatch) × Int) :=
 (f_lcs_check n p1 p2).bind fun r4 =>
 if (r4 != 0) = true then
  some (([] : List GMatch), r4)
 else
  (f_lcs_table n p1 p2).bind fun r10 =>
  f_lcs_Best_L17 n p1 p2 r10 n ([] : List GMatch) 0 0
def f_hunk_Diff_J31 (v19 : Int) (x29 : GMatch) (rec15 : (List GHunk) → Int → Int → Int → Option ((List GHunk) × Int)) (v32 : List GHunk) : Option ((List GHunk) × Int) :=
 (rng (x29.i_ + 1)).bind fun i33 =>
 (rng (x29.k_ + 1)).bind fun i35 =>
 (rng (v19 + 1)).bind fun i37 =>
 rec15 v32 i33 i35 i37
def f_hunk_Diff_L15 (p1 : List (List UInt8)) (p2 : List (List UInt8)) (r3 : (List GMatch) × Int) : Nat → (List GHunk) → Int → Int → Int → Option ((List GHunk) × Int)
 | 0, _, _, _, _ => none
 | m15 + 1, v16, v17, v18, v19 =>
  if (decide (v19 < ((r3.1.length + 1 : Nat) : Int))) = true then
   (ix (r3.1 ++ ([(⟨(p1.length : Int), (p2.length : Int)⟩ : GMatch)] : List GMatch)) v19).bind fun x29 =>
   if (decide (x29.i_ > v17)) = true then
    (cutI p1 v17 x29.i_).bind fun l41 =>
    (lmt l41).bind fun r43 =>
    (cutI p2 v18 x29.k_).bind fun l46 =>
    (lmt l46).bind fun r48 =>
    (need (v16.length + 1 ≤ lim)).bind fun _ =>
    f_hunk_Diff_J31 v19 x29 (fun (a66 : List GHunk) (a67 : Int) (a68 : Int) (a69 : Int) => f_hunk_Diff_L15 p1 p2 r3 m15 a66 a67 a68 a69) (v16 ++ ([(⟨v17, r43, r48⟩ : GHunk)] : List GHunk))
   else
    if (decide (x29.k_ > v18)) = true then
     (cutI p1 v17 x29.i_).bind fun l52 =>
     (lmt l52).bind fun r54 =>
     (cutI p2 v18 x29.k_).bind fun l57 =>
     (lmt l57).bind fun r59 =>
     (need (v16.length + 1 ≤ lim)).bind fun _ =>
     f_hunk_Diff_J31 v19 x29 (fun (a66 : List GHunk) (a67 : Int) (a68 : Int) (a69 : Int) => f_hunk_Diff_L15 p1 p2 r3 m15 a66 a67 a68 a69) (v16 ++ ([(⟨v17, r54, r59⟩ : GHunk)] : List GHunk))
    else
     f_hunk_Diff_J31 v19 x29 (fun (a66 : List GHunk) (a67 : Int) (a68 : Int) (a69 : Int) => f_hunk_Diff_L15 p1 p2 r3 m15 a66 a67 a68 a69) v16
  else
   some (v16, 0)
def f_hunk_Diff (n : Nat) (p1 : List (List UInt8)) (p2 : List (List UInt8)) : Option ((List GHunk) × Int) :=
 (f_lcs_Best n p1 p2).bind fun r3 =>
 if (r3.2 != 0) = true then
  some (([] : List GHunk), r3.2)
 else
  (need (r3.1.length + 1 ≤ lim)).bind fun _ =>
  f_hunk_Diff_L15 p1 p2 r3 n ([] : List GHunk) 0 0 0
def f_tree_patch (n : Nat) (p1 : List UInt8) (p2 : List UInt8) (p3 : List UInt8) (p4 : List UInt8) (p5 : List UInt8) : Option ((List UInt8) × Bool × Bool × (List GHunk)) :=
 (f_lines_Split n p3).bind fun r8 =>
 (f_lines_Split n p5).bind fun r12 =>
 (f_hunk_Diff n r8.1 r12.1).bind fun r15 =>
 some (p1, true, true, r15.1)
def f_tree_patch_p10 (n : Nat) (p1 : List UInt8) (p2 : List UInt8) (p3 : List UInt8) : Option ((List UInt8) × Bool × Bool × (List GHunk)) :=
 (f_lines_Split n p3).bind fun r8 =>
 some (p1, true, false, ([(⟨0, r8.1, ([] : List (List UInt8))⟩ : GHunk)] : List GHunk))
def f_tree_patch_p01 (n : Nat) (p1 : List UInt8) (p2 : List UInt8) (p3 : List UInt8) : Option ((List UInt8) × Bool × Bool × (List GHunk)) :=
 (f_lines_Split n p3).bind fun r7 =>
 some (p1, false, true, ([(⟨0, ([] : List (List UInt8)), r7.1⟩ : GHunk)] : List GHunk))
def f_tree_Diff_J39 (n : Nat) (v20 : List GFile) (v22 : List GFile) (v24 : List GPatch) (v37 : List UInt8) (v38 : List UInt8) (rec19 : (List GFile) → (List GFile) → (List GPatch) → Option ((List GPatch) × Int)) (v40 : List UInt8) (v41 : List UInt8) : Option ((List GPatch) × Int) :=
 (cutI v20 1 (v20.length : Int)).bind fun l45 =>
 (cutI v22 1 (v22.length : Int)).bind fun l49 =>
 (f_bytes_Equal n v38 v41).bind fun r52 =>
 if (!r52) = true then
  (f_tree_patch n v40 v37 v38 v40 v41).bind fun r55 =>
  (need (v24.length + 1 ≤ lim)).bind fun _ =>
  rec19 l45 l49 (v24 ++ ([(⟨r55.1, r55.2.1, r55.2.2.1, r55.2.2.2⟩ : GPatch)] : List GPatch))
 else
  rec19 l45 l49 v24
def f_tree_Diff_J39b (n : Nat) (v20 : List GFile) (v22 : List GFile) (v24 : List GPatch) (v37 : List UInt8) (v38 : List UInt8) (rec19 : (List GFile) → (List GFile) → (List GPatch) → Option ((List GPatch) × Int)) : Option ((List GPatch) × Int) :=
 (cutI v20 1 (v20.length : Int)).bind fun l63 =>
 (f_tree_patch_p10 n v37 v37 v38).bind fun r68 =>
 (need (v24.length + 1 ≤ lim)).bind fun _ =>
 rec19 l63 v22 (v24 ++ ([(⟨r68.1, r68.2.1, r68.2.2.1, r68.2.2.2⟩ : GPatch)] : List GPatch))
def f_tree_Diff_J36 (n : Nat) (v20 : List GFile) (v22 : List GFile) (v24 : List GPatch) (rec19 : (List GFile) → (List GFile) → (List GPatch) → Option ((List GPatch) × Int)) (v37 : List UInt8) (v38 : List UInt8) : Option ((List GPatch) × Int) :=
 if ((v20.length : Int) == 0) = true then
  (ix v22 0).bind fun x74 =>
  f_tree_Diff_J39 n v20 v22 v24 v37 v38 rec19 x74.path_ x74.text_
 else
  if (decide ((v22.length : Int) > 0)) = true then
   (ix v22 0).bind fun x77 =>
   (ix v20 0).bind fun x79 =>
   if (Op.bytesLess x77.path_ x79.path_ || x77.path_ == x79.path_) = true then
    f_tree_Diff_J39 n v20 v22 v24 v37 v38 rec19 x77.path_ x77.text_
   else
    f_tree_Diff_J39b n v20 v22 v24 v37 v38 rec19
  else
   f_tree_Diff_J39b n v20 v22 v24 v37 v38 rec19
def f_tree_Diff_J82 (n : Nat) (v20 : List GFile) (v22 : List GFile) (v24 : List GPatch) (rec19 : (List GFile) → (List GFile) → (List GPatch) → Option ((List GPatch) × Int)) (v83 : List UInt8) (v84 : List UInt8) : Option ((List GPatch) × Int) :=
 (cutI v22 1 (v22.length : Int)).bind fun l90 =>
 (f_tree_patch_p01 n v83 v83 v84).bind fun r93 =>
 (need (v24.length + 1 ≤ lim)).bind fun _ =>
 rec19 v20 l90 (v24 ++ ([(⟨r93.1, r93.2.1, r93.2.2.1, r93.2.2.2⟩ : GPatch)] : List GPatch))
def f_tree_Diff_J82b : Option ((List GPatch) × Int) :=
 none
def f_tree_Diff_J36b (n : Nat) (v20 : List GFile) (v22 : List GFile) (v24 : List GPatch) (rec19 : (List GFile) → (List GFile) → (List GPatch) → Option ((List GPatch) × Int)) : Option ((List GPatch) × Int) :=
 if ((v20.length : Int) == 0) = true then
  (ix v22 0).bind fun x105 =>
  f_tree_Diff_J82 n v20 v22 v24 rec19 x105.path_ x105.text_
 else
  if (decide ((v22.length : Int) > 0)) = true then
   (ix v22 0).bind fun x108 =>
   (ix v20 0).bind fun x110 =>
   if (Op.bytesLess x108.path_ x110.path_ || x108.path_ == x110.path_) = true then
    f_tree_Diff_J82 n v20 v22 v24 rec19 x108.path_ x108.text_
   else
    f_tree_Diff_J82b
  else
   f_tree_Diff_J82b
def f_tree_Diff_L19 (n : Nat) : Nat → (List GFile) → (List GFile) → (List GPatch) → Option ((List GPatch) × Int)
 | 0, _, _, _ => none
 | m19 + 1, v20, v22, v24 =>
  (rng ((v20.length : Int) + (v22.length : Int))).bind fun i32 =>
  if (decide (i32 > 0)) = true then
   if ((v22.length : Int) == 0) = true then
    (ix v20 0).bind fun x115 =>
    f_tree_Diff_J36 n v20 v22 v24 (fun (a125 : List GFile) (a126 : List GFile) (a127 : List GPatch) => f_tree_Diff_L19 n m19 a125 a126 a127) x115.path_ x115.text_
   else
    if (decide ((v20.length : Int) > 0)) = true then
     (ix v20 0).bind fun x118 =>
     (ix v22 0).bind fun x120 =>
     if (Op.bytesLess x118.path_ x120.path_ || x118.path_ == x120.path_) = true then
      f_tree_Diff_J36 n v20 v22 v24 (fun (a125 : List GFile) (a126 : List GFile) (a127 : List GPatch) => f_tree_Diff_L19 n m19 a125 a126 a127) x118.path_ x118.text_
     else
      f_tree_Diff_J36b n v20 v22 v24 (fun (a125 : List GFile) (a126 : List GFile) (a127 : List GPatch) => f_tree_Diff_L19 n m19 a125 a126 a127)
    else
     f_tree_Diff_J36b n v20 v22 v24 (fun (a125 : List GFile) (a126 : List GFile) (a127 : List GPatch) => f_tree_Diff_L19 n m19 a125 a126 a127)
  else
   some (v24, 0)
def f_tree_Diff (n : Nat) (p1 : List GFile) (p2 : List GFile) : Option ((List GPatch) × Int) :=
 (f_tree_Check n p1).bind fun r4 =>
 if (r4 != 0) = true then
  some (([] : List GPatch), r4)
 else
  (f_tree_Check n p2).bind fun r11 =>
  if (r11 != 0) = true then
   some (([] : List GPatch), r11)
  else
   f_tree_Diff_L19 n n p1 p2 ([] : List GPatch)
def f_tree_twin_L6 (p1 : List GFile) : Nat → (List GFile) → Int → Option ((List GFile))
 | 0, _, _ => none
 | m6 + 1, v7, v8 =>
  if (decide (v8 < (p1.length : Int))) = true then
   (ix p1 v8).bind fun x16 =>
   (lmt x16.text_).bind fun r18 =>
   (need (v7.length + 1 ≤ lim)).bind fun _ =>
   (rng (v8 + 1)).bind fun i22 =>
   (fun (a26 : List GFile) (a27 : Int) => f_tree_twin_L6 p1 m6 a26 a27) (v7 ++ ([(⟨x16.path_, r18⟩ : GFile)] : List GFile)) i22
  else
   some v7
def f_tree_twin (n : Nat) (p1 : List GFile) : Option ((List GFile)) :=
 f_tree_twin_L6 p1 n ([] : List GFile) 0
def f_bytealg_CompareString (n : Nat) (p1 : List UInt8) (p2 : List UInt8) : Option (Int) :=
 some (Lib.compareBytes p1 p2)
def f_strings_Compare (n : Nat) (p1 : List UInt8) (p2 : List UInt8) : Option (Int) :=
 (f_bytealg_CompareString n p1 p2).bind fun r3 =>
 some r3
def f_tree_find_1 (n : Nat) (p1 : List UInt8) (p2 : List UInt8) (p3 : List UInt8) : Option (Int) :=
 (f_strings_Compare n p1 p3).bind fun r3 =>
 some r3
def f_slices_BinarySearchFunc_string_by_tree_find_1_L6 (n : Nat) (p1 : List GFile) (p2 : List UInt8) : Nat → Int → Int → Option (Int × Bool)
 | 0, _, _ => none
 | m6 + 1, v7, v8 =>
  if (decide (v7 < v8)) = true then
   (rng (v7 + v8)).bind fun i15 =>
   (need (IntKind.u64.wrap i15 = i15)).bind fun _ =>
   (need (IntKind.i64.wrap (i15.fdiv 2) = (i15.fdiv 2))).bind fun _ =>
   (ix p1 (i15.fdiv 2)).bind fun x20 =>
   (f_tree_find_1 n x20.path_ x20.text_ p2).bind fun r22 =>
   if (decide (r22 < 0)) = true then
    (rng ((i15.fdiv 2) + 1)).bind fun i25 =>
    (fun (a36 : Int) (a37 : Int) => f_slices_BinarySearchFunc_string_by_tree_find_1_L6 n p1 p2 m6 a36 a37) i25 v8
   else
    (fun (a36 : Int) (a37 : Int) => f_slices_BinarySearchFunc_string_by_tree_find_1_L6 n p1 p2 m6 a36 a37) v7 (i15.fdiv 2)
  else
   if (decide (v7 < (p1.length : Int))) = true then
    (ix p1 v7).bind fun x30 =>
    (f_tree_find_1 n x30.path_ x30.text_ p2).bind fun r32 =>
    some (v7, (r32 == 0))
   else
    some (v7, false)
def f_slices_BinarySearchFunc_string_by_tree_find_1 (n : Nat) (p1 : List GFile) (p2 : List UInt8) : Option (Int × Bool) :=
 f_slices_BinarySearchFunc_string_by_tree_find_1_L6 n p1 p2 n 0 (p1.length : Int)
def f_tree_find (n : Nat) (p1 : List GFile) (p2 : List UInt8) : Option (Int × Bool) :=
 (f_slices_BinarySearchFunc_string_by_tree_find_1 n p1 p2).bind fun r3 =>
 some (r3.1, r3.2)
def f_tree_put (n : Nat) (p1 : List GFile) (p2 : List UInt8) (p3 : List UInt8) : Option ((List GFile)) :=
 (f_tree_find n p1 p2).bind fun r3 =>
 (lmt p3).bind fun r7 =>
 if r3.2 = true then
  (ix p1 r3.1).bind fun x13 =>
  some (p1.set r3.1.toNat (⟨p2, r7⟩ : GFile))
 else
  (insI p1 r3.1 ([(⟨p2, r7⟩ : GFile)] : List GFile)).bind fun r17 =>
  some r17
def f_slices_Equal_string_L8 (p1 : List (List UInt8)) (p2 : List (List UInt8)) : Nat → Int → Option (Bool)
 | 0, _ => none
 | m8 + 1, v9 =>
  if (decide (v9 < (p1.length : Int))) = true then
   (ix p1 v9).bind fun x17 =>
   (ix p2 v9).bind fun x19 =>
   if (!(x17 == x19)) = true then
    some false
   else
    (rng (v9 + 1)).bind fun i22 =>
    (fun (a27 : Int) => f_slices_Equal_string_L8 p1 p2 m8 a27) i22
  else
   some true
def f_slices_Equal_string (n : Nat) (p1 : List (List UInt8)) (p2 : List (List UInt8)) : Option (Bool) :=
 if ((p1.length : Int) != (p2.length : Int)) = true then
  some false
 else
  f_slices_Equal_string_L8 p1 p2 n 0
def f_apply_check (n : Nat) (p1 : List (List UInt8)) (p2 : List GHunk) : Option (Int) :=
 (f_lines_Join n p1).bind fun r4 =>
 if (r4.2 != 0) = true then
  some r4.2
 else
  (f_hunk_Check n p2).bind fun r10 =>
  some r10
def f_apply_at (n : Nat) (p1 : List (List UInt8)) (p2 : List (List UInt8)) (p3 : Int) : Option (Bool) :=
 if (decide (p3 ≥ 0)) = true then
  (rng (p3 + (p2.length : Int))).bind fun i4 =>
  if (decide (i4 ≤ (p1.length : Int))) = true then
   (rng (p3 + (p2.length : Int))).bind fun i7 =>
   (cutI p1 p3 i7).bind fun l9 =>
   (f_slices_Equal_string n l9 p2).bind fun r11 =>
   some r11
  else
   some false
 else
  some false
def f_apply_put_L7 (n : Nat) (p1 : List (List UInt8)) (p2 : List GHunk) (p3 : List Int) : Nat → (List (List UInt8)) → Int → Int → Option ((List (List UInt8)) × Int)
 | 0, _, _, _ => none
 | m7 + 1, v8, v9, v10 =>
  if (decide (v10 < (p2.length : Int))) = true then
   (ix p2 v10).bind fun x19 =>
   (ix p3 v10).bind fun x22 =>
   (cutI p1 v9 x22).bind fun l24 =>
   (need (v8.length + l24.length ≤ lim)).bind fun _ =>
   (need (v8.length + l24.length + x19.new_.length ≤ lim)).bind fun _ =>
   (rng (x22 + (x19.old_.length : Int))).bind fun i28 =>
   (rng (v10 + 1)).bind fun i30 =>
   (fun (a46 : List (List UInt8)) (a47 : Int) (a48 : Int) => f_apply_put_L7 n p1 p2 p3 m7 a46 a47 a48) ((v8 ++ l24) ++ x19.new_) i28 i30
  else
   (cutI p1 v9 (p1.length : Int)).bind fun l33 =>
   (need (v8.length + l33.length ≤ lim)).bind fun _ =>
   (f_lines_Join n (v8 ++ l33)).bind fun r38 =>
   if (r38.2 != 0) = true then
    some (([] : List (List UInt8)), r38.2)
   else
    some ((v8 ++ l33), 0)
def f_apply_put (n : Nat) (p1 : List (List UInt8)) (p2 : List GHunk) (p3 : List Int) : Option ((List (List UInt8)) × Int) :=
 f_apply_put_L7 n p1 p2 p3 n ([] : List (List UInt8)) 0 0
def f_apply_Exact_L13 (n : Nat) (p1 : List (List UInt8)) (p2 : List GHunk) : Nat → (List Int) → Int → Option ((List (List UInt8)) × Int)
 | 0, _, _ => none
 | m13 + 1, v14, v15 =>
  if (decide (v15 < (p2.length : Int))) = true then
   (ix p2 v15).bind fun x23 =>
   (f_apply_at n p1 x23.old_ x23.at_).bind fun r27 =>
   if (!r27) = true then
    some (([] : List (List UInt8)), 6)
   else
    (need (v14.length + 1 ≤ lim)).bind fun _ =>
    (rng (v15 + 1)).bind fun i32 =>
    (fun (a40 : List Int) (a41 : Int) => f_apply_Exact_L13 n p1 p2 m13 a40 a41) (v14 ++ ([x23.at_] : List Int)) i32
  else
   (f_apply_put n p1 p2 v14).bind fun r36 =>
   some (r36.1, r36.2)
def f_apply_Exact (n : Nat) (p1 : List (List UInt8)) (p2 : List GHunk) : Option ((List (List UInt8)) × Int) :=
 (f_apply_check n p1 p2).bind fun r4 =>
 if (r4 != 0) = true then
  some (([] : List (List UInt8)), r4)
 else
  f_apply_Exact_L13 n p1 p2 n ([] : List Int) 0
def f_tree_change (n : Nat) (p1 : List GFile) (p2 : List UInt8) (p3 : Bool) (p4 : Bool) (p5 : List GHunk) : Option ((List GFile) × Int) :=
 (f_tree_find n p1 p2).bind fun r3 =>
 if (p3 && (!r3.2)) = true then
  some (([] : List GFile), 6)
 else
  if ((!p3) && r3.2) = true then
   some (([] : List GFile), 14)
  else
   if (!p3) = true then
    (ix p5 0).bind fun x14 =>
    (f_lines_Join n x14.new_).bind fun r16 =>
    if (r16.2 != 0) = true then
     some (([] : List GFile), r16.2)
    else
     (f_tree_put n p1 p2 r16.1).bind fun r23 =>
     some (r23, 0)
   else
    (ix p1 r3.1).bind fun x28 =>
    (f_lines_Split n x28.text_).bind fun r30 =>
    if (!p4) = true then
     (ix p5 0).bind fun x37 =>
     (f_slices_Equal_string n r30.1 x37.old_).bind fun r39 =>
     if (!r39) = true then
      some (([] : List GFile), 6)
     else
      (rng (r3.1 + 1)).bind fun i44 =>
      (delI p1 r3.1 i44).bind fun r46 =>
      some (r46, 0)
    else
     (f_apply_Exact n r30.1 p5).bind fun r51 =>
     if (r51.2 != 0) = true then
      some (([] : List GFile), r51.2)
     else
      (f_lines_Join n r51.1).bind fun r58 =>
      (f_tree_put n p1 p2 r58.1).bind fun r62 =>
      some (r62, 0)
def f_tree_Apply_L23 (n : Nat) (p2 : List GPatch) : Nat → (List GFile) → Int → Option ((List GFile) × Int)
 | 0, _, _ => none
 | m23 + 1, v24, v25 =>
  if (decide (v25 < (p2.length : Int))) = true then
   (ix p2 v25).bind fun x33 =>
   (f_tree_change n v24 x33.path_ x33.was_ x33.stays_ x33.hunks_).bind fun r37 =>
   if (r37.2 != 0) = true then
    some (([] : List GFile), r37.2)
   else
    (rng (v25 + 1)).bind fun i42 =>
    (fun (a51 : List GFile) (a52 : Int) => f_tree_Apply_L23 n p2 m23 a51 a52) r37.1 i42
  else
   if (decide ((v24.length : Int) > 12)) = true then
    some (([] : List GFile), 4)
   else
    some (v24, 0)
def f_tree_Apply (n : Nat) (p1 : List GFile) (p2 : List GPatch) : Option ((List GFile) × Int) :=
 (f_tree_Check n p1).bind fun r4 =>
 if (r4 != 0) = true then
  some (([] : List GFile), r4)
 else
  (f_norm_Check n p2).bind fun r11 =>
  if (r11 != 0) = true then
   some (([] : List GFile), r11)
  else
   (f_tree_twin n p1).bind fun r17 =>
   f_tree_Apply_L23 n p2 n r17 0
def f_sidingref21_Same_L8 (p1 : List GFile) (p2 : List GFile) : Nat → Int → Option (Bool)
 | 0, _ => none
 | m8 + 1, v9 =>
  if (decide (v9 < (p1.length : Int))) = true then
   (ix p1 v9).bind fun x16 =>
   (ix p2 v9).bind fun x18 =>
   if (!(x16.path_ == x18.path_)) = true then
    some false
   else
    if (!(x16.text_ == x18.text_)) = true then
     some false
    else
     (rng (v9 + 1)).bind fun i24 =>
     (fun (a29 : Int) => f_sidingref21_Same_L8 p1 p2 m8 a29) i24
  else
   some true
def f_sidingref21_Same (n : Nat) (p1 : List GFile) (p2 : List GFile) : Option (Bool) :=
 if ((p1.length : Int) != (p2.length : Int)) = true then
  some false
 else
  f_sidingref21_Same_L8 p1 p2 n 0
def f_sidingref21_Has_L5 (p1 : List GFile) (p2 : List UInt8) : Nat → Int → Option ((List UInt8) × Bool)
 | 0, _ => none
 | m5 + 1, v6 =>
  if (decide (v6 < (p1.length : Int))) = true then
   (ix p1 v6).bind fun x13 =>
   if (x13.path_ == p2) = true then
    some (x13.text_, true)
   else
    (rng (v6 + 1)).bind fun i16 =>
    (fun (a21 : Int) => f_sidingref21_Has_L5 p1 p2 m5 a21) i16
  else
   some (([] : List UInt8), false)
def f_sidingref21_Has (n : Nat) (p1 : List GFile) (p2 : List UInt8) : Option ((List UInt8) × Bool) :=
 f_sidingref21_Has_L5 p1 p2 n 0
def f_tree_Put (n : Nat) (p1 : List GFile) (p2 : List UInt8) (p3 : List UInt8) : Option ((List GFile) × Int) :=
 (f_tree_Check n p1).bind fun r4 =>
 if (r4 != 0) = true then
  some (([] : List GFile), r4)
 else
  (f_tree_path n p2).bind fun r11 =>
  if (!r11) = true then
   some (([] : List GFile), 8)
  else
   (f_lines_Check n p3).bind fun r17 =>
   if (r17 != 0) = true then
    some (([] : List GFile), r17)
   else
    (f_tree_twin n p1).bind fun r23 =>
    (f_tree_put n r23 p2 p3).bind fun r26 =>
    if (decide ((r26.length : Int) > 12)) = true then
     some (([] : List GFile), 4)
    else
     some (r26, 0)
def f_norm_trim_L27 : Nat → (List (List UInt8)) → (List (List UInt8)) → Option ((List (List UInt8)) × (List (List UInt8)))
 | 0, _, _ => none
 | m27 + 1, v28, v30 =>
  if ((decide ((v28.length : Int) > 0)) && (decide ((v30.length : Int) > 0))) = true then
   (rng ((v28.length : Int) - 1)).bind fun i39 =>
   (ix v28 i39).bind fun x41 =>
   (rng ((v30.length : Int) - 1)).bind fun i43 =>
   (ix v30 i43).bind fun x45 =>
   if (x41 == x45) = true then
    (rng ((v28.length : Int) - 1)).bind fun i48 =>
    (cutI v28 0 i48).bind fun l50 =>
    (rng ((v30.length : Int) - 1)).bind fun i52 =>
    (cutI v30 0 i52).bind fun l54 =>
    (fun (a71 : List (List UInt8)) (a72 : List (List UInt8)) => f_norm_trim_L27 m27 a71 a72) l50 l54
   else
    (lmt v28).bind fun r57 =>
    (lmt v30).bind fun r60 =>
    some (r57, r60)
  else
   (lmt v28).bind fun r65 =>
   (lmt v30).bind fun r68 =>
   some (r65, r68)
def f_norm_trim_L76 : Nat → (List (List UInt8)) → (List (List UInt8)) → Option ((List (List UInt8)) × (List (List UInt8)))
 | 0, _, _ => none
 | m76 + 1, v77, v79 =>
  if ((decide ((v77.length : Int) > 0)) && (decide ((v79.length : Int) > 0))) = true then
   (rng ((v77.length : Int) - 1)).bind fun i88 =>
   (ix v77 i88).bind fun x90 =>
   (rng ((v79.length : Int) - 1)).bind fun i92 =>
   (ix v79 i92).bind fun x94 =>
   if (x90 == x94) = true then
    (rng ((v77.length : Int) - 1)).bind fun i97 =>
    (cutI v77 0 i97).bind fun l99 =>
    (rng ((v79.length : Int) - 1)).bind fun i101 =>
    (cutI v79 0 i101).bind fun l103 =>
    (fun (a120 : List (List UInt8)) (a121 : List (List UInt8)) => f_norm_trim_L76 m76 a120 a121) l99 l103
   else
    (lmt v77).bind fun r106 =>
    (lmt v79).bind fun r109 =>
    some (r106, r109)
  else
   (lmt v77).bind fun r114 =>
   (lmt v79).bind fun r117 =>
   some (r114, r117)
def f_norm_trim_L4 (n : Nat) : Nat → (List (List UInt8)) → (List (List UInt8)) → Option ((List (List UInt8)) × (List (List UInt8)))
 | 0, _, _ => none
 | m4 + 1, v5, v7 =>
  if ((decide ((v5.length : Int) > 0)) && (decide ((v7.length : Int) > 0))) = true then
   (ix v5 0).bind fun x16 =>
   (ix v7 0).bind fun x18 =>
   if (x16 == x18) = true then
    (cutI v5 1 (v5.length : Int)).bind fun l21 =>
    (cutI v7 1 (v7.length : Int)).bind fun l23 =>
    (fun (a122 : List (List UInt8)) (a123 : List (List UInt8)) => f_norm_trim_L4 n m4 a122 a123) l21 l23
   else
    f_norm_trim_L27 n v5 v7
  else
   f_norm_trim_L76 n v5 v7
def f_norm_trim (n : Nat) (p1 : List (List UInt8)) (p2 : List (List UInt8)) : Option ((List (List UInt8)) × (List (List UInt8))) :=
 f_norm_trim_L4 n n p1 p2
def f_norm_norm_L23 (n : Nat) (v7 : List GPatch) (v8 : Int) (x16 : GPatch) (rec6 : (List GPatch) → Int → Option ((List GPatch))) : Nat → (List GHunk) → Int → Int → Option ((List GPatch))
 | 0, _, _, _ => none
 | m23 + 1, v24, v25, v26 =>
  if (decide (v26 < (x16.hunks_.length : Int))) = true then
   (ix x16.hunks_ v26).bind fun x35 =>
   (f_norm_trim n x35.old_ x35.new_).bind fun r38 =>
   (rng ((r38.1.length : Int) + (r38.2.length : Int))).bind fun i42 =>
   if (decide (i42 > 0)) = true then
    (need (v24.length + 1 ≤ lim)).bind fun _ =>
    (rng ((r38.1.length : Int) + 1)).bind fun i46 =>
    (rng (v25 + i46)).bind fun i48 =>
    (rng (v26 + 1)).bind fun i50 =>
    (fun (a63 : List GHunk) (a64 : Int) (a65 : Int) => f_norm_norm_L23 n v7 v8 x16 rec6 m23 a63 a64 a65) (v24 ++ ([(⟨v25, r38.1, r38.2⟩ : GHunk)] : List GHunk)) i48 i50
   else
    (rng (v26 + 1)).bind fun i52 =>
    (fun (a63 : List GHunk) (a64 : Int) (a65 : Int) => f_norm_norm_L23 n v7 v8 x16 rec6 m23 a63 a64 a65) v24 v25 i52
  else
   if (decide ((v24.length : Int) > 0)) = true then
    (need (v7.length + 1 ≤ lim)).bind fun _ =>
    (rng (v8 + 1)).bind fun i57 =>
    rec6 (v7 ++ ([(⟨x16.path_, x16.was_, x16.stays_, v24⟩ : GPatch)] : List GPatch)) i57
   else
    (rng (v8 + 1)).bind fun i59 =>
    rec6 v7 i59
def f_norm_norm_L6 (n : Nat) (p1 : List GPatch) : Nat → (List GPatch) → Int → Option ((List GPatch))
 | 0, _, _ => none
 | m6 + 1, v7, v8 =>
  if (decide (v8 < (p1.length : Int))) = true then
   (ix p1 v8).bind fun x16 =>
   f_norm_norm_L23 n v7 v8 x16 (fun (a72 : List GPatch) (a73 : Int) => f_norm_norm_L6 n p1 m6 a72 a73) m6 ([] : List GHunk) 0 0
  else
   (sortG v7).bind fun r67 =>
   some r67
def f_norm_norm (n : Nat) (p1 : List GPatch) : Option ((List GPatch)) :=
 f_norm_norm_L6 n p1 n ([] : List GPatch) 0
def f_norm_same_1_1 (n : Nat) (p1 : Int) (p2 : List (List UInt8)) (p3 : List (List UInt8)) (p4 : Int) (p5 : List (List UInt8)) (p6 : List (List UInt8)) : Option (Bool) :=
 if (p1 == p4) = true then
  (f_slices_Equal_string n p2 p5).bind fun r4 =>
  if r4 = true then
   (f_slices_Equal_string n p3 p6).bind fun r8 =>
   some r8
  else
   some false
 else
  some false
def f_slices_EqualFunc_Hunk_by_norm_same_1_1_L8 (n : Nat) (p1 : List GHunk) (p2 : List GHunk) : Nat → Int → Option (Bool)
 | 0, _ => none
 | m8 + 1, v9 =>
  if (decide (v9 < (p1.length : Int))) = true then
   (ix p1 v9).bind fun x16 =>
   (ix p2 v9).bind fun x19 =>
   (f_norm_same_1_1 n x16.at_ x16.old_ x16.new_ x19.at_ x19.old_ x19.new_).bind fun r22 =>
   if (!r22) = true then
    some false
   else
    (rng (v9 + 1)).bind fun i26 =>
    (fun (a31 : Int) => f_slices_EqualFunc_Hunk_by_norm_same_1_1_L8 n p1 p2 m8 a31) i26
  else
   some true
def f_slices_EqualFunc_Hunk_by_norm_same_1_1 (n : Nat) (p1 : List GHunk) (p2 : List GHunk) : Option (Bool) :=
 if ((p1.length : Int) != (p2.length : Int)) = true then
  some false
 else
  f_slices_EqualFunc_Hunk_by_norm_same_1_1_L8 n p1 p2 n 0
def f_norm_same_1 (n : Nat) (p1 : List UInt8) (p2 : Bool) (p3 : Bool) (p4 : List GHunk) (p5 : List UInt8) (p6 : Bool) (p7 : Bool) (p8 : List GHunk) : Option (Bool) :=
 if (p1 == p5) = true then
  if (p2 == p6) = true then
   if (p3 == p7) = true then
    (f_slices_EqualFunc_Hunk_by_norm_same_1_1 n p4 p8).bind fun r6 =>
    some r6
   else
    some false
  else
   some false
 else
  some false
def f_slices_EqualFunc_Patch_by_norm_same_1_L8 (n : Nat) (p1 : List GPatch) (p2 : List GPatch) : Nat → Int → Option (Bool)
 | 0, _ => none
 | m8 + 1, v9 =>
  if (decide (v9 < (p1.length : Int))) = true then
   (ix p1 v9).bind fun x16 =>
   (ix p2 v9).bind fun x19 =>
   (f_norm_same_1 n x16.path_ x16.was_ x16.stays_ x16.hunks_ x19.path_ x19.was_ x19.stays_ x19.hunks_).bind fun r22 =>
   if (!r22) = true then
    some false
   else
    (rng (v9 + 1)).bind fun i26 =>
    (fun (a31 : Int) => f_slices_EqualFunc_Patch_by_norm_same_1_L8 n p1 p2 m8 a31) i26
  else
   some true
def f_slices_EqualFunc_Patch_by_norm_same_1 (n : Nat) (p1 : List GPatch) (p2 : List GPatch) : Option (Bool) :=
 if ((p1.length : Int) != (p2.length : Int)) = true then
  some false
 else
  f_slices_EqualFunc_Patch_by_norm_same_1_L8 n p1 p2 n 0
def f_norm_same (n : Nat) (p1 : List GPatch) (p2 : List GPatch) : Option (Bool) :=
 (f_slices_EqualFunc_Patch_by_norm_same_1 n p1 p2).bind fun r3 =>
 some r3
def f_norm_Same (n : Nat) (p1 : List GPatch) (p2 : List GPatch) : Option (Bool × Int) :=
 (f_norm_Check n p1).bind fun r4 =>
 if (r4 != 0) = true then
  some (false, r4)
 else
  (f_norm_Check n p2).bind fun r11 =>
  if (r11 != 0) = true then
   some (false, r11)
  else
   (f_norm_norm n p1).bind fun r17 =>
   (f_norm_norm n p2).bind fun r20 =>
   (f_norm_same n r17 r20).bind fun r23 =>
   some (r23, 0)
def f_sidingref13_Same_L8 (p1 : List (List UInt8)) (p2 : List (List UInt8)) : Nat → Int → Option (Bool)
 | 0, _ => none
 | m8 + 1, v9 =>
  if (decide (v9 < (p1.length : Int))) = true then
   (ix p1 v9).bind fun x16 =>
   (ix p2 v9).bind fun x18 =>
   if (!(x16 == x18)) = true then
    some false
   else
    (rng (v9 + 1)).bind fun i21 =>
    (fun (a26 : Int) => f_sidingref13_Same_L8 p1 p2 m8 a26) i21
  else
   some true
def f_sidingref13_Same (n : Nat) (p1 : List (List UInt8)) (p2 : List (List UInt8)) : Option (Bool) :=
 if ((p1.length : Int) != (p2.length : Int)) = true then
  some false
 else
  f_sidingref13_Same_L8 p1 p2 n 0
def f_sidingref15_Same_L8 (n : Nat) (p1 : List GHunk) (p2 : List GHunk) : Nat → Int → Option (Bool)
 | 0, _ => none
 | m8 + 1, v9 =>
  if (decide (v9 < (p1.length : Int))) = true then
   (ix p1 v9).bind fun x16 =>
   (ix p2 v9).bind fun x18 =>
   if (x16.at_ != x18.at_) = true then
    some false
   else
    (f_sidingref13_Same n x16.old_ x18.old_).bind fun r23 =>
    if (!r23) = true then
     some false
    else
     (f_sidingref13_Same n x16.new_ x18.new_).bind fun r29 =>
     if (!r29) = true then
      some false
     else
      (rng (v9 + 1)).bind fun i33 =>
      (fun (a38 : Int) => f_sidingref15_Same_L8 n p1 p2 m8 a38) i33
  else
   some true
def f_sidingref15_Same (n : Nat) (p1 : List GHunk) (p2 : List GHunk) : Option (Bool) :=
 if ((p1.length : Int) != (p2.length : Int)) = true then
  some false
 else
  f_sidingref15_Same_L8 n p1 p2 n 0
def f_sidingref17_Equal_L8 (n : Nat) (p1 : List GPatch) (p2 : List GPatch) : Nat → Int → Option (Bool)
 | 0, _ => none
 | m8 + 1, v9 =>
  if (decide (v9 < (p1.length : Int))) = true then
   (ix p1 v9).bind fun x16 =>
   (ix p2 v9).bind fun x18 =>
   if (((!(x16.path_ == x18.path_)) || (!(x16.was_ == x18.was_))) || (!(x16.stays_ == x18.stays_))) = true then
    some false
   else
    (f_sidingref15_Same n x16.hunks_ x18.hunks_).bind fun r22 =>
    if (!r22) = true then
     some false
    else
     (rng (v9 + 1)).bind fun i26 =>
     (fun (a31 : Int) => f_sidingref17_Equal_L8 n p1 p2 m8 a31) i26
  else
   some true
def f_sidingref17_Equal (n : Nat) (p1 : List GPatch) (p2 : List GPatch) : Option (Bool) :=
 if ((p1.length : Int) != (p2.length : Int)) = true then
  some false
 else
  f_sidingref17_Equal_L8 n p1 p2 n 0
def f_sidinglaw21_TreeClasses_L22 (n : Nat) (p1 : List GFile) (p2 : List GFile) (p3 : List UInt8) (p4 : List UInt8) (r13 : (List GPatch) × Int) : Nat → (List GPatch) → Int → Option (Bool)
 | 0, _, _ => none
 | m22 + 1, v23, v24 =>
  if (decide (v24 ≥ 0)) = true then
   (ix r13.1 v24).bind fun x31 =>
   (need (v23.length + 1 ≤ lim)).bind fun _ =>
   (rng (v24 - 1)).bind fun i34 =>
   (fun (a83 : List GPatch) (a84 : Int) => f_sidinglaw21_TreeClasses_L22 n p1 p2 p3 p4 r13 m22 a83 a84) (v23 ++ ([x31] : List GPatch)) i34
  else
   (f_tree_Apply n p1 v23).bind fun r37 =>
   if ((r13.2 != 0) || (r37.2 != 0)) = true then
    some false
   else
    (f_sidingref21_Same n r37.1 p2).bind fun r44 =>
    if (!r44) = true then
     some false
    else
     (f_sidingref21_Has n p1 p3).bind fun r49 =>
     (f_sidingref21_Has n p2 p3).bind fun r53 =>
     (f_tree_Put n p1 p3 p4).bind fun r57 =>
     (f_tree_Put n p2 p3 p4).bind fun r61 =>
     if (((r49.2 || r53.2) || (r57.2 != 0)) || (r61.2 != 0)) = true then
      some true
     else
      (f_tree_Diff n r57.1 r61.1).bind fun r68 =>
      (f_norm_Same n r13.1 r68.1).bind fun r72 =>
      if (((r68.2 == 0) && (r72.2 == 0)) && r72.1) = true then
       (f_sidingref17_Equal n r13.1 r68.1).bind fun r77 =>
       some r77
      else
       some false
def f_sidinglaw21_TreeClasses (n : Nat) (p1 : List GFile) (p2 : List GFile) (p3 : List UInt8) (p4 : List UInt8) : Option (Bool) :=
 (f_sidinglaw21_fit n p1 p2).bind fun r8 =>
 if (((!r8) || (decide ((p3.length : Int) > 200))) || (decide ((p4.length : Int) > 3000))) = true then
  some true
 else
  (f_tree_Diff n p1 p2).bind fun r13 =>
  (rng ((r13.1.length : Int) - 1)).bind fun i19 =>
  f_sidinglaw21_TreeClasses_L22 n p1 p2 p3 p4 r13 n ([] : List GPatch) i19
end Go.Zv.G
