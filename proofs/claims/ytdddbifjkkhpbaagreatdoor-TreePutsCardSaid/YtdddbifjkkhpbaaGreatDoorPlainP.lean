/- Plain functions, printed from the program's functions. No condition. -/
import Derived.Test.YtdddbifjkkhpbaaGreatDoorFactsP
import Derived.Test.YtdddbifjkkhpbaaGreatDoorZvPx
namespace Go.Proofs.YtdddbifjkkhpbaaGreatDoor.G
open Go Go.Zv Go.Proofs Go.Proofs.YtdddbifjkkhpbaaGreatDoor
set_option maxRecDepth 100000
set_option linter.unusedVariables false
def letN (c : Nat) : Bool := !(Nat.ble 97 c && Nat.ble c 122 || Nat.ble 65 c && Nat.ble c 90 || Nat.ble 48 c && Nat.ble c 57 || Nat.beq c 45 || Nat.beq c 95 || Nat.beq c 46)
def joinI (l : List (List UInt8)) (sep : List UInt8) : Option (List UInt8) := if l.length ≤ lim ∧ (joinL l sep).length ≤ lim then some (joinL l sep) else none
structure GFile where
  path_ : List UInt8
  text_ : List UInt8
structure GHunk where
  at_ : Int
  old_ : List (List UInt8)
  new_ : List (List UInt8)
structure GPatch where
  path_ : List UInt8
  was_ : Bool
  stays_ : Bool
  hunks_ : List GHunk
def encGFile (x : GFile) : List V := [.str x.path_, .sl 1 false (x.text_.map encB)]
def encGHunk (x : GHunk) : List V := [.int .i64 x.at_, .sl 1 false (x.old_.map encS), .sl 1 false (x.new_.map encS)]
def encGPatch (x : GPatch) : List V := [.str x.path_, .bool x.was_, .bool x.stays_, .sl 3 false (x.hunks_.map encGHunk)]
/-- siding/sidingref21.Long -/
def F37_L5 (p1 : List GFile) : Nat → Int → Option (Bool)
  | 0, _ => none
  | m5 + 1, v6 =>
    if ((decide (v6 < (p1.length : Int))) && (decide (v6 ≤ 40))) = true then
      (ix p1 v6).bind fun x13 =>
      if ((decide ((x13.path_.length : Int) > 200)) || (decide ((x13.text_.length : Int) > 3000))) = true then
        some true
      else
        (rng (v6 + 1)).bind fun i16 =>
        (fun (a21 : Int) => F37_L5 p1 m5 a21) i16
    else
      some (decide ((p1.length : Int) > 40))
def F37 (n : Nat) (p1 : List GFile) : Option (Bool) :=
  F37_L5 p1 n 0
/-- siding/sidingref17.part -/
def F78_L8 (p1 : List UInt8) : Nat → Int → Option (Bool)
  | 0, _ => none
  | m8 + 1, v9 =>
    if (decide (v9 < (p1.length : Int))) = true then
      (ix p1 v9).bind fun x16 =>
      if ((((((!((decide ((x16.toNat : Int) ≥ 97)) && (decide ((x16.toNat : Int) ≤ 122)))) && (!((decide ((x16.toNat : Int) ≥ 65)) && (decide ((x16.toNat : Int) ≤ 90))))) && (!((decide ((x16.toNat : Int) ≥ 48)) && (decide ((x16.toNat : Int) ≤ 57))))) && ((x16.toNat : Int) != 45)) && ((x16.toNat : Int) != 95)) && ((x16.toNat : Int) != 46)) = true then
        some false
      else
        (rng (v9 + 1)).bind fun i20 =>
        (fun (a25 : Int) => F78_L8 p1 m8 a25) i20
    else
      some true
def F78 (n : Nat) (p1 : List UInt8) : Option (Bool) :=
  if ((((p1.length : Int) == 0) || (p1 == ([46] : List UInt8))) || (p1 == ([46, 46] : List UInt8))) = true then
    some false
  else
    F78_L8 p1 n 0
/-- siding/sidingref17.Path -/
def F44_L9 (n : Nat) (p1 : List UInt8) : Nat → Int → Int → Option (Bool)
  | 0, _, _ => none
  | m9 + 1, v10, v11 =>
    if (decide (v11 < (p1.length : Int))) = true then
      (ix p1 v11).bind fun x19 =>
      if ((x19.toNat : Int) == 47) = true then
        (cutI p1 v10 v11).bind fun l23 =>
        (F78 n l23).bind fun r25 =>
        if (!r25) = true then
          some false
        else
          (rng (v11 + 1)).bind fun i29 =>
          (rng (v11 + 1)).bind fun i31 =>
          (fun (a44 : Int) (a45 : Int) => F44_L9 n p1 m9 a44 a45) i29 i31
      else
        (rng (v11 + 1)).bind fun i34 =>
        (fun (a44 : Int) (a45 : Int) => F44_L9 n p1 m9 a44 a45) v10 i34
    else
      (cutI p1 v10 (p1.length : Int)).bind fun l38 =>
      (F78 n l38).bind fun r40 =>
      some r40
def F44 (n : Nat) (p1 : List UInt8) : Option (Bool) :=
  if (decide ((p1.length : Int) > 60)) = true then
    some false
  else
    F44_L9 n p1 n 0 0
/-- siding/sidingref13.Parts -/
def F79_L7 (p1 : List UInt8) : Nat → (List (List UInt8)) → Int → Int → Option ((List (List UInt8)))
  | 0, _, _, _ => none
  | m7 + 1, v8, v9, v10 =>
    if (decide (v10 < (p1.length : Int))) = true then
      (ix p1 v10).bind fun x19 =>
      if ((x19.toNat : Int) == 10) = true then
        (rng ((v8.length : Int) - 1)).bind fun i22 =>
        (cutI p1 v9 v10).bind fun l24 =>
        (ix v8 i22).bind fun x26 =>
        (need (v8.length + 1 ≤ lim)).bind fun _ =>
        (rng (v10 + 1)).bind fun i30 =>
        (rng (v10 + 1)).bind fun i32 =>
        (fun (a46 : List (List UInt8)) (a47 : Int) (a48 : Int) => F79_L7 p1 m7 a46 a47 a48) ((v8.set i22.toNat l24) ++ ([([] : List UInt8)] : List (List UInt8))) i30 i32
      else
        (rng (v10 + 1)).bind fun i34 =>
        (fun (a46 : List (List UInt8)) (a47 : Int) (a48 : Int) => F79_L7 p1 m7 a46 a47 a48) v8 v9 i34
    else
      (rng ((v8.length : Int) - 1)).bind fun i38 =>
      (cutI p1 v9 (p1.length : Int)).bind fun l40 =>
      (ix v8 i38).bind fun x42 =>
      some (v8.set i38.toNat l40)
def F79 (n : Nat) (p1 : List UInt8) : Option ((List (List UInt8))) :=
  F79_L7 p1 n ([([] : List UInt8)] : List (List UInt8)) 0 0
/-- siding/sidingref13.Check -/
def F45 (n : Nat) (p1 : List UInt8) : Option (Int) :=
  if (decide ((p1.length : Int) > 2000)) = true then
    some 4
  else
    (F79 n p1).bind fun r6 =>
    if (decide ((r6.length : Int) > 60)) = true then
      some 4
    else
      some 0
/-- siding/sidingref21.Check -/
def F13_L39 (n : Nat) (p1 : List GFile) : Nat → Int → Option (Int)
  | 0, _ => none
  | m39 + 1, v40 =>
    if (decide (v40 < (p1.length : Int))) = true then
      (ix p1 v40).bind fun x47 =>
      (F45 n x47.text_).bind fun r49 =>
      if (r49 != 0) = true then
        (F45 n x47.text_).bind fun r53 =>
        some r53
      else
        (rng (v40 + 1)).bind fun i56 =>
        (fun (a61 : Int) => F13_L39 n p1 m39 a61) i56
    else
      some 0
def F13_L8 (n : Nat) (p1 : List GFile) : Nat → Int → Option (Int)
  | 0, _ => none
  | m8 + 1, v9 =>
    if (decide (v9 < (p1.length : Int))) = true then
      (ix p1 v9).bind fun x17 =>
      (F44 n x17.path_).bind fun r19 =>
      if (!r19) = true then
        some 8
      else
        if (decide (v9 > 0)) = true then
          (rng (v9 - 1)).bind fun i25 =>
          (ix p1 i25).bind fun x27 =>
          if (!(Op.bytesLess x27.path_ x17.path_)) = true then
            some 8
          else
            (rng (v9 + 1)).bind fun i30 =>
            (fun (a63 : Int) => F13_L8 n p1 m8 a63) i30
        else
          (rng (v9 + 1)).bind fun i33 =>
          (fun (a63 : Int) => F13_L8 n p1 m8 a63) i33
    else
      F13_L39 n p1 n 0
def F13 (n : Nat) (p1 : List GFile) : Option (Int) :=
  if (decide ((p1.length : Int) > 12)) = true then
    some 4
  else
    F13_L8 n p1 n 0
/-- siding/sidinglaw21.fit -/
def F8 (n : Nat) (p1 : List GFile) (p2 : List GFile) : Option (Bool) :=
  (F37 n p1).bind fun r3 =>
  if (!r3) = true then
    (F37 n p2).bind fun r7 =>
    if (!r7) = true then
      (F13 n p1).bind fun r11 =>
      if (r11 == 0) = true then
        (F13 n p2).bind fun r15 =>
        some (r15 == 0)
      else
        some false
    else
      some false
  else
    some false
/-- siding/norm.Check$1 -/
def F52 (n : Nat) (p1 : List UInt8) (p2 : Bool) (p3 : Bool) (p4 : List GHunk) (p5 : List UInt8) (p6 : Bool) (p7 : Bool) (p8 : List GHunk) : Option (Bool) :=
  some (p1 == p5)
/-- slices.IndexFunc[[]siding/api.Patch,siding/api.Patch] -/
def F87_L5 (n : Nat) (p1 : List GPatch) (p2 : List UInt8) (p3 : Bool) (p4 : Bool) (p5 : List GHunk) : Nat → Int → Option (Int)
  | 0, _ => none
  | m5 + 1, v6 =>
    if (decide (v6 < (p1.length : Int))) = true then
      (ix p1 v6).bind fun x14 =>
      (F52 n x14.path_ x14.was_ x14.stays_ x14.hunks_ p2 p3 p4 p5).bind fun r16 =>
      if r16 = true then
        some v6
      else
        (rng (v6 + 1)).bind fun i20 =>
        (fun (a25 : Int) => F87_L5 n p1 p2 p3 p4 p5 m5 a25) i20
    else
      some (-1)
def F87 (n : Nat) (p1 : List GPatch) (p2 : List UInt8) (p3 : Bool) (p4 : Bool) (p5 : List GHunk) : Option (Int) :=
  F87_L5 n p1 p2 p3 p4 p5 n 0
/-- slices.ContainsFunc[[]siding/api.Patch,siding/api.Patch] -/
def F51 (n : Nat) (p1 : List GPatch) (p2 : List UInt8) (p3 : Bool) (p4 : Bool) (p5 : List GHunk) : Option (Bool) :=
  (F87 n p1 p2 p3 p4 p5).bind fun r3 =>
  some (decide (r3 ≥ 0))
/-- internal/stringslite.IndexByte -/
def F222 (n : Nat) (p1 : List UInt8) (p2 : Int) : Option (Int) :=
  some (idx8 p2.toNat.toUInt8 p1 0)
/-- internal/stringslite.Index -/
def F221 (n : Nat) (p1 : List UInt8) (p2 : List UInt8) : Option (Int) :=
  if (((p2.length : Int) == 0) || (p2 == p1)) = true then
    some 0
  else
    if ((p2.length : Int) == 1) = true then
      (ix p2 0).bind fun x9 =>
      (F222 n p1 (x9.toNat : Int)).bind fun r11 =>
      some r11
    else
      if (decide ((p2.length : Int) ≥ (p1.length : Int))) = true then
        some (-1)
      else
        none
/-- strings.Index -/
def F198 (n : Nat) (p1 : List UInt8) (p2 : List UInt8) : Option (Int) :=
  (F221 n p1 p2).bind fun r3 =>
  some r3
/-- strings.Count -/
def F197_L15 (n : Nat) (p2 : List UInt8) : Nat → (List UInt8) → Int → Option (Int)
  | 0, _, _ => none
  | m15 + 1, v16, v17 =>
    (F198 n v16 p2).bind fun r22 =>
    if (r22 == (-1)) = true then
      some v17
    else
      (rng (v17 + 1)).bind fun i29 =>
      (rng (r22 + (p2.length : Int))).bind fun i31 =>
      (cutI v16 i31 (v16.length : Int)).bind fun l33 =>
      (fun (a36 : List UInt8) (a37 : Int) => F197_L15 n p2 m15 a36 a37) l33 i29
def F197 (n : Nat) (p1 : List UInt8) (p2 : List UInt8) : Option (Int) :=
  if ((p2.length : Int) == 0) = true then
    none
  else
    if ((p2.length : Int) == 1) = true then
      (ix p2 0).bind fun x8 =>
      some (cnt8 (x8.toNat : Int).toNat.toUInt8 p1 : Nat)
    else
      F197_L15 n p2 n p1 0
/-- strings.genSplit -/
def F155_J19 (v20 : List UInt8) (v21 : List (List UInt8)) (v22 : Int) : Option ((List (List UInt8))) :=
  (ix v21 v22).bind fun x24 =>
  (rng (v22 + 1)).bind fun i27 =>
  (cutI (v21.set v22.toNat v20) 0 i27).bind fun l29 =>
  some l29
def F155_L32 (n : Nat) (p2 : List UInt8) (p3 : Int) (i16 : Int) : Nat → (List UInt8) → (List (List UInt8)) → Int → Option ((List (List UInt8)))
  | 0, _, _, _ => none
  | m32 + 1, v33, v34, v35 =>
    if (decide (v35 < i16)) = true then
      (F198 n v33 p2).bind fun r43 =>
      if (decide (r43 < 0)) = true then
        F155_J19 v33 v34 v35
      else
        (rng (r43 + p3)).bind fun i49 =>
        (cutI v33 0 i49).bind fun l51 =>
        (ix v34 v35).bind fun x53 =>
        (rng (r43 + (p2.length : Int))).bind fun i56 =>
        (cutI v33 i56 (v33.length : Int)).bind fun l58 =>
        (rng (v35 + 1)).bind fun i60 =>
        (fun (a64 : List UInt8) (a65 : List (List UInt8)) (a66 : Int) => F155_L32 n p2 p3 i16 m32 a64 a65 a66) l58 (v34.set v35.toNat l51) i60
    else
      F155_J19 v33 v34 v35
def F155_J8 (n : Nat) (p1 : List UInt8) (p2 : List UInt8) (p3 : Int) (v9 : Int) : Option ((List (List UInt8))) :=
  (rng ((p1.length : Int) + 1)).bind fun i11 =>
  (need (0 ≤ (if i11 < v9 then i11 else v9) ∧ (if i11 < v9 then i11 else v9) ≤ (if i11 < v9 then i11 else v9) ∧ (if i11 < v9 then i11 else v9) ≤ (lim : Int))).bind fun _ =>
  (rng ((if i11 < v9 then i11 else v9) - 1)).bind fun i16 =>
  F155_L32 n p2 p3 i16 n p1 (List.replicate (if i11 < v9 then i11 else v9).toNat ([] : List UInt8)) 0
def F155 (n : Nat) (p1 : List UInt8) (p2 : List UInt8) (p3 : Int) (p4 : Int) : Option ((List (List UInt8))) :=
  if (p4 == 0) = true then
    some ([] : List (List UInt8))
  else
    if (p2 == ([] : List UInt8)) = true then
      none
    else
      if (decide (p4 < 0)) = true then
        (F197 n p1 p2).bind fun r68 =>
        (rng (r68 + 1)).bind fun i71 =>
        F155_J8 n p1 p2 p3 i71
      else
        F155_J8 n p1 p2 p3 p4
/-- strings.Split -/
def F120 (n : Nat) (p1 : List UInt8) (p2 : List UInt8) : Option ((List (List UInt8))) :=
  (F155 n p1 p2 0 (-1)).bind fun r3 =>
  some r3
/-- siding/norm.path$1 -/
def F129 (n : Nat) (p1 : List UInt8) : Option (Bool) :=
  if (((p1 == ([] : List UInt8)) || (p1 == ([46] : List UInt8))) || (p1 == ([46, 46] : List UInt8))) = true then
    some true
  else
    some (p1.any fun b => letN b.toNat)
/-- slices.IndexFunc[[]string,string] -/
def F162_L5 (n : Nat) (p1 : List (List UInt8)) : Nat → Int → Option (Int)
  | 0, _ => none
  | m5 + 1, v6 =>
    if (decide (v6 < (p1.length : Int))) = true then
      (ix p1 v6).bind fun x14 =>
      (F129 n x14).bind fun r16 =>
      if r16 = true then
        some v6
      else
        (rng (v6 + 1)).bind fun i20 =>
        (fun (a25 : Int) => F162_L5 n p1 m5 a25) i20
    else
      some (-1)
def F162 (n : Nat) (p1 : List (List UInt8)) : Option (Int) :=
  F162_L5 n p1 n 0
/-- slices.ContainsFunc[[]string,string] -/
def F128 (n : Nat) (p1 : List (List UInt8)) : Option (Bool) :=
  (F162 n p1).bind fun r3 =>
  some (decide (r3 ≥ 0))
/-- siding/norm.path -/
def F88 (n : Nat) (p1 : List UInt8) : Option (Bool) :=
  if (((p1.length : Int) == 0) || (decide ((p1.length : Int) > 60))) = true then
    some false
  else
    (F120 n p1 ([47] : List UInt8)).bind fun r6 =>
    (F128 n r6).bind fun r9 =>
    some (!r9)
/-- strings.IndexByte -/
def F200 (n : Nat) (p1 : List UInt8) (p2 : Int) : Option (Int) :=
  (F222 n p1 p2).bind fun r3 =>
  some r3
/-- siding/hunk.plain$1 -/
def F202 (n : Nat) (p1 : List UInt8) : Option (Bool) :=
  if (decide ((p1.length : Int) > 2000)) = true then
    some true
  else
    (F200 n p1 10).bind fun r4 =>
    some (decide (r4 ≥ 0))
/-- slices.IndexFunc[[]string,string] -/
def F162b_L5 (n : Nat) (p1 : List (List UInt8)) : Nat → Int → Option (Int)
  | 0, _ => none
  | m5 + 1, v6 =>
    if (decide (v6 < (p1.length : Int))) = true then
      (ix p1 v6).bind fun x14 =>
      (F202 n x14).bind fun r16 =>
      if r16 = true then
        some v6
      else
        (rng (v6 + 1)).bind fun i20 =>
        (fun (a25 : Int) => F162b_L5 n p1 m5 a25) i20
    else
      some (-1)
def F162b (n : Nat) (p1 : List (List UInt8)) : Option (Int) :=
  F162b_L5 n p1 n 0
/-- slices.ContainsFunc[[]string,string] -/
def F128b (n : Nat) (p1 : List (List UInt8)) : Option (Bool) :=
  (F162b n p1).bind fun r3 =>
  some (decide (r3 ≥ 0))
/-- siding/hunk.plain -/
def F161 (n : Nat) (p1 : List (List UInt8)) : Option (Bool) :=
  if (decide ((p1.length : Int) ≤ 60)) = true then
    (F128b n p1).bind fun r4 =>
    some (!r4)
  else
    some false
/-- siding/hunk.valid -/
def F127 (n : Nat) (p1 : Int) (p2 : List (List UInt8)) (p3 : List (List UInt8)) : Option (Bool) :=
  if (decide (p1 ≥ 0)) = true then
    if (decide (p1 ≤ 60)) = true then
      (F161 n p2).bind fun r5 =>
      if r5 = true then
        (F161 n p3).bind fun r9 =>
        if r9 = true then
          (rng ((p2.length : Int) + (p3.length : Int))).bind fun i13 =>
          some (decide (i13 > 0))
        else
          some false
      else
        some false
    else
      some false
  else
    some false
/-- siding/hunk.Check -/
def F85_L9 (n : Nat) (p1 : List GHunk) : Nat → Int → Int → Option (Int)
  | 0, _, _ => none
  | m9 + 1, v10, v11 =>
    if (decide (v11 < (p1.length : Int))) = true then
      (ix p1 v11).bind fun x19 =>
      (F127 n x19.at_ x19.old_ x19.new_).bind fun r23 =>
      if (!r23) = true then
        some 8
      else
        if (decide (x19.at_ < v10)) = true then
          some 8
        else
          (rng (x19.at_ + (x19.old_.length : Int))).bind fun i29 =>
          (rng (i29 + 1)).bind fun i31 =>
          (rng (v11 + 1)).bind fun i33 =>
          (fun (a38 : Int) (a39 : Int) => F85_L9 n p1 m9 a38 a39) i31 i33
    else
      some 0
def F85 (n : Nat) (p1 : List GHunk) : Option (Int) :=
  if (decide ((p1.length : Int) > 40)) = true then
    some 4
  else
    F85_L9 n p1 n 0 0
/-- siding/norm.valid -/
def F54_J3 (p2 : Bool) (p3 : Bool) (p4 : List GHunk) : Option (Bool) :=
  if ((p4.length : Int) != 1) = true then
    some false
  else
    (ix p4 0).bind fun x8 =>
    if (x8.at_ != 0) = true then
      some false
    else
      if p2 = true then
        if p3 = true then
          some true
        else
          some ((x8.new_.length : Int) == 0)
      else
        if ((x8.old_.length : Int) == 0) = true then
          if p3 = true then
            some true
          else
            some ((x8.new_.length : Int) == 0)
        else
          some false
def F54_J2 (p2 : Bool) (p3 : Bool) (p4 : List GHunk) : Option (Bool) :=
  if p2 = true then
    if p3 = true then
      some true
    else
      F54_J3 p2 p3 p4
  else
    F54_J3 p2 p3 p4
def F54 (n : Nat) (p1 : List UInt8) (p2 : Bool) (p3 : Bool) (p4 : List GHunk) : Option (Bool) :=
  (F88 n p1).bind fun r23 =>
  if (!r23) = true then
    some false
  else
    if (!p2) = true then
      if (!p3) = true then
        some false
      else
        (F85 n p4).bind fun r31 =>
        if (r31 != 0) = true then
          some false
        else
          F54_J2 p2 p3 p4
    else
      (F85 n p4).bind fun r36 =>
      if (r36 != 0) = true then
        some false
      else
        F54_J2 p2 p3 p4
/-- siding/norm.Check$2 -/
def F53 (n : Nat) (p1 : List UInt8) (p2 : Bool) (p3 : Bool) (p4 : List GHunk) : Option (Bool) :=
  (F54 n p1 p2 p3 p4).bind fun r3 =>
  some (!r3)
/-- slices.IndexFunc[[]siding/api.Patch,siding/api.Patch] -/
def F87b_L5 (n : Nat) (p1 : List GPatch) : Nat → Int → Option (Int)
  | 0, _ => none
  | m5 + 1, v6 =>
    if (decide (v6 < (p1.length : Int))) = true then
      (ix p1 v6).bind fun x14 =>
      (F53 n x14.path_ x14.was_ x14.stays_ x14.hunks_).bind fun r16 =>
      if r16 = true then
        some v6
      else
        (rng (v6 + 1)).bind fun i20 =>
        (fun (a25 : Int) => F87b_L5 n p1 m5 a25) i20
    else
      some (-1)
def F87b (n : Nat) (p1 : List GPatch) : Option (Int) :=
  F87b_L5 n p1 n 0
/-- slices.ContainsFunc[[]siding/api.Patch,siding/api.Patch] -/
def F51b (n : Nat) (p1 : List GPatch) : Option (Bool) :=
  (F87b n p1).bind fun r3 =>
  some (decide (r3 ≥ 0))
/-- siding/norm.Check -/
def F23_L8 (n : Nat) (p1 : List GPatch) : Nat → Int → Option (Int)
  | 0, _ => none
  | m8 + 1, v9 =>
    if (decide (v9 < (p1.length : Int))) = true then
      (ix p1 v9).bind fun x16 =>
      (cutI p1 0 v9).bind fun l19 =>
      (F51 n l19 x16.path_ x16.was_ x16.stays_ x16.hunks_).bind fun r21 =>
      if r21 = true then
        some 14
      else
        (rng (v9 + 1)).bind fun i25 =>
        (fun (a37 : Int) => F23_L8 n p1 m8 a37) i25
    else
      (F51b n p1).bind fun r30 =>
      if r30 = true then
        some 8
      else
        some 0
def F23 (n : Nat) (p1 : List GPatch) : Option (Int) :=
  if (decide ((p1.length : Int) > 24)) = true then
    some 4
  else
    F23_L8 n p1 n 0
/-- siding/tree.path -/
def F38 (n : Nat) (p1 : List UInt8) : Option (Bool) :=
  (F23 n ([(⟨p1, true, true, ([] : List GHunk)⟩ : GPatch)] : List GPatch)).bind fun r3 =>
  some (r3 == 0)
/-- unicode/utf8.RuneCount -/
def F114_L6 (p1 : List UInt8) : Nat → Int → Option (Int)
  | 0, _ => none
  | m6 + 1, v7 =>
    if (decide (v7 < (p1.length : Int))) = true then
      (ix p1 v7).bind fun x14 =>
      if (decide ((x14.toNat : Int) ≥ 128)) = true then
        (cutI p1 v7 (p1.length : Int)).bind fun l18 =>
        none
      else
        (rng (v7 + 1)).bind fun i20 =>
        (fun (a25 : Int) => F114_L6 p1 m6 a25) i20
    else
      some v7
def F114 (n : Nat) (p1 : List UInt8) : Option (Int) :=
  F114_L6 p1 n 0
/-- bytes.Equal -/
def F47 (n : Nat) (p1 : List UInt8) (p2 : List UInt8) : Option (Bool) :=
  some (p1 == p2)
/-- bytes.Index -/
def F116 (n : Nat) (p1 : List UInt8) (p2 : List UInt8) : Option (Int) :=
  if ((p2.length : Int) == 0) = true then
    some 0
  else
    if ((p2.length : Int) == 1) = true then
      (ix p2 0).bind fun x9 =>
      none
    else
      if ((p2.length : Int) == (p1.length : Int)) = true then
        (F47 n p2 p1).bind fun r14 =>
        if r14 = true then
          some 0
        else
          some (-1)
      else
        if (decide ((p2.length : Int) > (p1.length : Int))) = true then
          some (-1)
        else
          none
/-- bytes.Count -/
def F73_L20 (n : Nat) (p2 : List UInt8) : Nat → (List UInt8) → Int → Option (Int)
  | 0, _, _ => none
  | m20 + 1, v21, v23 =>
    (F116 n v21 p2).bind fun r29 =>
    if (r29 == (-1)) = true then
      some v23
    else
      (rng (v23 + 1)).bind fun i36 =>
      (rng (r29 + (p2.length : Int))).bind fun i38 =>
      (cutI v21 i38 (v21.length : Int)).bind fun l40 =>
      (fun (a43 : List UInt8) (a44 : Int) => F73_L20 n p2 m20 a43 a44) l40 i36
def F73 (n : Nat) (p1 : List UInt8) (p2 : List UInt8) : Option (Int) :=
  if ((p2.length : Int) == 0) = true then
    (F114 n p1).bind fun r5 =>
    (rng (r5 + 1)).bind fun i8 =>
    some i8
  else
    if ((p2.length : Int) == 1) = true then
      (ix p2 0).bind fun x13 =>
      some (cnt8 (x13.toNat : Int).toNat.toUInt8 p1 : Nat)
    else
      F73_L20 n p2 n p1 0
/-- siding/lines.Check -/
def F39 (n : Nat) (p1 : List UInt8) : Option (Int) :=
  if (decide ((p1.length : Int) > 2000)) = true then
    some 4
  else
    (F73 n p1 ([(10 : UInt8)] : List UInt8)).bind fun r6 =>
    if (decide (r6 ≥ 60)) = true then
      some 4
    else
      some 0
/-- siding/tree.Check -/
def F17_L39 (n : Nat) (p1 : List GFile) : Nat → Int → Option (Int)
  | 0, _ => none
  | m39 + 1, v40 =>
    if (decide (v40 < (p1.length : Int))) = true then
      (ix p1 v40).bind fun x47 =>
      (F39 n x47.text_).bind fun r50 =>
      if (r50 != 0) = true then
        some r50
      else
        (rng (v40 + 1)).bind fun i55 =>
        (fun (a60 : Int) => F17_L39 n p1 m39 a60) i55
    else
      some 0
def F17_L8 (n : Nat) (p1 : List GFile) : Nat → Int → Option (Int)
  | 0, _ => none
  | m8 + 1, v9 =>
    if (decide (v9 < (p1.length : Int))) = true then
      (ix p1 v9).bind fun x16 =>
      (F38 n x16.path_).bind fun r19 =>
      if r19 = true then
        if (decide (v9 > 0)) = true then
          (rng (v9 - 1)).bind fun i25 =>
          (ix p1 i25).bind fun x27 =>
          if (!Op.bytesLess x27.path_ x16.path_) = true then
            some 8
          else
            (rng (v9 + 1)).bind fun i30 =>
            (fun (a62 : Int) => F17_L8 n p1 m8 a62) i30
        else
          (rng (v9 + 1)).bind fun i33 =>
          (fun (a62 : Int) => F17_L8 n p1 m8 a62) i33
      else
        some 8
    else
      F17_L39 n p1 n 0
def F17 (n : Nat) (p1 : List GFile) : Option (Int) :=
  if (decide ((p1.length : Int) > 12)) = true then
    some 4
  else
    F17_L8 n p1 n 0
/-- siding/tree.twin -/
def F41_L6 (p1 : List GFile) : Nat → (List GFile) → Int → Option ((List GFile))
  | 0, _, _ => none
  | m6 + 1, v7, v8 =>
    if (decide (v8 < (p1.length : Int))) = true then
      (ix p1 v8).bind fun x16 =>
      (lmt x16.text_).bind fun r18 =>
      (need (v7.length + 1 ≤ lim)).bind fun _ =>
      (rng (v8 + 1)).bind fun i22 =>
      (fun (a26 : List GFile) (a27 : Int) => F41_L6 p1 m6 a26 a27) (v7 ++ ([(⟨x16.path_, r18⟩ : GFile)] : List GFile)) i22
    else
      some v7
def F41 (n : Nat) (p1 : List GFile) : Option ((List GFile)) :=
  F41_L6 p1 n ([] : List GFile) 0
/-- internal/bytealg.CompareString -/
def F119 (n : Nat) (p1 : List UInt8) (p2 : List UInt8) : Option (Int) :=
  some (Lib.compareBytes p1 p2)
/-- strings.Compare -/
def F77 (n : Nat) (p1 : List UInt8) (p2 : List UInt8) : Option (Int) :=
  (F119 n p1 p2).bind fun r3 =>
  some r3
/-- siding/tree.find$1 -/
def F76 (n : Nat) (p1 : List UInt8) (p2 : List UInt8) (p3 : List UInt8) : Option (Int) :=
  (F77 n p1 p3).bind fun r3 =>
  some r3
/-- slices.BinarySearchFunc[[]siding/api.File,siding/api.File,string] -/
def F75_L6 (n : Nat) (p1 : List GFile) (p2 : List UInt8) : Nat → Int → Int → Option (Int × Bool)
  | 0, _, _ => none
  | m6 + 1, v7, v8 =>
    if (decide (v7 < v8)) = true then
      (rng (v7 + v8)).bind fun i15 =>
      (need (IntKind.u64.wrap i15 = i15)).bind fun _ =>
      (need (IntKind.i64.wrap (i15.fdiv 2) = (i15.fdiv 2))).bind fun _ =>
      (ix p1 (i15.fdiv 2)).bind fun x20 =>
      (F76 n x20.path_ x20.text_ p2).bind fun r22 =>
      if (decide (r22 < 0)) = true then
        (rng ((i15.fdiv 2) + 1)).bind fun i25 =>
        (fun (a36 : Int) (a37 : Int) => F75_L6 n p1 p2 m6 a36 a37) i25 v8
      else
        (fun (a36 : Int) (a37 : Int) => F75_L6 n p1 p2 m6 a36 a37) v7 (i15.fdiv 2)
    else
      if (decide (v7 < (p1.length : Int))) = true then
        (ix p1 v7).bind fun x30 =>
        (F76 n x30.path_ x30.text_ p2).bind fun r32 =>
        some (v7, (r32 == 0))
      else
        some (v7, false)
def F75 (n : Nat) (p1 : List GFile) (p2 : List UInt8) : Option (Int × Bool) :=
  F75_L6 n p1 p2 n 0 (p1.length : Int)
/-- siding/tree.find -/
def F42 (n : Nat) (p1 : List GFile) (p2 : List UInt8) : Option (Int × Bool) :=
  (F75 n p1 p2).bind fun r3 =>
  some (r3.1, r3.2)
/-- siding/tree.put -/
def F40 (n : Nat) (p1 : List GFile) (p2 : List UInt8) (p3 : List UInt8) : Option ((List GFile)) :=
  (F42 n p1 p2).bind fun r3 =>
  (lmt p3).bind fun r7 =>
  if r3.2 = true then
    (ix p1 r3.1).bind fun x13 =>
    some (p1.set r3.1.toNat (⟨p2, r7⟩ : GFile))
  else
    (insI p1 r3.1 ([(⟨p2, r7⟩ : GFile)] : List GFile)).bind fun r17 =>
    some r17
/-- siding/tree.Put -/
def F9 (n : Nat) (p1 : List GFile) (p2 : List UInt8) (p3 : List UInt8) : Option ((List GFile) × Int) :=
  (F17 n p1).bind fun r4 =>
  if (r4 != 0) = true then
    some (([] : List GFile), r4)
  else
    (F38 n p2).bind fun r11 =>
    if (!r11) = true then
      some (([] : List GFile), 8)
    else
      (F39 n p3).bind fun r17 =>
      if (r17 != 0) = true then
        some (([] : List GFile), r17)
      else
        (F41 n p1).bind fun r23 =>
        (F40 n r23 p2 p3).bind fun r26 =>
        if (decide ((r26.length : Int) > 12)) = true then
          some (([] : List GFile), 4)
        else
          some (r26, 0)
/-- siding/sidingref21.Has -/
def F10_L5 (p1 : List GFile) (p2 : List UInt8) : Nat → Int → Option ((List UInt8) × Bool)
  | 0, _ => none
  | m5 + 1, v6 =>
    if (decide (v6 < (p1.length : Int))) = true then
      (ix p1 v6).bind fun x13 =>
      if (x13.path_ == p2) = true then
        some (x13.text_, true)
      else
        (rng (v6 + 1)).bind fun i16 =>
        (fun (a21 : Int) => F10_L5 p1 p2 m5 a21) i16
    else
      some (([] : List UInt8), false)
def F10 (n : Nat) (p1 : List GFile) (p2 : List UInt8) : Option ((List UInt8) × Bool) :=
  F10_L5 p1 p2 n 0
/-- siding/tree.Get -/
def F11 (n : Nat) (p1 : List GFile) (p2 : List UInt8) : Option ((List UInt8) × Int) :=
  (F17 n p1).bind fun r4 =>
  if (r4 != 0) = true then
    some (([] : List UInt8), r4)
  else
    (F42 n p1 p2).bind fun r10 =>
    if (!r10.2) = true then
      some (([] : List UInt8), 6)
    else
      (ix p1 r10.1).bind fun x17 =>
      (lmt x17.text_).bind fun r19 =>
      some (r19, 0)
/-- siding/sidingref13.SameBytes -/
def F12 (n : Nat) (p1 : List UInt8) (p2 : List UInt8) : Option (Bool) :=
  some (p1 == p2)
/-- siding/tree.Drop -/
def F14 (n : Nat) (p1 : List GFile) (p2 : List UInt8) : Option ((List GFile) × Int) :=
  (F17 n p1).bind fun r4 =>
  if (r4 != 0) = true then
    some (([] : List GFile), r4)
  else
    (F42 n p1 p2).bind fun r10 =>
    if (!r10.2) = true then
      some (([] : List GFile), 6)
    else
      (F41 n p1).bind fun r17 =>
      (rng (r10.1 + 1)).bind fun i20 =>
      (delI r17 r10.1 i20).bind fun r22 =>
      some (r22, 0)
/-- siding/sidingref21.Same -/
def F15_L8 (p1 : List GFile) (p2 : List GFile) : Nat → Int → Option (Bool)
  | 0, _ => none
  | m8 + 1, v9 =>
    if (decide (v9 < (p1.length : Int))) = true then
      (ix p1 v9).bind fun x16 =>
      (ix p2 v9).bind fun x18 =>
      if (!(x16.path_ == x18.path_)) = true then
        some false
      else
        if (!(x16.text_ == x18.text_)) = true then
          some false
        else
          (rng (v9 + 1)).bind fun i24 =>
          (fun (a29 : Int) => F15_L8 p1 p2 m8 a29) i24
    else
      some true
def F15 (n : Nat) (p1 : List GFile) (p2 : List GFile) : Option (Bool) :=
  if ((p1.length : Int) != (p2.length : Int)) = true then
    some false
  else
    F15_L8 p1 p2 n 0
/-- siding/sidinglaw21.TreePuts -/
def F3_J40 (n : Nat) (p1 : List GFile) (p2 : List UInt8) (r13 : (List GFile) × Int) (r17 : (List UInt8) × Bool) : Option (Bool) :=
  (F14 n r13.1 p2).bind fun r42 =>
  (F14 n p1 p2).bind fun r46 =>
  if ((r42.2 != 0) || (!(r17.2 == (r46.2 == 0)))) = true then
    some false
  else
    if r17.2 = true then
      (F15 n r42.1 r46.1).bind fun r54 =>
      if r54 = true then
        if ((r13.1.length : Int) == (p1.length : Int)) = true then
          some true
        else
          some false
      else
        some false
    else
      (F15 n r42.1 p1).bind fun r59 =>
      if r59 = true then
        (rng ((p1.length : Int) + 1)).bind fun i63 =>
        some ((r13.1.length : Int) == i63)
      else
        some false
def F3 (n : Nat) (p1 : List GFile) (p2 : List UInt8) (p3 : List UInt8) (p4 : List UInt8) : Option (Bool) :=
  (F8 n p1 ([] : List GFile)).bind fun r8 =>
  if ((((!r8) || (decide ((p2.length : Int) > 200))) || (decide ((p3.length : Int) > 200))) || (decide ((p4.length : Int) > 3000))) = true then
    some true
  else
    (F9 n p1 p2 p4).bind fun r13 =>
    (F10 n p1 p2).bind fun r17 =>
    if (r13.2 != 0) = true then
      some (((r13.1.length : Int) == 0) && ((r13.2 == 8) || (r13.2 == 4)))
    else
      (F11 n r13.1 p2).bind fun r24 =>
      if (r24.2 != 0) = true then
        some false
      else
        (F12 n r24.1 p4).bind fun r31 =>
        if (!r31) = true then
          some false
        else
          (F13 n r13.1).bind fun r36 =>
          if (r36 != 0) = true then
            some false
          else
            if (!(p3 == p2)) = true then
              (F11 n p1 p3).bind fun r68 =>
              (F11 n r13.1 p3).bind fun r72 =>
              if (r68.2 != r72.2) = true then
                some false
              else
                (F12 n r68.1 r72.1).bind fun r78 =>
                if (!r78) = true then
                  some false
                else
                  F3_J40 n p1 p2 r13 r17
            else
              F3_J40 n p1 p2 r13 r17
end Go.Proofs.YtdddbifjkkhpbaaGreatDoor.G
