/- Plain functions, printed from the program's functions. No condition. -/
import Derived.Test.YtedbfdlgiilapaaGreatDoorZvL7
import Derived.Test.YtedbfdlgiilapaaGreatDoorZvLx
import Derived.Test.YtedbfdlgiilapaaGreatDoorZvLt
import Derived.Test.YtedbfdlgiilapaaGreatDoorGlobL
set_option linter.unusedSimpArgs false
set_option linter.unusedVariables false
namespace Go.Zv.G
open Go Go.Zv
set_option maxRecDepth 100000
set_option linter.unusedVariables false
def letG (c:Nat):Bool:=!(Nat.ble 97 c&&Nat.ble c 122||Nat.ble 65 c&&Nat.ble c 90||Nat.ble 48 c&&Nat.ble c 57||Nat.beq c 45||Nat.beq c 95||Nat.beq c 46)
def joinI (l:List (List UInt8)) (sep:List UInt8):Option (List UInt8):=if l.length≤lim∧(joinL l sep).length≤lim then some (joinL l sep) else none
def sortSI (l:List (List UInt8)):Option (List (List UInt8)):=if l.length≤lim then some (isortS l) else none
def uniqSI (l:List (List UInt8)):Option (List (List UInt8)):=if l.length≤lim then some (uniqS l) else none
def growG {α:Type} (l:List α) (n:Int):Option (List α):=if l.length=0∧0≤n∧n≤(lim:Int) then some [] else none
def repI (l:List Int) (n:Int):Option (List Int):=if l.length=1∧0≤n∧n≤(lim:Int) then some (List.replicate n.toNat (l.getD 0 0)) else none
structure GFile where
 path_:List UInt8
 text_:List UInt8
structure GTrouble where
 path_:List UInt8
 kind_:Int
structure GHunk where
 at_:Int
 old_:List (List UInt8)
 new_:List (List UInt8)
structure GPatch where
 path_:List UInt8
 was_:Bool
 stays_:Bool
 hunks_:List GHunk
structure GPiece where
 kind_:Int
 base_:List (List UInt8)
 ours_:List (List UInt8)
 theirs_:List (List UInt8)
structure GMatch where
 i_:Int
 k_:Int
def eGF (x:GFile):List V:=[.str x.path_,.sl 1 false (x.text_.map encB)]
def eGH (x:GHunk):List V:=[.int .i64 x.at_,.sl 1 false (x.old_.map encS),.sl 1 false (x.new_.map encS)]
def eGP (x:GPatch):List V:=[.str x.path_,.bool x.was_,.bool x.stays_,.sl 3 false (x.hunks_.map eGH)]
def encL_List_GFile (x:List GFile):List V:=[.sl 2 false (x.map eGF)]
def encO_encI:Option (List Int)→List V
 | none=>[.nilsl]
 | some l=>[.own false 1 (l.map encI)]
theorem tail_encO_encI (x:Option (List Int)):(encO_encI x).tail=[]:=by cases x <;> rfl
def encOs_encI:Option (List Int)→List V
 | none=>[.nilsl]
 | some l=>[.sl 1 false (l.map encI)]
theorem froz_encO_encI (k:Nat) (l:List (Option (List Int))):froz 3 (.own true k (l.map encO_encI))=.sl k false (l.map encOs_encI):=by
 simp only[froz,cond_true,V.sl.injEq,true_and,List.map_map]
 refine List.map_congr_left fun x _=>?_
 cases x <;> rfl
def encGMatch (x:GMatch):List V:=[.int .i64 x.i_,.int .i64 x.k_]
def encGPiece (x:GPiece):List V:=[.int .u8 x.kind_,.sl 1 false (x.base_.map encS),.sl 1 false (x.ours_.map encS),.sl 1 false (x.theirs_.map encS)]
def encGTrouble (x:GTrouble):List V:=[.str x.path_,.int .u8 x.kind_]
def f_sidinglaw22_file (n:Nat) (p1:List UInt8) (p2:List UInt8):Option ((List UInt8)×(List UInt8)) :=
 some (p1,p2)
def f_norm_Check_1 (n:Nat) (p1:List UInt8) (p2:Bool) (p3:Bool) (p4:List GHunk) (p5:List UInt8) (p6:Bool) (p7:Bool) (p8:List GHunk):Option (Bool) :=
 some (p1==p5)
def f_slices_IndexFunc_Patch_by_norm_Check_1_L5 (n:Nat) (p1:List GPatch) (p2:List UInt8) (p3:Bool) (p4:Bool) (p5:List GHunk):Nat→Int→Option (Int)
 | 0,_=>none
 | m5+1,v6 =>
  if (decide (v6<(p1.length:Int)))=true then
   (ix p1 v6).bind fun x14 =>
   (f_norm_Check_1 n x14.path_ x14.was_ x14.stays_ x14.hunks_ p2 p3 p4 p5).bind fun r16 =>
   if r16=true then
    some v6
   else
    (rng (v6+1)).bind fun i20 =>
    (fun (a25:Int)=>f_slices_IndexFunc_Patch_by_norm_Check_1_L5 n p1 p2 p3 p4 p5 m5 a25) i20
  else
   some (-1)
def f_slices_IndexFunc_Patch_by_norm_Check_1 (n:Nat) (p1:List GPatch) (p2:List UInt8) (p3:Bool) (p4:Bool) (p5:List GHunk):Option (Int) :=
 f_slices_IndexFunc_Patch_by_norm_Check_1_L5 n p1 p2 p3 p4 p5 n 0
def f_slices_ContainsFunc_Patch_by_norm_Check_1 (n:Nat) (p1:List GPatch) (p2:List UInt8) (p3:Bool) (p4:Bool) (p5:List GHunk):Option (Bool) :=
 (f_slices_IndexFunc_Patch_by_norm_Check_1 n p1 p2 p3 p4 p5).bind fun r3 =>
 some (decide (r3≥0))
def f_stringslite_IndexByte (n:Nat) (p1:List UInt8) (p2:Int):Option (Int) :=
 some (idx8 p2.toNat.toUInt8 p1 0)
def f_stringslite_Index (n:Nat) (p1:List UInt8) (p2:List UInt8):Option (Int) :=
 if (((p2.length:Int)==0)||(p2==p1))=true then
  some 0
 else
  if ((p2.length:Int)==1)=true then
   (ix p2 0).bind fun x9 =>
   (f_stringslite_IndexByte n p1 (x9.toNat:Int)).bind fun r11 =>
   some r11
  else
   if (decide ((p2.length:Int)≥(p1.length:Int)))=true then
    some (-1)
   else
    none
def f_strings_Index (n:Nat) (p1:List UInt8) (p2:List UInt8):Option (Int) :=
 (f_stringslite_Index n p1 p2).bind fun r3 =>
 some r3
def f_strings_Count_L15 (n:Nat) (p2:List UInt8):Nat→(List UInt8)→Int→Option (Int)
 | 0,_,_=>none
 | m15+1,v16,v17 =>
  (f_strings_Index n v16 p2).bind fun r22 =>
  if (r22==(-1))=true then
   some v17
  else
   (rng (v17+1)).bind fun i29 =>
   (rng (r22+(p2.length:Int))).bind fun i31 =>
   (cutI v16 i31 (v16.length:Int)).bind fun l33 =>
   (fun (a36:List UInt8) (a37:Int)=>f_strings_Count_L15 n p2 m15 a36 a37) l33 i29
def f_strings_Count (n:Nat) (p1:List UInt8) (p2:List UInt8):Option (Int) :=
 if ((p2.length:Int)==0)=true then
  none
 else
  if ((p2.length:Int)==1)=true then
   (ix p2 0).bind fun x8 =>
   some (cnt8 (x8.toNat:Int).toNat.toUInt8 p1:Nat)
  else
   f_strings_Count_L15 n p2 n p1 0
def f_strings_genSplit_J19 (v20:List UInt8) (v21:List (List UInt8)) (v22:Int):Option ((List (List UInt8))) :=
 (ix v21 v22).bind fun x24 =>
 (rng (v22+1)).bind fun i27 =>
 (cutI (v21.set v22.toNat v20) 0 i27).bind fun l29 =>
 some l29
def f_strings_genSplit_L32 (n:Nat) (p2:List UInt8) (p3:Int) (i16:Int):Nat→(List UInt8)→(List (List UInt8))→Int→Option ((List (List UInt8)))
 | 0,_,_,_=>none
 | m32+1,v33,v34,v35 =>
  if (decide (v35<i16))=true then
   (f_strings_Index n v33 p2).bind fun r43 =>
   if (decide (r43<0))=true then
    f_strings_genSplit_J19 v33 v34 v35
   else
    (rng (r43+p3)).bind fun i49 =>
    (cutI v33 0 i49).bind fun l51 =>
    (ix v34 v35).bind fun x53 =>
    (rng (r43+(p2.length:Int))).bind fun i56 =>
    (cutI v33 i56 (v33.length:Int)).bind fun l58 =>
    (rng (v35+1)).bind fun i60 =>
    (fun (a64:List UInt8) (a65:List (List UInt8)) (a66:Int)=>f_strings_genSplit_L32 n p2 p3 i16 m32 a64 a65 a66) l58 (v34.set v35.toNat l51) i60
  else
   f_strings_genSplit_J19 v33 v34 v35
def f_strings_genSplit_J8 (n:Nat) (p1:List UInt8) (p2:List UInt8) (p3:Int) (v9:Int):Option ((List (List UInt8))) :=
 (rng ((p1.length:Int)+1)).bind fun i11 =>
 (need (0≤(if i11<v9 then i11 else v9)∧(if i11<v9 then i11 else v9)≤(if i11<v9 then i11 else v9)∧(if i11<v9 then i11 else v9)≤(lim:Int))).bind fun _ =>
 (rng ((if i11<v9 then i11 else v9)-1)).bind fun i16 =>
 f_strings_genSplit_L32 n p2 p3 i16 n p1 (List.replicate (if i11<v9 then i11 else v9).toNat ([]:List UInt8)) 0
def f_strings_genSplit (n:Nat) (p1:List UInt8) (p2:List UInt8) (p3:Int) (p4:Int):Option ((List (List UInt8))) :=
 if (p4==0)=true then
  some ([]:List (List UInt8))
 else
  if (p2==([]:List UInt8))=true then
   none
  else
   if (decide (p4<0))=true then
    (f_strings_Count n p1 p2).bind fun r68 =>
    (rng (r68+1)).bind fun i71 =>
    f_strings_genSplit_J8 n p1 p2 p3 i71
   else
    f_strings_genSplit_J8 n p1 p2 p3 p4
def f_strings_Split (n:Nat) (p1:List UInt8) (p2:List UInt8):Option ((List (List UInt8))) :=
 (f_strings_genSplit n p1 p2 0 (-1)).bind fun r3 =>
 some r3
def f_norm_path_1 (n:Nat) (p1:List UInt8):Option (Bool) :=
 if (((p1==([]:List UInt8))||(p1==([46]:List UInt8)))||(p1==([46,46]:List UInt8)))=true then
  some true
 else
  some (p1.any fun b=>letG b.toNat)
def f_slices_IndexFunc_string_by_norm_path_1_L5 (n:Nat) (p1:List (List UInt8)):Nat→Int→Option (Int)
 | 0,_=>none
 | m5+1,v6 =>
  if (decide (v6<(p1.length:Int)))=true then
   (ix p1 v6).bind fun x14 =>
   (f_norm_path_1 n x14).bind fun r16 =>
   if r16=true then
    some v6
   else
    (rng (v6+1)).bind fun i20 =>
    (fun (a25:Int)=>f_slices_IndexFunc_string_by_norm_path_1_L5 n p1 m5 a25) i20
  else
   some (-1)
def f_slices_IndexFunc_string_by_norm_path_1 (n:Nat) (p1:List (List UInt8)):Option (Int) :=
 f_slices_IndexFunc_string_by_norm_path_1_L5 n p1 n 0
def f_slices_ContainsFunc_string_by_norm_path_1 (n:Nat) (p1:List (List UInt8)):Option (Bool) :=
 (f_slices_IndexFunc_string_by_norm_path_1 n p1).bind fun r3 =>
 some (decide (r3≥0))
def f_norm_path (n:Nat) (p1:List UInt8):Option (Bool) :=
 if (((p1.length:Int)==0)||(decide ((p1.length:Int)>60)))=true then
  some false
 else
  (f_strings_Split n p1 ([47]:List UInt8)).bind fun r6 =>
  (f_slices_ContainsFunc_string_by_norm_path_1 n r6).bind fun r9 =>
  some (!r9)
def f_strings_IndexByte (n:Nat) (p1:List UInt8) (p2:Int):Option (Int) :=
 (f_stringslite_IndexByte n p1 p2).bind fun r3 =>
 some r3
def f_hunk_plain_1 (n:Nat) (p1:List UInt8):Option (Bool) :=
 if (decide ((p1.length:Int)>2000))=true then
  some true
 else
  (f_strings_IndexByte n p1 10).bind fun r4 =>
  some (decide (r4≥0))
def f_slices_IndexFunc_string_by_hunk_plain_1_L5 (n:Nat) (p1:List (List UInt8)):Nat→Int→Option (Int)
 | 0,_=>none
 | m5+1,v6 =>
  if (decide (v6<(p1.length:Int)))=true then
   (ix p1 v6).bind fun x14 =>
   (f_hunk_plain_1 n x14).bind fun r16 =>
   if r16=true then
    some v6
   else
    (rng (v6+1)).bind fun i20 =>
    (fun (a25:Int)=>f_slices_IndexFunc_string_by_hunk_plain_1_L5 n p1 m5 a25) i20
  else
   some (-1)
def f_slices_IndexFunc_string_by_hunk_plain_1 (n:Nat) (p1:List (List UInt8)):Option (Int) :=
 f_slices_IndexFunc_string_by_hunk_plain_1_L5 n p1 n 0
def f_slices_ContainsFunc_string_by_hunk_plain_1 (n:Nat) (p1:List (List UInt8)):Option (Bool) :=
 (f_slices_IndexFunc_string_by_hunk_plain_1 n p1).bind fun r3 =>
 some (decide (r3≥0))
def f_hunk_plain (n:Nat) (p1:List (List UInt8)):Option (Bool) :=
 if (decide ((p1.length:Int)≤60))=true then
  (f_slices_ContainsFunc_string_by_hunk_plain_1 n p1).bind fun r4 =>
  some (!r4)
 else
  some false
def f_hunk_valid (n:Nat) (p1:Int) (p2:List (List UInt8)) (p3:List (List UInt8)):Option (Bool) :=
 if (decide (p1≥0))=true then
  if (decide (p1≤60))=true then
   (f_hunk_plain n p2).bind fun r5 =>
   if r5=true then
    (f_hunk_plain n p3).bind fun r9 =>
    if r9=true then
     (rng ((p2.length:Int)+(p3.length:Int))).bind fun i13 =>
     some (decide (i13>0))
    else
     some false
   else
    some false
  else
   some false
 else
  some false
def f_hunk_Check_L9 (n:Nat) (p1:List GHunk):Nat→Int→Int→Option (Int)
 | 0,_,_=>none
 | m9+1,v10,v11 =>
  if (decide (v11<(p1.length:Int)))=true then
   (ix p1 v11).bind fun x19 =>
   (f_hunk_valid n x19.at_ x19.old_ x19.new_).bind fun r23 =>
   if (!r23)=true then
    some 8
   else
    if (decide (x19.at_<v10))=true then
     some 8
    else
     (rng (x19.at_+(x19.old_.length:Int))).bind fun i29 =>
     (rng (i29+1)).bind fun i31 =>
     (rng (v11+1)).bind fun i33 =>
     (fun (a38:Int) (a39:Int)=>f_hunk_Check_L9 n p1 m9 a38 a39) i31 i33
  else
   some 0
def f_hunk_Check (n:Nat) (p1:List GHunk):Option (Int) :=
 if (decide ((p1.length:Int)>40))=true then
  some 4
 else
  f_hunk_Check_L9 n p1 n 0 0
def f_norm_valid_J3 (p2:Bool) (p3:Bool) (p4:List GHunk):Option (Bool) :=
 if ((p4.length:Int) != 1)=true then
  some false
 else
  (ix p4 0).bind fun x8 =>
  if (x8.at_ != 0)=true then
   some false
  else
   if p2=true then
    if p3=true then
     some true
    else
     some ((x8.new_.length:Int)==0)
   else
    if ((x8.old_.length:Int)==0)=true then
     if p3=true then
      some true
     else
      some ((x8.new_.length:Int)==0)
    else
     some false
def f_norm_valid_J2 (p2:Bool) (p3:Bool) (p4:List GHunk):Option (Bool) :=
 if p2=true then
  if p3=true then
   some true
  else
   f_norm_valid_J3 p2 p3 p4
 else
  f_norm_valid_J3 p2 p3 p4
def f_norm_valid (n:Nat) (p1:List UInt8) (p2:Bool) (p3:Bool) (p4:List GHunk):Option (Bool) :=
 (f_norm_path n p1).bind fun r23 =>
 if (!r23)=true then
  some false
 else
  if (!p2)=true then
   if (!p3)=true then
    some false
   else
    (f_hunk_Check n p4).bind fun r31 =>
    if (r31 != 0)=true then
     some false
    else
     f_norm_valid_J2 p2 p3 p4
  else
   (f_hunk_Check n p4).bind fun r36 =>
   if (r36 != 0)=true then
    some false
   else
    f_norm_valid_J2 p2 p3 p4
def f_norm_Check_2 (n:Nat) (p1:List UInt8) (p2:Bool) (p3:Bool) (p4:List GHunk):Option (Bool) :=
 (f_norm_valid n p1 p2 p3 p4).bind fun r3 =>
 some (!r3)
def f_slices_IndexFunc_Patch_by_norm_Check_2_L5 (n:Nat) (p1:List GPatch):Nat→Int→Option (Int)
 | 0,_=>none
 | m5+1,v6 =>
  if (decide (v6<(p1.length:Int)))=true then
   (ix p1 v6).bind fun x14 =>
   (f_norm_Check_2 n x14.path_ x14.was_ x14.stays_ x14.hunks_).bind fun r16 =>
   if r16=true then
    some v6
   else
    (rng (v6+1)).bind fun i20 =>
    (fun (a25:Int)=>f_slices_IndexFunc_Patch_by_norm_Check_2_L5 n p1 m5 a25) i20
  else
   some (-1)
def f_slices_IndexFunc_Patch_by_norm_Check_2 (n:Nat) (p1:List GPatch):Option (Int) :=
 f_slices_IndexFunc_Patch_by_norm_Check_2_L5 n p1 n 0
def f_slices_ContainsFunc_Patch_by_norm_Check_2 (n:Nat) (p1:List GPatch):Option (Bool) :=
 (f_slices_IndexFunc_Patch_by_norm_Check_2 n p1).bind fun r3 =>
 some (decide (r3≥0))
def f_norm_Check_L8 (n:Nat) (p1:List GPatch):Nat→Int→Option (Int)
 | 0,_=>none
 | m8+1,v9 =>
  if (decide (v9<(p1.length:Int)))=true then
   (ix p1 v9).bind fun x16 =>
   (cutI p1 0 v9).bind fun l19 =>
   (f_slices_ContainsFunc_Patch_by_norm_Check_1 n l19 x16.path_ x16.was_ x16.stays_ x16.hunks_).bind fun r21 =>
   if r21=true then
    some 14
   else
    (rng (v9+1)).bind fun i25 =>
    (fun (a37:Int)=>f_norm_Check_L8 n p1 m8 a37) i25
  else
   (f_slices_ContainsFunc_Patch_by_norm_Check_2 n p1).bind fun r30 =>
   if r30=true then
    some 8
   else
    some 0
def f_norm_Check (n:Nat) (p1:List GPatch):Option (Int) :=
 if (decide ((p1.length:Int)>24))=true then
  some 4
 else
  f_norm_Check_L8 n p1 n 0
def f_tree_path (n:Nat) (p1:List UInt8):Option (Bool) :=
 (f_norm_Check n ([(⟨p1,true,true,([]:List GHunk)⟩:GPatch)]:List GPatch)).bind fun r3 =>
 some (r3==0)
def f_utf8_RuneCount_L6 (p1:List UInt8):Nat→Int→Option (Int)
 | 0,_=>none
 | m6+1,v7 =>
  if (decide (v7<(p1.length:Int)))=true then
   (ix p1 v7).bind fun x14 =>
   if (decide ((x14.toNat:Int)≥128))=true then
    (cutI p1 v7 (p1.length:Int)).bind fun l18 =>
    none
   else
    (rng (v7+1)).bind fun i20 =>
    (fun (a25:Int)=>f_utf8_RuneCount_L6 p1 m6 a25) i20
  else
   some v7
def f_utf8_RuneCount (n:Nat) (p1:List UInt8):Option (Int) :=
 f_utf8_RuneCount_L6 p1 n 0
def f_bytes_Equal (n:Nat) (p1:List UInt8) (p2:List UInt8):Option (Bool) :=
 some (p1==p2)
def f_bytes_Index (n:Nat) (p1:List UInt8) (p2:List UInt8):Option (Int) :=
 if ((p2.length:Int)==0)=true then
  some 0
 else
  if ((p2.length:Int)==1)=true then
   (ix p2 0).bind fun x9 =>
   none
  else
   if ((p2.length:Int)==(p1.length:Int))=true then
    (f_bytes_Equal n p2 p1).bind fun r14 =>
    if r14=true then
     some 0
    else
     some (-1)
   else
    if (decide ((p2.length:Int)>(p1.length:Int)))=true then
     some (-1)
    else
     none
def f_bytes_Count_L20 (n:Nat) (p2:List UInt8):Nat→(List UInt8)→Int→Option (Int)
 | 0,_,_=>none
 | m20+1,v21,v23 =>
  (f_bytes_Index n v21 p2).bind fun r29 =>
  if (r29==(-1))=true then
   some v23
  else
   (rng (v23+1)).bind fun i36 =>
   (rng (r29+(p2.length:Int))).bind fun i38 =>
   (cutI v21 i38 (v21.length:Int)).bind fun l40 =>
   (fun (a43:List UInt8) (a44:Int)=>f_bytes_Count_L20 n p2 m20 a43 a44) l40 i36
def f_bytes_Count (n:Nat) (p1:List UInt8) (p2:List UInt8):Option (Int) :=
 if ((p2.length:Int)==0)=true then
  (f_utf8_RuneCount n p1).bind fun r5 =>
  (rng (r5+1)).bind fun i8 =>
  some i8
 else
  if ((p2.length:Int)==1)=true then
   (ix p2 0).bind fun x13 =>
   some (cnt8 (x13.toNat:Int).toNat.toUInt8 p1:Nat)
  else
   f_bytes_Count_L20 n p2 n p1 0
def f_lines_Check (n:Nat) (p1:List UInt8):Option (Int) :=
 if (decide ((p1.length:Int)>2000))=true then
  some 4
 else
  (f_bytes_Count n p1 ([(10:UInt8)]:List UInt8)).bind fun r6 =>
  if (decide (r6≥60))=true then
   some 4
  else
   some 0
def f_tree_Check_L39 (n:Nat) (p1:List GFile):Nat→Int→Option (Int)
 | 0,_=>none
 | m39+1,v40 =>
  if (decide (v40<(p1.length:Int)))=true then
   (ix p1 v40).bind fun x47 =>
   (f_lines_Check n x47.text_).bind fun r50 =>
   if (r50 != 0)=true then
    some r50
   else
    (rng (v40+1)).bind fun i55 =>
    (fun (a60:Int)=>f_tree_Check_L39 n p1 m39 a60) i55
  else
   some 0
def f_tree_Check_L8 (n:Nat) (p1:List GFile):Nat→Int→Option (Int)
 | 0,_=>none
 | m8+1,v9 =>
  if (decide (v9<(p1.length:Int)))=true then
   (ix p1 v9).bind fun x16 =>
   (f_tree_path n x16.path_).bind fun r19 =>
   if r19=true then
    if (decide (v9>0))=true then
     (rng (v9-1)).bind fun i25 =>
     (ix p1 i25).bind fun x27 =>
     if (!Op.bytesLess x27.path_ x16.path_)=true then
      some 8
     else
      (rng (v9+1)).bind fun i30 =>
      (fun (a62:Int)=>f_tree_Check_L8 n p1 m8 a62) i30
    else
     (rng (v9+1)).bind fun i33 =>
     (fun (a62:Int)=>f_tree_Check_L8 n p1 m8 a62) i33
   else
    some 8
  else
   f_tree_Check_L39 n p1 n 0
def f_tree_Check (n:Nat) (p1:List GFile):Option (Int) :=
 if (decide ((p1.length:Int)>12))=true then
  some 4
 else
  f_tree_Check_L8 n p1 n 0
def f_treemerge_check (n:Nat) (p1:List GFile) (p2:List GFile) (p3:List GFile):Option (Int) :=
 (need (3<n)).bind fun _ =>
 (f_tree_Check n p1).bind fun r13 =>
 if (r13 != 0)=true then
  some r13
 else
  (f_tree_Check n p2).bind fun r25 =>
  if (r25 != 0)=true then
   some r25
  else
   (f_tree_Check n p3).bind fun r37 =>
   if (r37 != 0)=true then
    some r37
   else
    some 0
def f_slices_Concat_File_L32 (p1:List (List GFile)):Nat→(List GFile)→Int→Option ((List GFile))
 | 0,_,_=>none
 | m32+1,v33,v34 =>
  if (decide (v34<(p1.length:Int)))=true then
   (ix p1 v34).bind fun x42 =>
   (need (v33.length+x42.length≤lim)).bind fun _ =>
   (rng (v34+1)).bind fun i45 =>
   (fun (a49:List GFile) (a50:Int)=>f_slices_Concat_File_L32 p1 m32 a49 a50) (v33++x42) i45
  else
   some v33
def f_slices_Concat_File_L6 (n:Nat) (p1:List (List GFile)):Nat→Int→Int→Option ((List GFile))
 | 0,_,_=>none
 | m6+1,v7,v8 =>
  if (decide (v8<(p1.length:Int)))=true then
   (ix p1 v8).bind fun x16 =>
   (rng (v7+(x16.length:Int))).bind fun i19 =>
   if (decide (i19<0))=true then
    none
   else
    (rng (v8+1)).bind fun i22 =>
    (fun (a52:Int) (a53:Int)=>f_slices_Concat_File_L6 n p1 m6 a52 a53) i19 i22
  else
   (growG ([]:List GFile) v7).bind fun r26 =>
   f_slices_Concat_File_L32 p1 n r26 0
def f_slices_Concat_File (n:Nat) (p1:List (List GFile)):Option ((List GFile)) :=
 f_slices_Concat_File_L6 n p1 n 0 0
def f_treemerge_paths_L9 (r5:(List GFile)):Nat→(List (List UInt8))→Int→Option ((List (List UInt8)))
 | 0,_,_=>none
 | m9+1,v10,v11 =>
  if (decide (v11<(r5.length:Int)))=true then
   (ix r5 v11).bind fun x19 =>
   (need (v10.length+1≤lim)).bind fun _ =>
   (rng (v11+1)).bind fun i22 =>
   (fun (a33:List (List UInt8)) (a34:Int)=>f_treemerge_paths_L9 r5 m9 a33 a34) (v10++([x19.path_]:List (List UInt8))) i22
  else
   (sortSI v10).bind fun r25 =>
   (uniqSI r25).bind fun r29 =>
   some r29
def f_treemerge_paths (n:Nat) (p1:List GFile) (p2:List GFile) (p3:List GFile):Option ((List (List UInt8))) :=
 (f_slices_Concat_File n ([p1,p2,p3]:List (List GFile))).bind fun r5 =>
 f_treemerge_paths_L9 r5 n ([]:List (List UInt8)) 0
def f_treemerge_of_1 (n:Nat) (p1:List UInt8) (p2:List UInt8) (p3:List UInt8):Option (Bool) :=
 some (p1==p3)
def f_slices_IndexFunc_File_by_treemerge_of_1_L5 (n:Nat) (p1:List GFile) (p2:List UInt8):Nat→Int→Option (Int)
 | 0,_=>none
 | m5+1,v6 =>
  if (decide (v6<(p1.length:Int)))=true then
   (ix p1 v6).bind fun x14 =>
   (f_treemerge_of_1 n x14.path_ x14.text_ p2).bind fun r16 =>
   if r16=true then
    some v6
   else
    (rng (v6+1)).bind fun i20 =>
    (fun (a25:Int)=>f_slices_IndexFunc_File_by_treemerge_of_1_L5 n p1 p2 m5 a25) i20
  else
   some (-1)
def f_slices_IndexFunc_File_by_treemerge_of_1 (n:Nat) (p1:List GFile) (p2:List UInt8):Option (Int) :=
 f_slices_IndexFunc_File_by_treemerge_of_1_L5 n p1 p2 n 0
def f_treemerge_of (n:Nat) (p1:List GFile) (p2:List UInt8):Option (Bool×(List UInt8)) :=
 (f_slices_IndexFunc_File_by_treemerge_of_1 n p1 p2).bind fun r3 =>
 if (decide (r3<0))=true then
  some (false,([]:List UInt8))
 else
  (ix p1 r3).bind fun x10 =>
  some (true,x10.text_)
def f_treemerge_of_b (n:Nat) (p1:List GFile) (p2:List UInt8):Option (Bool×(List UInt8)×(List GFile)) :=
 (f_slices_IndexFunc_File_by_treemerge_of_1 n p1 p2).bind fun r3 =>
 if (decide (r3<0))=true then
  some (false,([]:List UInt8),p1)
 else
  (ix p1 r3).bind fun x10 =>
  some (true,x10.text_,p1)
def f__siding_treemerge_file_same (n:Nat) (p1:Bool) (p2:List UInt8) (p3:Bool) (p4:List UInt8):Option (Bool) :=
 if (p1==p3)=true then
  (f_bytes_Equal n p2 p4).bind fun r4 =>
  some r4
 else
  some false
def f_lines_Split (n:Nat) (p1:List UInt8):Option ((List (List UInt8))×Int) :=
 (f_lines_Check n p1).bind fun r4 =>
 if (r4 != 0)=true then
  some (([]:List (List UInt8)),r4)
 else
  (f_strings_Split n p1 ([10]:List UInt8)).bind fun r10 =>
  some (r10,0)
def f_lines_odd_1 (n:Nat) (p1:List UInt8):Option (Bool) :=
 (f_strings_IndexByte n p1 10).bind fun r3 =>
 some (decide (r3≥0))
def f_slices_IndexFunc_string_by_lines_odd_1_L5 (n:Nat) (p1:List (List UInt8)):Nat→Int→Option (Int)
 | 0,_=>none
 | m5+1,v6 =>
  if (decide (v6<(p1.length:Int)))=true then
   (ix p1 v6).bind fun x14 =>
   (f_lines_odd_1 n x14).bind fun r16 =>
   if r16=true then
    some v6
   else
    (rng (v6+1)).bind fun i20 =>
    (fun (a25:Int)=>f_slices_IndexFunc_string_by_lines_odd_1_L5 n p1 m5 a25) i20
  else
   some (-1)
def f_slices_IndexFunc_string_by_lines_odd_1 (n:Nat) (p1:List (List UInt8)):Option (Int) :=
 f_slices_IndexFunc_string_by_lines_odd_1_L5 n p1 n 0
def f_slices_ContainsFunc_string_by_lines_odd_1 (n:Nat) (p1:List (List UInt8)):Option (Bool) :=
 (f_slices_IndexFunc_string_by_lines_odd_1 n p1).bind fun r3 =>
 some (decide (r3≥0))
def f_lines_odd (n:Nat) (p1:List (List UInt8)):Option (Bool) :=
 (f_slices_ContainsFunc_string_by_lines_odd_1 n p1).bind fun r3 =>
 some r3
def f_lines_check_L11 (n:Nat) (p1:List (List UInt8)):Nat→Int→Int→Option (Int)
 | 0,_,_=>none
 | m11+1,v12,v13 =>
  if (decide (v13<(p1.length:Int)))=true then
   (ix p1 v13).bind fun x21 =>
   (rng (v12+(x21.length:Int))).bind fun i23 =>
   (rng (v13+1)).bind fun i25 =>
   (fun (a42:Int) (a43:Int)=>f_lines_check_L11 n p1 m11 a42 a43) i23 i25
  else
   if (decide (v12>2000))=true then
    some 4
   else
    if ((p1.length:Int)==0)=true then
     some 8
    else
     (f_lines_odd n p1).bind fun r34 =>
     if r34=true then
      some 8
     else
      some 0
def f_lines_check (n:Nat) (p1:List (List UInt8)):Option (Int) :=
 if (decide ((p1.length:Int)>60))=true then
  some 4
 else
  (rng ((p1.length:Int)-1)).bind fun i6 =>
  f_lines_check_L11 n p1 n i6 0
def f_lines_Join (n:Nat) (p1:List (List UInt8)):Option ((List UInt8)×Int) :=
 (f_lines_check n p1).bind fun r4 =>
 if (r4 != 0)=true then
  some (([]:List UInt8),r4)
 else
  (joinI p1 ([10]:List UInt8)).bind fun r10 =>
  some (r10,0)
def f_lcs_check (n:Nat) (p1:List (List UInt8)) (p2:List (List UInt8)):Option (Int) :=
 (f_lines_Join n p1).bind fun r4 =>
 if (r4.2 != 0)=true then
  some r4.2
 else
  (f_lines_Join n p2).bind fun r10 =>
  some r10.2
def f_lcs_table_L45 (p1:List (List UInt8)) (p2:List (List UInt8)) (v34:Int) (rec32:(List (Option (List Int)))→Int→Option ((List (Option (List Int))))):Nat→(List (Option (List Int)))→Int→Option ((List (Option (List Int))))
 | 0,_,_=>none
 | m45+1,v46,v47 =>
  if (decide (v47≥0))=true then
   (ix p1 v34).bind fun x55 =>
   (ix p2 v47).bind fun x57 =>
   if (x55==x57)=true then
    (need (0≤v34∧v34<(v46.length:Int))).bind fun _ =>
    (ixO v46 v34).bind fun x60 =>
    (rng (v34+1)).bind fun i62 =>
    (need (0≤i62∧i62<(v46.length:Int))).bind fun _ =>
    (ixO v46 i62).bind fun x65 =>
    (rng (v47+1)).bind fun i67 =>
    (ix x65 i67).bind fun x69 =>
    (rng (1+x69)).bind fun i71 =>
    (ix x60 v47).bind fun x73 =>
    (rng (v47-1)).bind fun i75 =>
    (fun (a99:List (Option (List Int))) (a100:Int)=>f_lcs_table_L45 p1 p2 v34 rec32 m45 a99 a100) (v46.set v34.toNat (some (x60.set v47.toNat i71))) i75
   else
    (need (0≤v34∧v34<(v46.length:Int))).bind fun _ =>
    (ixO v46 v34).bind fun x78 =>
    (rng (v34+1)).bind fun i80 =>
    (need (0≤i80∧i80<(v46.length:Int))).bind fun _ =>
    (ixO v46 i80).bind fun x83 =>
    (ix x83 v47).bind fun x85 =>
    (rng (v47+1)).bind fun i87 =>
    (ix x78 i87).bind fun x89 =>
    (ix x78 v47).bind fun x91 =>
    (rng (v47-1)).bind fun i93 =>
    (fun (a99:List (Option (List Int))) (a100:Int)=>f_lcs_table_L45 p1 p2 v34 rec32 m45 a99 a100) (v46.set v34.toNat (some (x78.set v47.toNat (if x89>x85 then x89 else x85)))) i93
  else
   (rng (v34-1)).bind fun i96 =>
   rec32 v46 i96
def f_lcs_table_L32 (p1:List (List UInt8)) (p2:List (List UInt8)):Nat→(List (Option (List Int)))→Int→Option ((List (Option (List Int))))
 | 0,_,_=>none
 | m32+1,v33,v34 =>
  if (decide (v34≥0))=true then
   (rng ((p2.length:Int)-1)).bind fun i42 =>
   f_lcs_table_L45 p1 p2 v34 (fun (a103:List (Option (List Int))) (a104:Int)=>f_lcs_table_L32 p1 p2 m32 a103 a104) m32 v33 i42
  else
   some v33
def f_lcs_table_L9 (n:Nat) (p1:List (List UInt8)) (p2:List (List UInt8)) (i3:Int):Nat→(List (Option (List Int)))→Int→Option ((List (Option (List Int))))
 | 0,_,_=>none
 | m9+1,v10,v11 =>
  if (decide (v11<((List.replicate i3.toNat (none:Option (List Int))).length:Int)))=true then
   (rng ((p2.length:Int)+1)).bind fun i19 =>
   (need (0≤i19∧i19≤i19∧i19≤(lim:Int))).bind fun _ =>
   (need (0≤v11∧v11<(v10.length:Int))).bind fun _ =>
   (ix v10 v11).bind fun o23 =>
   (rng (v11+1)).bind fun i25 =>
   (fun (a106:List (Option (List Int))) (a107:Int)=>f_lcs_table_L9 n p1 p2 i3 m9 a106 a107) (v10.set v11.toNat (some (List.replicate i19.toNat 0))) i25
  else
   (rng ((p1.length:Int)-1)).bind fun i29 =>
   f_lcs_table_L32 p1 p2 n v10 i29
def f_lcs_table (n:Nat) (p1:List (List UInt8)) (p2:List (List UInt8)):Option ((List (Option (List Int)))) :=
 (rng ((p1.length:Int)+1)).bind fun i3 =>
 (need (0≤i3∧i3≤i3∧i3≤(lim:Int))).bind fun _ =>
 f_lcs_table_L9 n p1 p2 i3 n (List.replicate i3.toNat (none:Option (List Int))) 0
def f_lcs_next_L15 (p1:List (List UInt8)) (p2:List (List UInt8)) (p3:List (Option (List Int))) (x5:Int) (v9:Int) (rec8:Int→Option (Int×Int)):Nat→Int→Option (Int×Int)
 | 0,_=>none
 | m15+1,v16 =>
  if (decide (v16<(p2.length:Int)))=true then
   (ix p1 v9).bind fun x23 =>
   (ix p2 v16).bind fun x25 =>
   if (x23==x25)=true then
    (rng (v9+1)).bind fun i28 =>
    (ixO p3 i28).bind fun x30 =>
    (rng (v16+1)).bind fun i32 =>
    (ix x30 i32).bind fun x34 =>
    (rng (x5-1)).bind fun i36 =>
    if (x34==i36)=true then
     some (v9,v16)
    else
     (rng (v16+1)).bind fun i39 =>
     (fun (a47:Int)=>f_lcs_next_L15 p1 p2 p3 x5 v9 rec8 m15 a47) i39
   else
    (rng (v16+1)).bind fun i42 =>
    (fun (a47:Int)=>f_lcs_next_L15 p1 p2 p3 x5 v9 rec8 m15 a47) i42
  else
   (rng (v9+1)).bind fun i44 =>
   rec8 i44
def f_lcs_next_L8 (p1:List (List UInt8)) (p2:List (List UInt8)) (p3:List (Option (List Int))) (p5:Int) (x5:Int):Nat→Int→Option (Int×Int)
 | 0,_=>none
 | m8+1,v9 =>
  f_lcs_next_L15 p1 p2 p3 x5 v9 (fun (a48:Int)=>f_lcs_next_L8 p1 p2 p3 p5 x5 m8 a48) m8 p5
def f_lcs_next (n:Nat) (p1:List (List UInt8)) (p2:List (List UInt8)) (p3:List (Option (List Int))) (p4:Int) (p5:Int):Option (Int×Int) :=
 (ixO p3 p4).bind fun x3 =>
 (ix x3 p5).bind fun x5 =>
 f_lcs_next_L8 p1 p2 p3 p5 x5 n p4
def f_lcs_Best_L17 (n:Nat) (p1:List (List UInt8)) (p2:List (List UInt8)) (r10:(List (Option (List Int)))):Nat→(List GMatch)→Int→Int→Option ((List GMatch)×Int)
 | 0,_,_,_=>none
 | m17+1,v18,v19,v20 =>
  (need (0≤v19∧v19<(r10.length:Int))).bind fun _ =>
  (ixO r10 v19).bind fun x27 =>
  (ix x27 v20).bind fun x29 =>
  if (decide (x29>0))=true then
   (f_lcs_next n p1 p2 r10 v19 v20).bind fun r33 =>
   (need (v18.length+1≤lim)).bind fun _ =>
   (rng (r33.1+1)).bind fun i38 =>
   (rng (r33.2+1)).bind fun i40 =>
   (fun (a44:List GMatch) (a45:Int) (a46:Int)=>f_lcs_Best_L17 n p1 p2 r10 m17 a44 a45 a46) (v18++([(⟨r33.1,r33.2⟩:GMatch)]:List GMatch)) i38 i40
  else
   some (v18,0)
def f_lcs_Best (n:Nat) (p1:List (List UInt8)) (p2:List (List UInt8)):Option ((List GMatch)×Int) :=
 (f_lcs_check n p1 p2).bind fun r4 =>
 if (r4 != 0)=true then
  some (([]:List GMatch),r4)
 else
  (f_lcs_table n p1 p2).bind fun r10 =>
  f_lcs_Best_L17 n p1 p2 r10 n ([]:List GMatch) 0 0
def f_merge_pairs_L16 (r3:(List GMatch)×Int):Nat→(List Int)→Int→Option ((List Int)×Int)
 | 0,_,_=>none
 | m16+1,v17,v18 =>
  if (decide (v18<(r3.1.length:Int)))=true then
   (ix r3.1 v18).bind fun x26 =>
   (ix v17 x26.i_).bind fun x28 =>
   (rng (v18+1)).bind fun i30 =>
   (fun (a34:List Int) (a35:Int)=>f_merge_pairs_L16 r3 m16 a34 a35) (v17.set x26.i_.toNat x26.k_) i30
  else
   some (v17,0)
def f_merge_pairs (n:Nat) (p1:List (List UInt8)) (p2:List (List UInt8)):Option ((List Int)×Int) :=
 (f_lcs_Best n p1 p2).bind fun r3 =>
 if (r3.2 != 0)=true then
  some (([]:List Int),r3.2)
 else
  (repI ([(-1)]:List Int) (p1.length:Int)).bind fun r10 =>
  f_merge_pairs_L16 r3 n r10 0
def f_slices_Equal_string_L8 (p1:List (List UInt8)) (p2:List (List UInt8)):Nat→Int→Option (Bool)
 | 0,_=>none
 | m8+1,v9 =>
  if (decide (v9<(p1.length:Int)))=true then
   (ix p1 v9).bind fun x17 =>
   (ix p2 v9).bind fun x19 =>
   if (!(x17==x19))=true then
    some false
   else
    (rng (v9+1)).bind fun i22 =>
    (fun (a27:Int)=>f_slices_Equal_string_L8 p1 p2 m8 a27) i22
  else
   some true
def f_slices_Equal_string (n:Nat) (p1:List (List UInt8)) (p2:List (List UInt8)):Option (Bool) :=
 if ((p1.length:Int) != (p2.length:Int))=true then
  some false
 else
  f_slices_Equal_string_L8 p1 p2 n 0
def f__siding_merge_three_kind (n:Nat) (p1:List (List UInt8)) (p2:List (List UInt8)) (p3:List (List UInt8)):Option (Int) :=
 (f_slices_Equal_string n p2 p3).bind fun r3 =>
 (f_slices_Equal_string n p1 p3).bind fun r6 =>
 (f_slices_Equal_string n p1 p2).bind fun r9 =>
 if (r3&&(r6&&r9))=true then
  some 1
 else
  if (r3&&(!r6&&!r9))=true then
   some 4
  else
   if (!r3&&(r6&&!r9))=true then
    some 2
   else
    if (!r3&&(!r6&&r9))=true then
     some 3
    else
     some 5
def f__siding_merge_three_piece (n:Nat) (p1:List (List UInt8)) (p2:List (List UInt8)) (p3:List (List UInt8)):Option (Int×(List (List UInt8))×(List (List UInt8))×(List (List UInt8))) :=
 (f__siding_merge_three_kind n p1 p2 p3).bind fun r3 =>
 (lmt p1).bind fun r6 =>
 (lmt p2).bind fun r9 =>
 (lmt p3).bind fun r12 =>
 some (r3,r6,r9,r12)
def f_merge_Merge_1 (n:Nat) (p1:Nat→Int) (p2:Nat→Int) (p3:List GPiece) (p4:List (List UInt8)) (p5:List (List UInt8)) (p6:List (List UInt8)):Option ((Nat→Int)×(List GPiece)×(List (List UInt8))×(List (List UInt8))×(List (List UInt8))) :=
 if (!(eqA 3 p1 p2))=true then
  (cutI p4 (p2 0) (p1 0)).bind fun l4 =>
  (cutI p5 (p2 1) (p1 1)).bind fun l6 =>
  (cutI p6 (p2 2) (p1 2)).bind fun l8 =>
  (f__siding_merge_three_piece n l4 l6 l8).bind fun r10 =>
  (need (p3.length+1≤lim)).bind fun _ =>
  some (p1,(p3++([(⟨r10.1,r10.2.1,r10.2.2.1,r10.2.2.2⟩:GPiece)]:List GPiece)),p4,p5,p6)
 else
  some (p1,p3,p4,p5,p6)
def f_merge_Merge_L94 (n:Nat) (r46:(List Int)×Int) (r50:(List Int)×Int) (v65:Int) (r88:(Nat→Int)×(List GPiece)×(List (List UInt8))×(List (List UInt8))×(List (List UInt8))) (rec59:(List (List UInt8))→(List (List UInt8))→(List (List UInt8))→(List GPiece)→(Nat→Int)→Int→Option ((List GPiece)×Int)):Nat→Int→Option ((List GPiece)×Int)
 | 0,_=>none
 | m94+1,v95 =>
  (rng (v65+v95)).bind fun i99 =>
  if (decide (i99<(r88.2.2.1.length:Int)))=true then
   (rng (v65+v95)).bind fun i102 =>
   (ix r46.1 i102).bind fun x104 =>
   (ix r46.1 v65).bind fun x106 =>
   (rng (x106+v95)).bind fun i108 =>
   if (x104==i108)=true then
    (rng (v65+v95)).bind fun i111 =>
    (ix r50.1 i111).bind fun x113 =>
    (ix r50.1 v65).bind fun x115 =>
    (rng (x115+v95)).bind fun i117 =>
    if (x113==i117)=true then
     (rng (v95+1)).bind fun i120 =>
     (fun (a177:Int)=>f_merge_Merge_L94 n r46 r50 v65 r88 rec59 m94 a177) i120
    else
     (rng (v65+v95)).bind fun i123 =>
     (rng (x106+v95)).bind fun i125 =>
     (rng (x115+v95)).bind fun i127 =>
     (f_merge_Merge_1 n (updA (updA (updA zeroA 0 i123) 1 i125) 2 i127) r88.1 r88.2.1 r88.2.2.1 r88.2.2.2.1 r88.2.2.2.2).bind fun r129 =>
     (rng (v95-1)).bind fun i132 =>
     (rng (v65+i132)).bind fun i134 =>
     (rng (i134+1)).bind fun i136 =>
     rec59 r129.2.2.1 r129.2.2.2.1 r129.2.2.2.2 r129.2.1 r129.1 i136
   else
    (rng (v65+v95)).bind fun i140 =>
    (rng (x106+v95)).bind fun i142 =>
    (ix r50.1 v65).bind fun x144 =>
    (rng (x144+v95)).bind fun i146 =>
    (f_merge_Merge_1 n (updA (updA (updA zeroA 0 i140) 1 i142) 2 i146) r88.1 r88.2.1 r88.2.2.1 r88.2.2.2.1 r88.2.2.2.2).bind fun r148 =>
    (rng (v95-1)).bind fun i151 =>
    (rng (v65+i151)).bind fun i153 =>
    (rng (i153+1)).bind fun i155 =>
    rec59 r148.2.2.1 r148.2.2.2.1 r148.2.2.2.2 r148.2.1 r148.1 i155
  else
   (rng (v65+v95)).bind fun i158 =>
   (ix r46.1 v65).bind fun x160 =>
   (rng (x160+v95)).bind fun i162 =>
   (ix r50.1 v65).bind fun x164 =>
   (rng (x164+v95)).bind fun i166 =>
   (f_merge_Merge_1 n (updA (updA (updA zeroA 0 i158) 1 i162) 2 i166) r88.1 r88.2.1 r88.2.2.1 r88.2.2.2.1 r88.2.2.2.2).bind fun r168 =>
   (rng (v95-1)).bind fun i171 =>
   (rng (v65+i171)).bind fun i173 =>
   (rng (i173+1)).bind fun i175 =>
   rec59 r168.2.2.1 r168.2.2.2.1 r168.2.2.2.2 r168.2.1 r168.1 i175
def f_merge_Merge_L59 (n:Nat) (r46:(List Int)×Int) (r50:(List Int)×Int):Nat→(List (List UInt8))→(List (List UInt8))→(List (List UInt8))→(List GPiece)→(Nat→Int)→Int→Option ((List GPiece)×Int)
 | 0,_,_,_,_,_,_=>none
 | m59+1,v60,v61,v62,v63,v64,v65 =>
  if (decide (v65<(v60.length:Int)))=true then
   (ix r46.1 v65).bind fun x78 =>
   if (decide (x78<0))=true then
    (rng (v65+1)).bind fun i81 =>
    (fun (a185:List (List UInt8)) (a186:List (List UInt8)) (a187:List (List UInt8)) (a188:List GPiece) (a189:Nat→Int) (a190:Int)=>f_merge_Merge_L59 n r46 r50 m59 a185 a186 a187 a188 a189 a190) v60 v61 v62 v63 v64 i81
   else
    (ix r50.1 v65).bind fun x83 =>
    if (decide (x83<0))=true then
     (rng (v65+1)).bind fun i85 =>
     (fun (a185:List (List UInt8)) (a186:List (List UInt8)) (a187:List (List UInt8)) (a188:List GPiece) (a189:Nat→Int) (a190:Int)=>f_merge_Merge_L59 n r46 r50 m59 a185 a186 a187 a188 a189 a190) v60 v61 v62 v63 v64 i85
    else
     (f_merge_Merge_1 n (updA (updA (updA zeroA 0 v65) 1 x78) 2 x83) v64 v63 v60 v61 v62).bind fun r88 =>
     f_merge_Merge_L94 n r46 r50 v65 r88 (fun (a185:List (List UInt8)) (a186:List (List UInt8)) (a187:List (List UInt8)) (a188:List GPiece) (a189:Nat→Int) (a190:Int)=>f_merge_Merge_L59 n r46 r50 m59 a185 a186 a187 a188 a189 a190) m59 1
  else
   (f_merge_Merge_1 n (updA (updA (updA zeroA 0 (v60.length:Int)) 1 (v61.length:Int)) 2 (v62.length:Int)) v64 v63 v60 v61 v62).bind fun r180 =>
   some (r180.2.1,0)
def f_merge_Merge (n:Nat) (p1:List (List UInt8)) (p2:List (List UInt8)) (p3:List (List UInt8)):Option ((List GPiece)×Int) :=
 (need (3<n)).bind fun _ =>
 (f_lines_Join n p1).bind fun r13 =>
 if (r13.2 != 0)=true then
  some (([]:List GPiece),r13.2)
 else
  (f_lines_Join n p2).bind fun r25 =>
  if (r25.2 != 0)=true then
   some (([]:List GPiece),r25.2)
  else
   (f_lines_Join n p3).bind fun r37 =>
   if (r37.2 != 0)=true then
    some (([]:List GPiece),r37.2)
   else
    (f_merge_pairs n p1 p2).bind fun r46 =>
    (f_merge_pairs n p1 p3).bind fun r50 =>
    f_merge_Merge_L59 n r46 r50 n p1 p2 p3 ([]:List GPiece) zeroA 0
def f_merge_plain_1 (n:Nat) (p1:List UInt8):Option (Bool) :=
 if (decide ((p1.length:Int)>2000))=true then
  some true
 else
  (f_strings_IndexByte n p1 10).bind fun r4 =>
  some (decide (r4≥0))
def f_slices_IndexFunc_string_by_merge_plain_1_L5 (n:Nat) (p1:List (List UInt8)):Nat→Int→Option (Int)
 | 0,_=>none
 | m5+1,v6 =>
  if (decide (v6<(p1.length:Int)))=true then
   (ix p1 v6).bind fun x14 =>
   (f_merge_plain_1 n x14).bind fun r16 =>
   if r16=true then
    some v6
   else
    (rng (v6+1)).bind fun i20 =>
    (fun (a25:Int)=>f_slices_IndexFunc_string_by_merge_plain_1_L5 n p1 m5 a25) i20
  else
   some (-1)
def f_slices_IndexFunc_string_by_merge_plain_1 (n:Nat) (p1:List (List UInt8)):Option (Int) :=
 f_slices_IndexFunc_string_by_merge_plain_1_L5 n p1 n 0
def f_slices_ContainsFunc_string_by_merge_plain_1 (n:Nat) (p1:List (List UInt8)):Option (Bool) :=
 (f_slices_IndexFunc_string_by_merge_plain_1 n p1).bind fun r3 =>
 some (decide (r3≥0))
def f_merge_plain (n:Nat) (p1:List (List UInt8)):Option (Bool) :=
 if (decide ((p1.length:Int)≤60))=true then
  (f_slices_ContainsFunc_string_by_merge_plain_1 n p1).bind fun r4 =>
  some (!r4)
 else
  some false
def f_merge_Check_L8 (n:Nat) (p1:List GPiece):Nat→Int→Option (Int)
 | 0,_=>none
 | m8+1,v9 =>
  if (decide (v9<(p1.length:Int)))=true then
   (ix p1 v9).bind fun x16 =>
   (f_merge_plain n x16.base_).bind fun r20 =>
   if (!r20)=true then
    some 8
   else
    (f_merge_plain n x16.ours_).bind fun r26 =>
    if (!r26)=true then
     some 8
    else
     (f_merge_plain n x16.theirs_).bind fun r32 =>
     if (!r32)=true then
      some 8
     else
      (f__siding_merge_three_kind n x16.base_ x16.ours_ x16.theirs_).bind fun r38 =>
      if (x16.kind_ != r38)=true then
       some 8
      else
       (rng ((x16.base_.length:Int)+(x16.ours_.length:Int))).bind fun i44 =>
       (rng (i44+(x16.theirs_.length:Int))).bind fun i46 =>
       if (i46==0)=true then
        some 8
       else
        (rng (v9+1)).bind fun i49 =>
        (fun (a54:Int)=>f_merge_Check_L8 n p1 m8 a54) i49
  else
   some 0
def f_merge_Check (n:Nat) (p1:List GPiece):Option (Int) :=
 if (decide ((p1.length:Int)>130))=true then
  some 4
 else
  f_merge_Check_L8 n p1 n 0
def f_merge_Clashes_L13 (p1:List GPiece):Nat→Int→Int→Option (Int×Int)
 | 0,_,_=>none
 | m13+1,v14,v15 =>
  if (decide (v15<(p1.length:Int)))=true then
   (ix p1 v15).bind fun x23 =>
   if (x23.kind_==5)=true then
    (rng (v14+1)).bind fun i26 =>
    (rng (v15+1)).bind fun i28 =>
    (fun (a35:Int) (a36:Int)=>f_merge_Clashes_L13 p1 m13 a35 a36) i26 i28
   else
    (rng (v15+1)).bind fun i30 =>
    (fun (a35:Int) (a36:Int)=>f_merge_Clashes_L13 p1 m13 a35 a36) v14 i30
  else
   some (v14,0)
def f_merge_Clashes (n:Nat) (p1:List GPiece):Option (Int×Int) :=
 (f_merge_Check n p1).bind fun r4 =>
 if (r4 != 0)=true then
  some (0,r4)
 else
  f_merge_Clashes_L13 p1 n 0 0
def f_merge_Result_L16 (n:Nat) (p1:List GPiece):Nat→(List (List UInt8))→Int→Option ((List (List UInt8))×Int)
 | 0,_,_=>none
 | m16+1,v17,v18 =>
  if (decide (v18<(p1.length:Int)))=true then
   (ix p1 v18).bind fun x26 =>
   if (x26.kind_==3)=true then
    (need (v17.length+x26.theirs_.length≤lim)).bind fun _ =>
    (rng (v18+1)).bind fun i30 =>
    (fun (a46:List (List UInt8)) (a47:Int)=>f_merge_Result_L16 n p1 m16 a46 a47) (v17++x26.theirs_) i30
   else
    (need (v17.length+x26.ours_.length≤lim)).bind fun _ =>
    (rng (v18+1)).bind fun i33 =>
    (fun (a46:List (List UInt8)) (a47:Int)=>f_merge_Result_L16 n p1 m16 a46 a47) (v17++x26.ours_) i33
  else
   (f_lines_Join n v17).bind fun r38 =>
   if (r38.2 != 0)=true then
    some (([]:List (List UInt8)),r38.2)
   else
    some (v17,0)
def f_merge_Result (n:Nat) (p1:List GPiece):Option ((List (List UInt8))×Int) :=
 (f_merge_Clashes n p1).bind fun r3 =>
 if (r3.2 != 0)=true then
  some (([]:List (List UInt8)),r3.2)
 else
  if (decide (r3.1>0))=true then
   some (([]:List (List UInt8)),26)
  else
   f_merge_Result_L16 n p1 n ([]:List (List UInt8)) 0
def f_treemerge_merged (n:Nat) (p1:Bool) (p2:List UInt8) (p3:Bool) (p4:List UInt8) (p5:Bool) (p6:List UInt8):Option (Bool×(List UInt8)×Int×Int) :=
 if (!p1)=true then
  some (p3,p4,2,0)
 else
  if (!p3)=true then
   some (p3,p4,3,0)
  else
   if (!p5)=true then
    some (p3,p4,3,0)
   else
    (need (3<n)).bind fun _ =>
    (f_lines_Split n p2).bind fun r21 =>
    (f_lines_Split n p4).bind fun r30 =>
    (f_lines_Split n p6).bind fun r39 =>
    (f_merge_Merge n r21.1 r30.1 r39.1).bind fun r46 =>
    (f_merge_Result n r46.1).bind fun r50 =>
    if (r50.2==26)=true then
     some (p3,p4,1,0)
    else
     if (r50.2 != 0)=true then
      some (false,([]:List UInt8),0,r50.2)
     else
      (f_lines_Join n r50.1).bind fun r60 =>
      some (true,r60.1,0,0)
def f_treemerge_Merge_J47 (v19:List GFile) (v21:Int) (x31:List UInt8) (r37:Bool×(List UInt8)×(List GFile)) (rec17:(List GFile)→(List GFile)→(List GTrouble)→Int→Option ((List GFile)×(List GTrouble)×Int×(List GFile))) (v48:List GTrouble) (v49:Bool) (v50:List UInt8):Option ((List GFile)×(List GTrouble)×Int×(List GFile)) :=
 if v49=true then
  (lmt v50).bind fun r52 =>
  (need (v19.length+1≤lim)).bind fun _ =>
  (rng (v21+1)).bind fun i56 =>
  rec17 r37.2.2 (v19++([(⟨x31,r52⟩:GFile)]:List GFile)) v48 i56
 else
  (rng (v21+1)).bind fun i58 =>
  rec17 r37.2.2 v19 v48 i58
def f_treemerge_Merge_J44 (n:Nat) (v19:List GFile) (v20:List GTrouble) (v21:Int) (x31:List UInt8) (r34:Bool×(List UInt8)) (r37:Bool×(List UInt8)×(List GFile)) (r40:Bool×(List UInt8)) (rec17:(List GFile)→(List GFile)→(List GTrouble)→Int→Option ((List GFile)×(List GTrouble)×Int×(List GFile))) (v45:Bool) (v46:List UInt8):Option ((List GFile)×(List GTrouble)×Int×(List GFile)) :=
 (f__siding_treemerge_file_same n r37.1 r37.2.1 r40.1 r40.2).bind fun r62 =>
 if (!r62)=true then
  (f__siding_treemerge_file_same n r37.1 r37.2.1 r34.1 r34.2).bind fun r66 =>
  if (!r66)=true then
   (f__siding_treemerge_file_same n r40.1 r40.2 r34.1 r34.2).bind fun r70 =>
   if (!r70)=true then
    (f_treemerge_merged n r34.1 r34.2 r37.1 r37.2.1 r40.1 r40.2).bind fun r77 =>
    if (r77.2.2.2 != 0)=true then
     some (([]:List GFile),([]:List GTrouble),r77.2.2.2,r37.2.2)
    else
     if (r77.2.2.1 != 0)=true then
      (need (v20.length+1≤lim)).bind fun _ =>
      f_treemerge_Merge_J47 v19 v21 x31 r37 rec17 (v20++([(⟨x31,r77.2.2.1⟩:GTrouble)]:List GTrouble)) r77.1 r77.2.1
     else
      f_treemerge_Merge_J47 v19 v21 x31 r37 rec17 v20 r77.1 r77.2.1
   else
    f_treemerge_Merge_J47 v19 v21 x31 r37 rec17 v20 v45 v46
  else
   f_treemerge_Merge_J47 v19 v21 x31 r37 rec17 v20 v45 v46
 else
  f_treemerge_Merge_J47 v19 v21 x31 r37 rec17 v20 v45 v46
def f_treemerge_Merge_L17 (n:Nat) (p1:List GFile) (p3:List GFile) (r13:(List (List UInt8))):Nat→(List GFile)→(List GFile)→(List GTrouble)→Int→Option ((List GFile)×(List GTrouble)×Int×(List GFile))
 | 0,_,_,_,_=>none
 | m17+1,v18,v19,v20,v21 =>
  if (decide (v21<(r13.length:Int)))=true then
   (ix r13 v21).bind fun x31 =>
   (f_treemerge_of n p1 x31).bind fun r34 =>
   (f_treemerge_of_b n v18 x31).bind fun r37 =>
   (f_treemerge_of n p3 x31).bind fun r40 =>
   (f__siding_treemerge_file_same n r37.1 r37.2.1 r40.1 r40.2).bind fun r88 =>
   if (!r88)=true then
    (f__siding_treemerge_file_same n r37.1 r37.2.1 r34.1 r34.2).bind fun r92 =>
    if r92=true then
     f_treemerge_Merge_J44 n v19 v20 v21 x31 r34 r37 r40 (fun (a102:List GFile) (a103:List GFile) (a104:List GTrouble) (a105:Int)=>f_treemerge_Merge_L17 n p1 p3 r13 m17 a102 a103 a104 a105) r40.1 r40.2
    else
     f_treemerge_Merge_J44 n v19 v20 v21 x31 r34 r37 r40 (fun (a102:List GFile) (a103:List GFile) (a104:List GTrouble) (a105:Int)=>f_treemerge_Merge_L17 n p1 p3 r13 m17 a102 a103 a104 a105) r37.1 r37.2.1
   else
    f_treemerge_Merge_J44 n v19 v20 v21 x31 r34 r37 r40 (fun (a102:List GFile) (a103:List GFile) (a104:List GTrouble) (a105:Int)=>f_treemerge_Merge_L17 n p1 p3 r13 m17 a102 a103 a104 a105) r37.1 r37.2.1
  else
   if (decide ((v19.length:Int)>12))=true then
    some (([]:List GFile),([]:List GTrouble),4,v18)
   else
    some (v19,v20,0,v18)
def f_treemerge_Merge (n:Nat) (p1:List GFile) (p2:List GFile) (p3:List GFile):Option ((List GFile)×(List GTrouble)×Int×(List GFile)) :=
 (f_treemerge_check n p1 p2 p3).bind fun r4 =>
 if (r4 != 0)=true then
  some (([]:List GFile),([]:List GTrouble),r4,p2)
 else
  (f_treemerge_paths n p1 p2 p3).bind fun r13 =>
  f_treemerge_Merge_L17 n p1 p3 r13 n p2 ([]:List GFile) ([]:List GTrouble) 0
def f_sidingref21_Same_L8 (p1:List GFile) (p2:List GFile):Nat→Int→Option (Bool)
 | 0,_=>none
 | m8+1,v9 =>
  if (decide (v9<(p1.length:Int)))=true then
   (ix p1 v9).bind fun x16 =>
   (ix p2 v9).bind fun x18 =>
   if (!(x16.path_==x18.path_))=true then
    some false
   else
    if (!(x16.text_==x18.text_))=true then
     some false
    else
     (rng (v9+1)).bind fun i24 =>
     (fun (a29:Int)=>f_sidingref21_Same_L8 p1 p2 m8 a29) i24
  else
   some true
def f_sidingref21_Same (n:Nat) (p1:List GFile) (p2:List GFile):Option (Bool) :=
 if ((p1.length:Int) != (p2.length:Int))=true then
  some false
 else
  f_sidingref21_Same_L8 p1 p2 n 0
def f_sidingref22_Same_L8 (p1:List GTrouble) (p2:List GTrouble):Nat→Int→Option (Bool)
 | 0,_=>none
 | m8+1,v9 =>
  if (decide (v9<(p1.length:Int)))=true then
   (ix p1 v9).bind fun x16 =>
   (ix p2 v9).bind fun x18 =>
   if (!(x16.path_==x18.path_)||!(x16.kind_==x18.kind_))=true then
    some false
   else
    (rng (v9+1)).bind fun i21 =>
    (fun (a26:Int)=>f_sidingref22_Same_L8 p1 p2 m8 a26) i21
  else
   some true
def f_sidingref22_Same (n:Nat) (p1:List GTrouble) (p2:List GTrouble):Option (Bool) :=
 if ((p1.length:Int) != (p2.length:Int))=true then
  some false
 else
  f_sidingref22_Same_L8 p1 p2 n 0
def f_sidinglaw22_alive (n:Nat):Option (Bool) :=
 (f_sidinglaw22_file n ([102]:List UInt8) ([49,10,50,10,51]:List UInt8)).bind fun r3 =>
 (f_sidinglaw22_file n ([103]:List UInt8) ([120]:List UInt8)).bind fun r6 =>
 (f_sidinglaw22_file n ([102]:List UInt8) ([48,10,50,10,51]:List UInt8)).bind fun r10 =>
 (f_sidinglaw22_file n ([103]:List UInt8) ([120]:List UInt8)).bind fun r13 =>
 (f_sidinglaw22_file n ([102]:List UInt8) ([49,10,50,10,52]:List UInt8)).bind fun r17 =>
 (f_sidinglaw22_file n ([104]:List UInt8) ([121]:List UInt8)).bind fun r20 =>
 (f_treemerge_Merge n ([(⟨r3.1,r3.2⟩:GFile),(⟨r6.1,r6.2⟩:GFile)]:List GFile) ([(⟨r10.1,r10.2⟩:GFile),(⟨r13.1,r13.2⟩:GFile)]:List GFile) ([(⟨r17.1,r17.2⟩:GFile),(⟨r20.1,r20.2⟩:GFile)]:List GFile)).bind fun r24 =>
 (f_sidinglaw22_file n ([103]:List UInt8) ([122]:List UInt8)).bind fun r28 =>
 (ix r24.2.2.2 1).bind fun x31 =>
 (f_treemerge_Merge n ([(⟨r3.1,r3.2⟩:GFile),(⟨r6.1,r6.2⟩:GFile)]:List GFile) (r24.2.2.2.set 1 (⟨r28.1,r28.2⟩:GFile)) ([(⟨r17.1,r17.2⟩:GFile),(⟨r20.1,r20.2⟩:GFile)]:List GFile)).bind fun r34 =>
 if (r24.2.2.1==0)=true then
  if ((r24.2.1.length:Int)==0)=true then
   (f_sidinglaw22_file n ([102]:List UInt8) ([48,10,50,10,52]:List UInt8)).bind fun r40 =>
   (f_sidinglaw22_file n ([104]:List UInt8) ([121]:List UInt8)).bind fun r43 =>
   (f_sidingref21_Same n r24.1 ([(⟨r40.1,r40.2⟩:GFile),(⟨r43.1,r43.2⟩:GFile)]:List GFile)).bind fun r46 =>
   if (r46&&(r34.2.2.1==0))=true then
    (f_sidingref22_Same n r34.2.1 ([(⟨([103]:List UInt8),3⟩:GTrouble)]:List GTrouble)).bind fun r50 =>
    if r50=true then
     (f_sidinglaw22_file n ([102]:List UInt8) ([48,10,50,10,52]:List UInt8)).bind fun r54 =>
     (f_sidinglaw22_file n ([103]:List UInt8) ([122]:List UInt8)).bind fun r57 =>
     (f_sidinglaw22_file n ([104]:List UInt8) ([121]:List UInt8)).bind fun r60 =>
     (f_sidingref21_Same n r34.1 ([(⟨r54.1,r54.2⟩:GFile),(⟨r57.1,r57.2⟩:GFile),(⟨r60.1,r60.2⟩:GFile)]:List GFile)).bind fun r63 =>
     some r63
    else
     some false
   else
    some false
  else
   some false
 else
  some false
def f_sidingref21_Long_L5 (p1:List GFile):Nat→Int→Option (Bool)
 | 0,_=>none
 | m5+1,v6 =>
  if ((decide (v6<(p1.length:Int)))&&(decide (v6≤40)))=true then
   (ix p1 v6).bind fun x13 =>
   if ((decide ((x13.path_.length:Int)>200))||(decide ((x13.text_.length:Int)>3000)))=true then
    some true
   else
    (rng (v6+1)).bind fun i16 =>
    (fun (a21:Int)=>f_sidingref21_Long_L5 p1 m5 a21) i16
  else
   some (decide ((p1.length:Int)>40))
def f_sidingref21_Long (n:Nat) (p1:List GFile):Option (Bool) :=
 f_sidingref21_Long_L5 p1 n 0
def f_sidinglaw22_long (n:Nat) (p1:List GFile) (p2:List GFile) (p3:List GFile):Option (Bool) :=
 (f_sidingref21_Long n p1).bind fun r3 =>
 if r3=true then
  some true
 else
  (f_sidingref21_Long n p2).bind fun r7 =>
  if r7=true then
   some true
  else
   (f_sidingref21_Long n p3).bind fun r11 =>
   some r11
def f_sidingref17_part_L8 (p1:List UInt8):Nat→Int→Option (Bool)
 | 0,_=>none
 | m8+1,v9 =>
  if (decide (v9<(p1.length:Int)))=true then
   (ix p1 v9).bind fun x16 =>
   if ((((((!((decide ((x16.toNat:Int)≥97))&&(decide ((x16.toNat:Int)≤122))))&&(!((decide ((x16.toNat:Int)≥65))&&(decide ((x16.toNat:Int)≤90)))))&&(!((decide ((x16.toNat:Int)≥48))&&(decide ((x16.toNat:Int)≤57)))))&&((x16.toNat:Int) != 45))&&((x16.toNat:Int) != 95))&&((x16.toNat:Int) != 46))=true then
    some false
   else
    (rng (v9+1)).bind fun i20 =>
    (fun (a25:Int)=>f_sidingref17_part_L8 p1 m8 a25) i20
  else
   some true
def f_sidingref17_part (n:Nat) (p1:List UInt8):Option (Bool) :=
 if ((((p1.length:Int)==0)||(p1==([46]:List UInt8)))||(p1==([46,46]:List UInt8)))=true then
  some false
 else
  f_sidingref17_part_L8 p1 n 0
def f_sidingref17_Path_L9 (n:Nat) (p1:List UInt8):Nat→Int→Int→Option (Bool)
 | 0,_,_=>none
 | m9+1,v10,v11 =>
  if (decide (v11<(p1.length:Int)))=true then
   (ix p1 v11).bind fun x19 =>
   if ((x19.toNat:Int)==47)=true then
    (cutI p1 v10 v11).bind fun l23 =>
    (f_sidingref17_part n l23).bind fun r25 =>
    if (!r25)=true then
     some false
    else
     (rng (v11+1)).bind fun i29 =>
     (rng (v11+1)).bind fun i31 =>
     (fun (a44:Int) (a45:Int)=>f_sidingref17_Path_L9 n p1 m9 a44 a45) i29 i31
   else
    (rng (v11+1)).bind fun i34 =>
    (fun (a44:Int) (a45:Int)=>f_sidingref17_Path_L9 n p1 m9 a44 a45) v10 i34
  else
   (cutI p1 v10 (p1.length:Int)).bind fun l38 =>
   (f_sidingref17_part n l38).bind fun r40 =>
   some r40
def f_sidingref17_Path (n:Nat) (p1:List UInt8):Option (Bool) :=
 if (decide ((p1.length:Int)>60))=true then
  some false
 else
  f_sidingref17_Path_L9 n p1 n 0 0
def f_sidingref13_Parts_L7 (p1:List UInt8):Nat→(List (List UInt8))→Int→Int→Option ((List (List UInt8)))
 | 0,_,_,_=>none
 | m7+1,v8,v9,v10 =>
  if (decide (v10<(p1.length:Int)))=true then
   (ix p1 v10).bind fun x19 =>
   if ((x19.toNat:Int)==10)=true then
    (rng ((v8.length:Int)-1)).bind fun i22 =>
    (cutI p1 v9 v10).bind fun l24 =>
    (ix v8 i22).bind fun x26 =>
    (need (v8.length+1≤lim)).bind fun _ =>
    (rng (v10+1)).bind fun i30 =>
    (rng (v10+1)).bind fun i32 =>
    (fun (a46:List (List UInt8)) (a47:Int) (a48:Int)=>f_sidingref13_Parts_L7 p1 m7 a46 a47 a48) ((v8.set i22.toNat l24)++([([]:List UInt8)]:List (List UInt8))) i30 i32
   else
    (rng (v10+1)).bind fun i34 =>
    (fun (a46:List (List UInt8)) (a47:Int) (a48:Int)=>f_sidingref13_Parts_L7 p1 m7 a46 a47 a48) v8 v9 i34
  else
   (rng ((v8.length:Int)-1)).bind fun i38 =>
   (cutI p1 v9 (p1.length:Int)).bind fun l40 =>
   (ix v8 i38).bind fun x42 =>
   some (v8.set i38.toNat l40)
def f_sidingref13_Parts (n:Nat) (p1:List UInt8):Option ((List (List UInt8))) :=
 f_sidingref13_Parts_L7 p1 n ([([]:List UInt8)]:List (List UInt8)) 0 0
def f_sidingref13_Check (n:Nat) (p1:List UInt8):Option (Int) :=
 if (decide ((p1.length:Int)>2000))=true then
  some 4
 else
  (f_sidingref13_Parts n p1).bind fun r6 =>
  if (decide ((r6.length:Int)>60))=true then
   some 4
  else
   some 0
def f_sidingref21_Check_L39 (n:Nat) (p1:List GFile):Nat→Int→Option (Int)
 | 0,_=>none
 | m39+1,v40 =>
  if (decide (v40<(p1.length:Int)))=true then
   (ix p1 v40).bind fun x47 =>
   (f_sidingref13_Check n x47.text_).bind fun r49 =>
   if (r49 != 0)=true then
    (f_sidingref13_Check n x47.text_).bind fun r53 =>
    some r53
   else
    (rng (v40+1)).bind fun i56 =>
    (fun (a61:Int)=>f_sidingref21_Check_L39 n p1 m39 a61) i56
  else
   some 0
def f_sidingref21_Check_L8 (n:Nat) (p1:List GFile):Nat→Int→Option (Int)
 | 0,_=>none
 | m8+1,v9 =>
  if (decide (v9<(p1.length:Int)))=true then
   (ix p1 v9).bind fun x17 =>
   (f_sidingref17_Path n x17.path_).bind fun r19 =>
   if (!r19)=true then
    some 8
   else
    if (decide (v9>0))=true then
     (rng (v9-1)).bind fun i25 =>
     (ix p1 i25).bind fun x27 =>
     if (!(Op.bytesLess x27.path_ x17.path_))=true then
      some 8
     else
      (rng (v9+1)).bind fun i30 =>
      (fun (a63:Int)=>f_sidingref21_Check_L8 n p1 m8 a63) i30
    else
     (rng (v9+1)).bind fun i33 =>
     (fun (a63:Int)=>f_sidingref21_Check_L8 n p1 m8 a63) i33
  else
   f_sidingref21_Check_L39 n p1 n 0
def f_sidingref21_Check (n:Nat) (p1:List GFile):Option (Int) :=
 if (decide ((p1.length:Int)>12))=true then
  some 4
 else
  f_sidingref21_Check_L8 n p1 n 0
def f_sidingref22_Three (n:Nat) (p1:List GFile) (p2:List GFile) (p3:List GFile):Option (Int) :=
 (f_sidingref21_Check n p1).bind fun r4 =>
 if (r4 != 0)=true then
  (f_sidingref21_Check n p1).bind fun r8 =>
  some r8
 else
  (f_sidingref21_Check n p2).bind fun r13 =>
  if (r13 != 0)=true then
   (f_sidingref21_Check n p2).bind fun r17 =>
   some r17
  else
   (f_sidingref21_Check n p3).bind fun r21 =>
   some r21
def f_sidinglaw22_fit (n:Nat) (p1:List GFile) (p2:List GFile) (p3:List GFile):Option (Bool) :=
 (f_sidinglaw22_long n p1 p2 p3).bind fun r3 =>
 if (!r3)=true then
  (f_sidingref22_Three n p1 p2 p3).bind fun r7 =>
  some (r7==0)
 else
  some false
def f_treemerge_Merge_b_J45 (v18:List GFile) (v20:Int) (x29:List UInt8) (rec17:(List GFile)→(List GTrouble)→Int→Option ((List GFile)×(List GTrouble)×Int)) (v46:List GTrouble) (v47:Bool) (v48:List UInt8):Option ((List GFile)×(List GTrouble)×Int) :=
 if v47=true then
  (lmt v48).bind fun r50 =>
  (need (v18.length+1≤lim)).bind fun _ =>
  (rng (v20+1)).bind fun i54 =>
  rec17 (v18++([(⟨x29,r50⟩:GFile)]:List GFile)) v46 i54
 else
  (rng (v20+1)).bind fun i56 =>
  rec17 v18 v46 i56
def f_treemerge_Merge_b_J42 (n:Nat) (v18:List GFile) (v19:List GTrouble) (v20:Int) (x29:List UInt8) (r32:Bool×(List UInt8)) (r35:Bool×(List UInt8)) (r38:Bool×(List UInt8)) (rec17:(List GFile)→(List GTrouble)→Int→Option ((List GFile)×(List GTrouble)×Int)) (v43:Bool) (v44:List UInt8):Option ((List GFile)×(List GTrouble)×Int) :=
 (f__siding_treemerge_file_same n r35.1 r35.2 r38.1 r38.2).bind fun r60 =>
 if (!r60)=true then
  (f__siding_treemerge_file_same n r35.1 r35.2 r32.1 r32.2).bind fun r64 =>
  if (!r64)=true then
   (f__siding_treemerge_file_same n r38.1 r38.2 r32.1 r32.2).bind fun r68 =>
   if (!r68)=true then
    (f_treemerge_merged n r32.1 r32.2 r35.1 r35.2 r38.1 r38.2).bind fun r75 =>
    if (r75.2.2.2 != 0)=true then
     some (([]:List GFile),([]:List GTrouble),r75.2.2.2)
    else
     if (r75.2.2.1 != 0)=true then
      (need (v19.length+1≤lim)).bind fun _ =>
      f_treemerge_Merge_b_J45 v18 v20 x29 rec17 (v19++([(⟨x29,r75.2.2.1⟩:GTrouble)]:List GTrouble)) r75.1 r75.2.1
     else
      f_treemerge_Merge_b_J45 v18 v20 x29 rec17 v19 r75.1 r75.2.1
   else
    f_treemerge_Merge_b_J45 v18 v20 x29 rec17 v19 v43 v44
  else
   f_treemerge_Merge_b_J45 v18 v20 x29 rec17 v19 v43 v44
 else
  f_treemerge_Merge_b_J45 v18 v20 x29 rec17 v19 v43 v44
def f_treemerge_Merge_b_L17 (n:Nat) (p1:List GFile) (p2:List GFile) (p3:List GFile) (r13:(List (List UInt8))):Nat→(List GFile)→(List GTrouble)→Int→Option ((List GFile)×(List GTrouble)×Int)
 | 0,_,_,_=>none
 | m17+1,v18,v19,v20 =>
  if (decide (v20<(r13.length:Int)))=true then
   (ix r13 v20).bind fun x29 =>
   (f_treemerge_of n p1 x29).bind fun r32 =>
   (f_treemerge_of n p2 x29).bind fun r35 =>
   (f_treemerge_of n p3 x29).bind fun r38 =>
   (f__siding_treemerge_file_same n r35.1 r35.2 r38.1 r38.2).bind fun r86 =>
   if (!r86)=true then
    (f__siding_treemerge_file_same n r35.1 r35.2 r32.1 r32.2).bind fun r90 =>
    if r90=true then
     f_treemerge_Merge_b_J42 n v18 v19 v20 x29 r32 r35 r38 (fun (a100:List GFile) (a101:List GTrouble) (a102:Int)=>f_treemerge_Merge_b_L17 n p1 p2 p3 r13 m17 a100 a101 a102) r38.1 r38.2
    else
     f_treemerge_Merge_b_J42 n v18 v19 v20 x29 r32 r35 r38 (fun (a100:List GFile) (a101:List GTrouble) (a102:Int)=>f_treemerge_Merge_b_L17 n p1 p2 p3 r13 m17 a100 a101 a102) r35.1 r35.2
   else
    f_treemerge_Merge_b_J42 n v18 v19 v20 x29 r32 r35 r38 (fun (a100:List GFile) (a101:List GTrouble) (a102:Int)=>f_treemerge_Merge_b_L17 n p1 p2 p3 r13 m17 a100 a101 a102) r35.1 r35.2
  else
   if (decide ((v18.length:Int)>12))=true then
    some (([]:List GFile),([]:List GTrouble),4)
   else
    some (v18,v19,0)
def f_treemerge_Merge_b (n:Nat) (p1:List GFile) (p2:List GFile) (p3:List GFile):Option ((List GFile)×(List GTrouble)×Int) :=
 (f_treemerge_check n p1 p2 p3).bind fun r4 =>
 if (r4 != 0)=true then
  some (([]:List GFile),([]:List GTrouble),r4)
 else
  (f_treemerge_paths n p1 p2 p3).bind fun r13 =>
  f_treemerge_Merge_b_L17 n p1 p2 p3 r13 n ([]:List GFile) ([]:List GTrouble) 0
def f_treemerge_Paths (n:Nat) (p1:List GFile) (p2:List GFile) (p3:List GFile):Option ((List (List UInt8))×Int) :=
 (f_treemerge_check n p1 p2 p3).bind fun r4 =>
 if (r4 != 0)=true then
  some (([]:List (List UInt8)),r4)
 else
  (f_treemerge_paths n p1 p2 p3).bind fun r10 =>
  some (r10,0)
def f_sidingref22_In_L5 (p1:List GTrouble) (p2:List UInt8):Nat→Int→Option (Bool)
 | 0,_=>none
 | m5+1,v6 =>
  if (decide (v6<(p1.length:Int)))=true then
   (ix p1 v6).bind fun x13 =>
   if (x13.path_==p2)=true then
    some true
   else
    (rng (v6+1)).bind fun i16 =>
    (fun (a21:Int)=>f_sidingref22_In_L5 p1 p2 m5 a21) i16
  else
   some false
def f_sidingref22_In (n:Nat) (p1:List GTrouble) (p2:List UInt8):Option (Bool) :=
 f_sidingref22_In_L5 p1 p2 n 0
def f_sidingref21_Has_L5 (p1:List GFile) (p2:List UInt8):Nat→Int→Option ((List UInt8)×Bool)
 | 0,_=>none
 | m5+1,v6 =>
  if (decide (v6<(p1.length:Int)))=true then
   (ix p1 v6).bind fun x13 =>
   if (x13.path_==p2)=true then
    some (x13.text_,true)
   else
    (rng (v6+1)).bind fun i16 =>
    (fun (a21:Int)=>f_sidingref21_Has_L5 p1 p2 m5 a21) i16
  else
   some (([]:List UInt8),false)
def f_sidingref21_Has (n:Nat) (p1:List GFile) (p2:List UInt8):Option ((List UInt8)×Bool) :=
 f_sidingref21_Has_L5 p1 p2 n 0
def f_sidingref22_Equal (n:Nat) (p1:List GFile) (p2:List GFile) (p3:List UInt8):Option (Bool) :=
 (f_sidingref21_Has n p1 p3).bind fun r3 =>
 (f_sidingref21_Has n p2 p3).bind fun r7 =>
 some ((r3.2==r7.2)&&(r3.1==r7.1))
def f_sidinglaw22_has_L5 (p1:List (List UInt8)) (p2:List UInt8):Nat→Int→Option (Bool)
 | 0,_=>none
 | m5+1,v6 =>
  if (decide (v6<(p1.length:Int)))=true then
   (ix p1 v6).bind fun x13 =>
   if (x13==p2)=true then
    some true
   else
    (rng (v6+1)).bind fun i16 =>
    (fun (a21:Int)=>f_sidinglaw22_has_L5 p1 p2 m5 a21) i16
  else
   some false
def f_sidinglaw22_has (n:Nat) (p1:List (List UInt8)) (p2:List UInt8):Option (Bool) :=
 f_sidinglaw22_has_L5 p1 p2 n 0
def f_sidinglaw22_gives (n:Nat) (p1:List GFile) (p2:List GFile) (p3:List GFile) (p4:List GFile):Option (Bool) :=
 (f_treemerge_Merge_b n p1 p2 p3).bind fun r3 =>
 if (r3.2.2==0)=true then
  if ((r3.2.1.length:Int)==0)=true then
   (f_sidingref21_Same n r3.1 p4).bind fun r9 =>
   some r9
  else
   some false
 else
  some false
def f_sidinglaw22_TreemergeLaws_L287 (n:Nat) (p1:List GFile) (p2:List GFile) (p3:List GFile) (r3:Bool) (r13:(List GFile)×(List GTrouble)×Int) (r17:(List (List UInt8))×Int):Nat→Int→Option (Bool)
 | 0,_=>none
 | m287+1,v288 =>
  if (decide (v288<(r13.1.length:Int)))=true then
   (ix r13.1 v288).bind fun x295 =>
   (f_sidinglaw22_has n r17.1 x295.path_).bind fun r297 =>
   if (!r297)=true then
    some false
   else
    (rng (v288+1)).bind fun i301 =>
    (fun (a318:Int)=>f_sidinglaw22_TreemergeLaws_L287 n p1 p2 p3 r3 r13 r17 m287 a318) i301
  else
   if r3=true then
    (f_sidinglaw22_gives n p1 p1 p3 p3).bind fun r306 =>
    if r306=true then
     (f_sidinglaw22_gives n p1 p2 p1 p2).bind fun r310 =>
     if r310=true then
      (f_sidinglaw22_gives n p1 p2 p2 p2).bind fun r314 =>
      some r314
     else
      some false
    else
     some false
   else
    some false
def f_sidinglaw22_TreemergeLaws_L42 (n:Nat) (p1:List GFile) (p2:List GFile) (p3:List GFile) (r3:Bool) (r13:(List GFile)×(List GTrouble)×Int) (r17:(List (List UInt8))×Int):Nat→Int→Option (Bool)
 | 0,_=>none
 | m42+1,v43 =>
  if (decide (v43<(r17.1.length:Int)))=true then
   (ix r17.1 v43).bind fun x50 =>
   (f_sidingref22_In n r13.2.1 x50).bind fun r53 =>
   (f_sidingref22_Equal n p2 p1 x50).bind fun r57 =>
   (f_sidingref22_Equal n p3 p1 x50).bind fun r60 =>
   if (decide (v43>0))=true then
    (rng (v43-1)).bind fun i66 =>
    (ix r17.1 i66).bind fun x68 =>
    if (!Op.bytesLess x68 x50)=true then
     some false
    else
     if (!(!r60))=true then
      if r53=true then
       some false
      else
       (f_sidingref22_Equal n r13.1 p2 x50).bind fun r76 =>
       if (!r76)=true then
        some false
       else
        if (!(!r57))=true then
         (f_sidingref22_Equal n r13.1 p3 x50).bind fun r83 =>
         if (!r83)=true then
          some false
         else
          (f_sidingref22_Equal n p2 p3 x50).bind fun r88 =>
          if r88=true then
           (f_sidingref22_Equal n r13.1 p2 x50).bind fun r93 =>
           if (!r93)=true then
            some false
           else
            (rng (v43+1)).bind fun i98 =>
            (fun (a320:Int)=>f_sidinglaw22_TreemergeLaws_L42 n p1 p2 p3 r3 r13 r17 m42 a320) i98
          else
           (rng (v43+1)).bind fun i102 =>
           (fun (a320:Int)=>f_sidinglaw22_TreemergeLaws_L42 n p1 p2 p3 r3 r13 r17 m42 a320) i102
        else
         (f_sidingref22_Equal n p2 p3 x50).bind fun r106 =>
         if r106=true then
          (f_sidingref22_Equal n r13.1 p2 x50).bind fun r111 =>
          if (!r111)=true then
           some false
          else
           (rng (v43+1)).bind fun i116 =>
           (fun (a320:Int)=>f_sidinglaw22_TreemergeLaws_L42 n p1 p2 p3 r3 r13 r17 m42 a320) i116
         else
          (rng (v43+1)).bind fun i120 =>
          (fun (a320:Int)=>f_sidinglaw22_TreemergeLaws_L42 n p1 p2 p3 r3 r13 r17 m42 a320) i120
     else
      if (!(!r57))=true then
       if r53=true then
        some false
       else
        (f_sidingref22_Equal n r13.1 p3 x50).bind fun r128 =>
        if (!r128)=true then
         some false
        else
         (f_sidingref22_Equal n p2 p3 x50).bind fun r133 =>
         if r133=true then
          (f_sidingref22_Equal n r13.1 p2 x50).bind fun r138 =>
          if (!r138)=true then
           some false
          else
           (rng (v43+1)).bind fun i143 =>
           (fun (a320:Int)=>f_sidinglaw22_TreemergeLaws_L42 n p1 p2 p3 r3 r13 r17 m42 a320) i143
         else
          (rng (v43+1)).bind fun i147 =>
          (fun (a320:Int)=>f_sidinglaw22_TreemergeLaws_L42 n p1 p2 p3 r3 r13 r17 m42 a320) i147
      else
       (f_sidingref22_Equal n p2 p3 x50).bind fun r151 =>
       if r151=true then
        if r53=true then
         some false
        else
         (f_sidingref22_Equal n r13.1 p2 x50).bind fun r158 =>
         if (!r158)=true then
          some false
         else
          (rng (v43+1)).bind fun i163 =>
          (fun (a320:Int)=>f_sidinglaw22_TreemergeLaws_L42 n p1 p2 p3 r3 r13 r17 m42 a320) i163
       else
        if r53=true then
         (f_sidingref22_Equal n r13.1 p2 x50).bind fun r168 =>
         if (!r168)=true then
          some false
         else
          (rng (v43+1)).bind fun i172 =>
          (fun (a320:Int)=>f_sidinglaw22_TreemergeLaws_L42 n p1 p2 p3 r3 r13 r17 m42 a320) i172
        else
         (rng (v43+1)).bind fun i175 =>
         (fun (a320:Int)=>f_sidinglaw22_TreemergeLaws_L42 n p1 p2 p3 r3 r13 r17 m42 a320) i175
   else
    if (!(!r60))=true then
     if r53=true then
      some false
     else
      (f_sidingref22_Equal n r13.1 p2 x50).bind fun r183 =>
      if (!r183)=true then
       some false
      else
       if (!(!r57))=true then
        (f_sidingref22_Equal n r13.1 p3 x50).bind fun r190 =>
        if (!r190)=true then
         some false
        else
         (f_sidingref22_Equal n p2 p3 x50).bind fun r195 =>
         if r195=true then
          (f_sidingref22_Equal n r13.1 p2 x50).bind fun r200 =>
          if (!r200)=true then
           some false
          else
           (rng (v43+1)).bind fun i205 =>
           (fun (a320:Int)=>f_sidinglaw22_TreemergeLaws_L42 n p1 p2 p3 r3 r13 r17 m42 a320) i205
         else
          (rng (v43+1)).bind fun i209 =>
          (fun (a320:Int)=>f_sidinglaw22_TreemergeLaws_L42 n p1 p2 p3 r3 r13 r17 m42 a320) i209
       else
        (f_sidingref22_Equal n p2 p3 x50).bind fun r213 =>
        if r213=true then
         (f_sidingref22_Equal n r13.1 p2 x50).bind fun r218 =>
         if (!r218)=true then
          some false
         else
          (rng (v43+1)).bind fun i223 =>
          (fun (a320:Int)=>f_sidinglaw22_TreemergeLaws_L42 n p1 p2 p3 r3 r13 r17 m42 a320) i223
        else
         (rng (v43+1)).bind fun i227 =>
         (fun (a320:Int)=>f_sidinglaw22_TreemergeLaws_L42 n p1 p2 p3 r3 r13 r17 m42 a320) i227
    else
     if (!(!r57))=true then
      if r53=true then
       some false
      else
       (f_sidingref22_Equal n r13.1 p3 x50).bind fun r235 =>
       if (!r235)=true then
        some false
       else
        (f_sidingref22_Equal n p2 p3 x50).bind fun r240 =>
        if r240=true then
         (f_sidingref22_Equal n r13.1 p2 x50).bind fun r245 =>
         if (!r245)=true then
          some false
         else
          (rng (v43+1)).bind fun i250 =>
          (fun (a320:Int)=>f_sidinglaw22_TreemergeLaws_L42 n p1 p2 p3 r3 r13 r17 m42 a320) i250
        else
         (rng (v43+1)).bind fun i254 =>
         (fun (a320:Int)=>f_sidinglaw22_TreemergeLaws_L42 n p1 p2 p3 r3 r13 r17 m42 a320) i254
     else
      (f_sidingref22_Equal n p2 p3 x50).bind fun r258 =>
      if r258=true then
       if r53=true then
        some false
       else
        (f_sidingref22_Equal n r13.1 p2 x50).bind fun r265 =>
        if (!r265)=true then
         some false
        else
         (rng (v43+1)).bind fun i270 =>
         (fun (a320:Int)=>f_sidinglaw22_TreemergeLaws_L42 n p1 p2 p3 r3 r13 r17 m42 a320) i270
      else
       if r53=true then
        (f_sidingref22_Equal n r13.1 p2 x50).bind fun r275 =>
        if (!r275)=true then
         some false
        else
         (rng (v43+1)).bind fun i279 =>
         (fun (a320:Int)=>f_sidinglaw22_TreemergeLaws_L42 n p1 p2 p3 r3 r13 r17 m42 a320) i279
       else
        (rng (v43+1)).bind fun i282 =>
        (fun (a320:Int)=>f_sidinglaw22_TreemergeLaws_L42 n p1 p2 p3 r3 r13 r17 m42 a320) i282
  else
   f_sidinglaw22_TreemergeLaws_L287 n p1 p2 p3 r3 r13 r17 n 0
def f_sidinglaw22_TreemergeLaws (n:Nat) (p1:List GFile) (p2:List GFile) (p3:List GFile):Option (Bool) :=
 (f_sidinglaw22_alive n).bind fun r3 =>
 (f_sidinglaw22_fit n p1 p2 p3).bind fun r8 =>
 if ((!r8)||(!r3))=true then
  some r3
 else
  (f_treemerge_Merge_b n p1 p2 p3).bind fun r13 =>
  (f_treemerge_Paths n p1 p2 p3).bind fun r17 =>
  if (r17.2 != 0)=true then
   some false
  else
   if (r13.2.2 != 0)=true then
    if r3=true then
     if ((r13.1.length:Int)==0)=true then
      some (((r13.2.1.length:Int)==0)&&((r13.2.2==4)||(r13.2.2==8)))
     else
      some false
    else
     some false
   else
    (f_tree_Check n r13.1).bind fun r30 =>
    if (r30 != 0)=true then
     some false
    else
     (f_sidingref21_Check n r13.1).bind fun r35 =>
     if (r35 != 0)=true then
      some false
     else
      f_sidinglaw22_TreemergeLaws_L42 n p1 p2 p3 r3 r13 r17 n 0
end Go.Zv.G
