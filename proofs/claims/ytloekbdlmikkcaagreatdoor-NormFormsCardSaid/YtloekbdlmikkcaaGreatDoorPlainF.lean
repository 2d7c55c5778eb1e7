/- Plain functions, printed from the program's functions. No condition. -/
import Derived.Test.YtloekbdlmikkcaaGreatDoorZvF7
import Derived.Test.YtloekbdlmikkcaaGreatDoorZvFx
import Derived.Test.YtloekbdlmikkcaaGreatDoorGlobF
set_option linter.unusedSimpArgs false
set_option linter.unusedVariables false
namespace Go.Zv.G
open Go Go.Zv
set_option maxRecDepth 100000
set_option linter.unusedVariables false
def letG (c:Nat):Bool:=!(Nat.ble 97 c&&Nat.ble c 122||Nat.ble 65 c&&Nat.ble c 90||Nat.ble 48 c&&Nat.ble c 57||Nat.beq c 45||Nat.beq c 95||Nat.beq c 46)
def wsI (bs s:List UInt8):Option (List UInt8):=if s≠[]∧bs.length+s.length≤lim then some (bs++s) else none
def strI (bs:List UInt8):Option (List UInt8):=if bs≠[] then some bs else none
def itoaI (n:Int):Option (List UInt8):=if 0≤n∧n<100 then some (dig10 n.toNat) else none
def growI (l:List UInt8) (n:Int):Option (List UInt8):=if l=[]∧0≤n∧n≤(lim:Int) then some [] else none
structure GHunk where
 at_:Int
 old_:List (List UInt8)
 new_:List (List UInt8)
structure GPatch where
 path_:List UInt8
 was_:Bool
 stays_:Bool
 hunks_:List GHunk
def eGH (x:GHunk):List V:=[.int .i64 x.at_,.sl 1 false (x.old_.map encS),.sl 1 false (x.new_.map encS)]
def eGP (x:GPatch):List V:=[.str x.path_,.bool x.was_,.bool x.stays_,.sl 3 false (x.hunks_.map eGH)]
def qbf (x:List UInt8):List V:=[.sl 1 false (x.map encB)]
def qal (x:Int):List V:=[.int .u32 x]
def insG (r:GPatch):List GPatch→List GPatch
 | []=>[r]
 | x::xs=>if Op.bytesLess x.path_ r.path_=true then x::insG r xs else r::x::xs
def sortP:List GPatch→List GPatch
 | []=>[]
 | r::rs=>insG r (sortP rs)
def nodupG:List (List UInt8)→Bool
 | []=>true
 | x::xs=>!xs.contains x&&nodupG xs
def sortG (l:List GPatch):Option (List GPatch):=if l.length≤lim∧nodupG (l.map GPatch.path_)=true then some (sortP l) else none
def qcp (p1:List (List UInt8)):Nat→Int→Option (Bool)
 | 0,_=>none
 | m5+1,v6 =>
  if ((decide (v6<(p1.length:Int)))&&(decide (v6≤200)))=true then
   (ix p1 v6).bind fun x13 =>
   if (decide ((x13.length:Int)>3000))=true then
    some true
   else
    (rng (v6+1)).bind fun i16 =>
    (fun (a21:Int)=>qcp p1 m5 a21) i16
  else
   some (decide ((p1.length:Int)>200))
def qfq (n:Nat) (p1:List (List UInt8)):Option (Bool) :=
 qcp p1 n 0
def qcq (n:Nat) (p1:List GHunk):Nat→Int→Option (Bool)
 | 0,_=>none
 | m5+1,v6 =>
  if ((decide (v6<(p1.length:Int)))&&(decide (v6≤60)))=true then
   (ix p1 v6).bind fun x13 =>
   (qfq n x13.old_).bind fun r15 =>
   if r15=true then
    some true
   else
    (qfq n x13.new_).bind fun r20 =>
    if r20=true then
     some true
    else
     (rng (v6+1)).bind fun i24 =>
     (fun (a29:Int)=>qcq n p1 m5 a29) i24
  else
   some (decide ((p1.length:Int)>60))
def qg1 (n:Nat) (p1:List GHunk):Option (Bool) :=
 qcq n p1 n 0
def qds (p1:List (List UInt8)) (v8:Int) (rec6:(List UInt8)→Int→Option ((List UInt8))) (v16:List UInt8):Option ((List UInt8)) :=
 (ix p1 v8).bind fun x17 =>
 (need (v16.length+x17.length≤lim)).bind fun _ =>
 (rng (v8+1)).bind fun i20 =>
 rec6 (v16++x17) i20
def qba (p1:List (List UInt8)):Nat→(List UInt8)→Int→Option ((List UInt8))
 | 0,_,_=>none
 | m6+1,v7,v8 =>
  if (decide (v8<(p1.length:Int)))=true then
   if (decide (v8>0))=true then
    (need (v7.length+1≤lim)).bind fun _ =>
    qds p1 v8 (fun (a27:List UInt8) (a28:Int)=>qba p1 m6 a27 a28) (v7++([(10:UInt8)]:List UInt8))
   else
    qds p1 v8 (fun (a27:List UInt8) (a28:Int)=>qba p1 m6 a27 a28) v7
  else
   some v7
def qfr (n:Nat) (p1:List (List UInt8)):Option ((List UInt8)) :=
 qba p1 n ([]:List UInt8) 0
def qce (n:Nat) (p1:List GPatch) (v8:Int) (rec6:Int→Int→Option (Bool)):Nat→Int→Int→Option (Bool)
 | 0,_,_=>none
 | m27+1,v28,v29 =>
  (ix p1 v8).bind fun x34 =>
  if (decide (v29<(x34.hunks_.length:Int)))=true then
   (ix x34.hunks_ v29).bind fun x38 =>
   (qfr n x38.old_).bind fun r40 =>
   (qfr n x38.new_).bind fun r43 =>
   (rng ((r40.length:Int)+(r43.length:Int))).bind fun i46 =>
   (rng (v28+i46)).bind fun i48 =>
   (rng (v29+1)).bind fun i50 =>
   (fun (a55:Int) (a56:Int)=>qce n p1 v8 rec6 m27 a55 a56) i48 i50
  else
   (rng (v8+1)).bind fun i52 =>
   rec6 v28 i52
def qa3 (n:Nat) (p1:List GPatch):Nat→Int→Int→Option (Bool)
 | 0,_,_=>none
 | m6+1,v7,v8 =>
  if ((decide (v8<(p1.length:Int)))&&(decide (v8≤40)))=true then
   (ix p1 v8).bind fun x17 =>
   if (decide ((x17.path_.length:Int)>200))=true then
    some true
   else
    (qg1 n x17.hunks_).bind fun r21 =>
    if r21=true then
     some true
    else
     qce n p1 v8 (fun (a60:Int) (a61:Int)=>qa3 n p1 m6 a60 a61) m6 v7 0
  else
   some ((decide ((p1.length:Int)>40))||(decide (v7>4000)))
def qfs (n:Nat) (p1:List GPatch):Option (Bool) :=
 qa3 n p1 n 0 0
def qcr (p1:List GHunk):Nat→(List GHunk)→Int→Option ((List GHunk))
 | 0,_,_=>none
 | m6+1,v7,v8 =>
  if (decide (v8<(p1.length:Int)))=true then
   (ix p1 v8).bind fun x15 =>
   (need (x15.old_.length≤lim)).bind fun _ =>
   (need (x15.new_.length≤lim)).bind fun _ =>
   (need (v7.length+1≤lim)).bind fun _ =>
   (rng (v8+1)).bind fun i20 =>
   (fun (a24:List GHunk) (a25:Int)=>qcr p1 m6 a24 a25) (v7++([(⟨x15.at_,(([]:List (List UInt8))++x15.old_),(([]:List (List UInt8))++x15.new_)⟩:GHunk)]:List GHunk)) i20
  else
   some v7
def qg2 (n:Nat) (p1:List GHunk):Option ((List GHunk)) :=
 qcr p1 n ([]:List GHunk) 0
def qcs (n:Nat) (p1:List GPatch):Nat→(List GPatch)→Int→Option ((List GPatch))
 | 0,_,_=>none
 | m6+1,v7,v8 =>
  if (decide (v8<(p1.length:Int)))=true then
   (ix p1 v8).bind fun x15 =>
   (qg2 n x15.hunks_).bind fun r17 =>
   (need (v7.length+1≤lim)).bind fun _ =>
   (rng (v8+1)).bind fun i21 =>
   (fun (a25:List GPatch) (a26:Int)=>qcs n p1 m6 a25 a26) (v7++([(⟨x15.path_,x15.was_,x15.stays_,r17⟩:GPatch)]:List GPatch)) i21
  else
   some v7
def qg3 (n:Nat) (p1:List GPatch):Option ((List GPatch)) :=
 qcs n p1 n ([]:List GPatch) 0
def qjk (n:Nat) (p1:List UInt8) (p2:Bool) (p3:Bool) (p4:List GHunk) (p5:List UInt8) (p6:Bool) (p7:Bool) (p8:List GHunk):Option (Bool) :=
 some (p1==p5)
def qai (n:Nat) (p1:List GPatch) (p2:List UInt8) (p3:Bool) (p4:Bool) (p5:List GHunk):Nat→Int→Option (Int)
 | 0,_=>none
 | m5+1,v6 =>
  if (decide (v6<(p1.length:Int)))=true then
   (ix p1 v6).bind fun x14 =>
   (qjk n x14.path_ x14.was_ x14.stays_ x14.hunks_ p2 p3 p4 p5).bind fun r16 =>
   if r16=true then
    some v6
   else
    (rng (v6+1)).bind fun i20 =>
    (fun (a25:Int)=>qai n p1 p2 p3 p4 p5 m5 a25) i20
  else
   some (-1)
def qb9 (n:Nat) (p1:List GPatch) (p2:List UInt8) (p3:Bool) (p4:Bool) (p5:List GHunk):Option (Int) :=
 qai n p1 p2 p3 p4 p5 n 0
def qbu (n:Nat) (p1:List GPatch) (p2:List UInt8) (p3:Bool) (p4:Bool) (p5:List GHunk):Option (Bool) :=
 (qb9 n p1 p2 p3 p4 p5).bind fun r3 =>
 some (decide (r3≥0))
def qdn (n:Nat) (p1:List UInt8) (p2:Int):Option (Int) :=
 some (idx8 p2.toNat.toUInt8 p1 0)
def qfa (n:Nat) (p1:List UInt8) (p2:List UInt8):Option (Int) :=
 if (((p2.length:Int)==0)||(p2==p1))=true then
  some 0
 else
  if ((p2.length:Int)==1)=true then
   (ix p2 0).bind fun x9 =>
   (qdn n p1 (x9.toNat:Int)).bind fun r11 =>
   some r11
  else
   if (decide ((p2.length:Int)≥(p1.length:Int)))=true then
    some (-1)
   else
    none
def qfx (n:Nat) (p1:List UInt8) (p2:List UInt8):Option (Int) :=
 (qfa n p1 p2).bind fun r3 =>
 some r3
def qeh (n:Nat) (p2:List UInt8):Nat→(List UInt8)→Int→Option (Int)
 | 0,_,_=>none
 | m15+1,v16,v17 =>
  (qfx n v16 p2).bind fun r22 =>
  if (r22==(-1))=true then
   some v17
  else
   (rng (v17+1)).bind fun i29 =>
   (rng (r22+(p2.length:Int))).bind fun i31 =>
   (cutI v16 i31 (v16.length:Int)).bind fun l33 =>
   (fun (a36:List UInt8) (a37:Int)=>qeh n p2 m15 a36 a37) l33 i29
def qg4 (n:Nat) (p1:List UInt8) (p2:List UInt8):Option (Int) :=
 if ((p2.length:Int)==0)=true then
  none
 else
  if ((p2.length:Int)==1)=true then
   (ix p2 0).bind fun x8 =>
   some (cnt8 (x8.toNat:Int).toNat.toUInt8 p1:Nat)
  else
   qeh n p2 n p1 0
def qdt (v20:List UInt8) (v21:List (List UInt8)) (v22:Int):Option ((List (List UInt8))) :=
 (ix v21 v22).bind fun x24 =>
 (rng (v22+1)).bind fun i27 =>
 (cutI (v21.set v22.toNat v20) 0 i27).bind fun l29 =>
 some l29
def qcf (n:Nat) (p2:List UInt8) (p3:Int) (i16:Int):Nat→(List UInt8)→(List (List UInt8))→Int→Option ((List (List UInt8)))
 | 0,_,_,_=>none
 | m32+1,v33,v34,v35 =>
  if (decide (v35<i16))=true then
   (qfx n v33 p2).bind fun r43 =>
   if (decide (r43<0))=true then
    qdt v33 v34 v35
   else
    (rng (r43+p3)).bind fun i49 =>
    (cutI v33 0 i49).bind fun l51 =>
    (ix v34 v35).bind fun x53 =>
    (rng (r43+(p2.length:Int))).bind fun i56 =>
    (cutI v33 i56 (v33.length:Int)).bind fun l58 =>
    (rng (v35+1)).bind fun i60 =>
    (fun (a64:List UInt8) (a65:List (List UInt8)) (a66:Int)=>qcf n p2 p3 i16 m32 a64 a65 a66) l58 (v34.set v35.toNat l51) i60
  else
   qdt v33 v34 v35
def qes (n:Nat) (p1:List UInt8) (p2:List UInt8) (p3:Int) (v9:Int):Option ((List (List UInt8))) :=
 (rng ((p1.length:Int)+1)).bind fun i11 =>
 (need (0≤(if i11<v9 then i11 else v9)∧(if i11<v9 then i11 else v9)≤(if i11<v9 then i11 else v9)∧(if i11<v9 then i11 else v9)≤(lim:Int))).bind fun _ =>
 (rng ((if i11<v9 then i11 else v9)-1)).bind fun i16 =>
 qcf n p2 p3 i16 n p1 (List.replicate (if i11<v9 then i11 else v9).toNat ([]:List UInt8)) 0
def qg5 (n:Nat) (p1:List UInt8) (p2:List UInt8) (p3:Int) (p4:Int):Option ((List (List UInt8))) :=
 if (p4==0)=true then
  some ([]:List (List UInt8))
 else
  if (p2==([]:List UInt8))=true then
   none
  else
   if (decide (p4<0))=true then
    (qg4 n p1 p2).bind fun r68 =>
    (rng (r68+1)).bind fun i71 =>
    qes n p1 p2 p3 i71
   else
    qes n p1 p2 p3 p4
def qg6 (n:Nat) (p1:List UInt8) (p2:List UInt8):Option ((List (List UInt8))) :=
 (qg5 n p1 p2 0 (-1)).bind fun r3 =>
 some r3
def qii (n:Nat) (p1:List UInt8):Option (Bool) :=
 if (((p1==([]:List UInt8))||(p1==([46]:List UInt8)))||(p1==([46,46]:List UInt8)))=true then
  some true
 else
  some (p1.any fun b=>letG b.toNat)
def qaj (n:Nat) (p1:List (List UInt8)):Nat→Int→Option (Int)
 | 0,_=>none
 | m5+1,v6 =>
  if (decide (v6<(p1.length:Int)))=true then
   (ix p1 v6).bind fun x14 =>
   (qii n x14).bind fun r16 =>
   if r16=true then
    some v6
   else
    (rng (v6+1)).bind fun i20 =>
    (fun (a25:Int)=>qaj n p1 m5 a25) i20
  else
   some (-1)
def qca (n:Nat) (p1:List (List UInt8)):Option (Int) :=
 qaj n p1 n 0
def qa1 (n:Nat) (p1:List (List UInt8)):Option (Bool) :=
 (qca n p1).bind fun r3 =>
 some (decide (r3≥0))
def qjt (n:Nat) (p1:List UInt8):Option (Bool) :=
 if (((p1.length:Int)==0)||(decide ((p1.length:Int)>60)))=true then
  some false
 else
  (qg6 n p1 ([47]:List UInt8)).bind fun r6 =>
  (qa1 n r6).bind fun r9 =>
  some (!r9)
def qfb (n:Nat) (p1:List UInt8) (p2:Int):Option (Int) :=
 (qdn n p1 p2).bind fun r3 =>
 some r3
def qhr (n:Nat) (p1:List UInt8):Option (Bool) :=
 if (decide ((p1.length:Int)>2000))=true then
  some true
 else
  (qfb n p1 10).bind fun r4 =>
  some (decide (r4≥0))
def qah (n:Nat) (p1:List (List UInt8)):Nat→Int→Option (Int)
 | 0,_=>none
 | m5+1,v6 =>
  if (decide (v6<(p1.length:Int)))=true then
   (ix p1 v6).bind fun x14 =>
   (qhr n x14).bind fun r16 =>
   if r16=true then
    some v6
   else
    (rng (v6+1)).bind fun i20 =>
    (fun (a25:Int)=>qah n p1 m5 a25) i20
  else
   some (-1)
def qb7 (n:Nat) (p1:List (List UInt8)):Option (Int) :=
 qah n p1 n 0
def qbm (n:Nat) (p1:List (List UInt8)):Option (Bool) :=
 (qb7 n p1).bind fun r3 =>
 some (decide (r3≥0))
def qhs (n:Nat) (p1:List (List UInt8)):Option (Bool) :=
 if (decide ((p1.length:Int)≤60))=true then
  (qbm n p1).bind fun r4 =>
  some (!r4)
 else
  some false
def qi6 (n:Nat) (p1:Int) (p2:List (List UInt8)) (p3:List (List UInt8)):Option (Bool) :=
 if (decide (p1≥0))=true then
  if (decide (p1≤60))=true then
   (qhs n p2).bind fun r5 =>
   if r5=true then
    (qhs n p3).bind fun r9 =>
    if r9=true then
     (rng ((p2.length:Int)+(p3.length:Int))).bind fun i13 =>
     some (decide (i13>0))
    else
     some false
   else
    some false
  else
   some false
 else
  some false
def qdz (n:Nat) (p1:List GHunk):Nat→Int→Int→Option (Int)
 | 0,_,_=>none
 | m9+1,v10,v11 =>
  if (decide (v11<(p1.length:Int)))=true then
   (ix p1 v11).bind fun x19 =>
   (qi6 n x19.at_ x19.old_ x19.new_).bind fun r23 =>
   if (!r23)=true then
    some 8
   else
    if (decide (x19.at_<v10))=true then
     some 8
    else
     (rng (x19.at_+(x19.old_.length:Int))).bind fun i29 =>
     (rng (i29+1)).bind fun i31 =>
     (rng (v11+1)).bind fun i33 =>
     (fun (a38:Int) (a39:Int)=>qdz n p1 m9 a38 a39) i31 i33
  else
   some 0
def qgf (n:Nat) (p1:List GHunk):Option (Int) :=
 if (decide ((p1.length:Int)>40))=true then
  some 4
 else
  qdz n p1 n 0 0
def qfy (p2:Bool) (p3:Bool) (p4:List GHunk):Option (Bool) :=
 if ((p4.length:Int) != 1)=true then
  some false
 else
  (ix p4 0).bind fun x8 =>
  if (x8.at_ != 0)=true then
   some false
  else
   if p2=true then
    if p3=true then
     some true
    else
     some ((x8.new_.length:Int)==0)
   else
    if ((x8.old_.length:Int)==0)=true then
     if p3=true then
      some true
     else
      some ((x8.new_.length:Int)==0)
    else
     some false
def qg7 (p2:Bool) (p3:Bool) (p4:List GHunk):Option (Bool) :=
 if p2=true then
  if p3=true then
   some true
  else
   qfy p2 p3 p4
 else
  qfy p2 p3 p4
def qi7 (n:Nat) (p1:List UInt8) (p2:Bool) (p3:Bool) (p4:List GHunk):Option (Bool) :=
 (qjt n p1).bind fun r23 =>
 if (!r23)=true then
  some false
 else
  if (!p2)=true then
   if (!p3)=true then
    some false
   else
    (qgf n p4).bind fun r31 =>
    if (r31 != 0)=true then
     some false
    else
     qg7 p2 p3 p4
  else
   (qgf n p4).bind fun r36 =>
   if (r36 != 0)=true then
    some false
   else
    qg7 p2 p3 p4
def qht (n:Nat) (p1:List UInt8) (p2:Bool) (p3:Bool) (p4:List GHunk):Option (Bool) :=
 (qi7 n p1 p2 p3 p4).bind fun r3 =>
 some (!r3)
def qak (n:Nat) (p1:List GPatch):Nat→Int→Option (Int)
 | 0,_=>none
 | m5+1,v6 =>
  if (decide (v6<(p1.length:Int)))=true then
   (ix p1 v6).bind fun x14 =>
   (qht n x14.path_ x14.was_ x14.stays_ x14.hunks_).bind fun r16 =>
   if r16=true then
    some v6
   else
    (rng (v6+1)).bind fun i20 =>
    (fun (a25:Int)=>qak n p1 m5 a25) i20
  else
   some (-1)
def qcb (n:Nat) (p1:List GPatch):Option (Int) :=
 qak n p1 n 0
def qbv (n:Nat) (p1:List GPatch):Option (Bool) :=
 (qcb n p1).bind fun r3 =>
 some (decide (r3≥0))
def qd0 (n:Nat) (p1:List GPatch):Nat→Int→Option (Int)
 | 0,_=>none
 | m8+1,v9 =>
  if (decide (v9<(p1.length:Int)))=true then
   (ix p1 v9).bind fun x16 =>
   (cutI p1 0 v9).bind fun l19 =>
   (qbu n l19 x16.path_ x16.was_ x16.stays_ x16.hunks_).bind fun r21 =>
   if r21=true then
    some 14
   else
    (rng (v9+1)).bind fun i25 =>
    (fun (a37:Int)=>qd0 n p1 m8 a37) i25
  else
   (qbv n p1).bind fun r30 =>
   if r30=true then
    some 8
   else
    some 0
def qe3 (n:Nat) (p1:List GPatch):Option (Int) :=
 if (decide ((p1.length:Int)>24))=true then
  some 4
 else
  qd0 n p1 n 0
def qdi:Nat→(List (List UInt8))→(List (List UInt8))→Option ((List (List UInt8))×(List (List UInt8)))
 | 0,_,_=>none
 | m27+1,v28,v30 =>
  if ((decide ((v28.length:Int)>0))&&(decide ((v30.length:Int)>0)))=true then
   (rng ((v28.length:Int)-1)).bind fun i39 =>
   (ix v28 i39).bind fun x41 =>
   (rng ((v30.length:Int)-1)).bind fun i43 =>
   (ix v30 i43).bind fun x45 =>
   if (x41==x45)=true then
    (rng ((v28.length:Int)-1)).bind fun i48 =>
    (cutI v28 0 i48).bind fun l50 =>
    (rng ((v30.length:Int)-1)).bind fun i52 =>
    (cutI v30 0 i52).bind fun l54 =>
    (fun (a71:List (List UInt8)) (a72:List (List UInt8))=>qdi m27 a71 a72) l50 l54
   else
    (lmt v28).bind fun r57 =>
    (lmt v30).bind fun r60 =>
    some (r57,r60)
  else
   (lmt v28).bind fun r65 =>
   (lmt v30).bind fun r68 =>
   some (r65,r68)
def qed:Nat→(List (List UInt8))→(List (List UInt8))→Option ((List (List UInt8))×(List (List UInt8)))
 | 0,_,_=>none
 | m76+1,v77,v79 =>
  if ((decide ((v77.length:Int)>0))&&(decide ((v79.length:Int)>0)))=true then
   (rng ((v77.length:Int)-1)).bind fun i88 =>
   (ix v77 i88).bind fun x90 =>
   (rng ((v79.length:Int)-1)).bind fun i92 =>
   (ix v79 i92).bind fun x94 =>
   if (x90==x94)=true then
    (rng ((v77.length:Int)-1)).bind fun i97 =>
    (cutI v77 0 i97).bind fun l99 =>
    (rng ((v79.length:Int)-1)).bind fun i101 =>
    (cutI v79 0 i101).bind fun l103 =>
    (fun (a120:List (List UInt8)) (a121:List (List UInt8))=>qed m76 a120 a121) l99 l103
   else
    (lmt v77).bind fun r106 =>
    (lmt v79).bind fun r109 =>
    some (r106,r109)
  else
   (lmt v77).bind fun r114 =>
   (lmt v79).bind fun r117 =>
   some (r114,r117)
def qdu (n:Nat):Nat→(List (List UInt8))→(List (List UInt8))→Option ((List (List UInt8))×(List (List UInt8)))
 | 0,_,_=>none
 | m4+1,v5,v7 =>
  if ((decide ((v5.length:Int)>0))&&(decide ((v7.length:Int)>0)))=true then
   (ix v5 0).bind fun x16 =>
   (ix v7 0).bind fun x18 =>
   if (x16==x18)=true then
    (cutI v5 1 (v5.length:Int)).bind fun l21 =>
    (cutI v7 1 (v7.length:Int)).bind fun l23 =>
    (fun (a122:List (List UInt8)) (a123:List (List UInt8))=>qdu n m4 a122 a123) l21 l23
   else
    qdi n v5 v7
  else
   qed n v5 v7
def qju (n:Nat) (p1:List (List UInt8)) (p2:List (List UInt8)):Option ((List (List UInt8))×(List (List UInt8))) :=
 qdu n n p1 p2
def qdj (n:Nat) (v7:List GPatch) (v8:Int) (x16:GPatch) (rec6:(List GPatch)→Int→Option ((List GPatch))):Nat→(List GHunk)→Int→Int→Option ((List GPatch))
 | 0,_,_,_=>none
 | m23+1,v24,v25,v26 =>
  if (decide (v26<(x16.hunks_.length:Int)))=true then
   (ix x16.hunks_ v26).bind fun x35 =>
   (qju n x35.old_ x35.new_).bind fun r38 =>
   (rng ((r38.1.length:Int)+(r38.2.length:Int))).bind fun i42 =>
   if (decide (i42>0))=true then
    (need (v24.length+1≤lim)).bind fun _ =>
    (rng ((r38.1.length:Int)+1)).bind fun i46 =>
    (rng (v25+i46)).bind fun i48 =>
    (rng (v26+1)).bind fun i50 =>
    (fun (a63:List GHunk) (a64:Int) (a65:Int)=>qdj n v7 v8 x16 rec6 m23 a63 a64 a65) (v24++([(⟨v25,r38.1,r38.2⟩:GHunk)]:List GHunk)) i48 i50
   else
    (rng (v26+1)).bind fun i52 =>
    (fun (a63:List GHunk) (a64:Int) (a65:Int)=>qdj n v7 v8 x16 rec6 m23 a63 a64 a65) v24 v25 i52
  else
   if (decide ((v24.length:Int)>0))=true then
    (need (v7.length+1≤lim)).bind fun _ =>
    (rng (v8+1)).bind fun i57 =>
    rec6 (v7++([(⟨x16.path_,x16.was_,x16.stays_,v24⟩:GPatch)]:List GPatch)) i57
   else
    (rng (v8+1)).bind fun i59 =>
    rec6 v7 i59
def qcw (n:Nat) (p1:List GPatch):Nat→(List GPatch)→Int→Option ((List GPatch))
 | 0,_,_=>none
 | m6+1,v7,v8 =>
  if (decide (v8<(p1.length:Int)))=true then
   (ix p1 v8).bind fun x16 =>
   qdj n v7 v8 x16 (fun (a72:List GPatch) (a73:Int)=>qcw n p1 m6 a72 a73) m6 ([]:List GHunk) 0 0
  else
   (sortG v7).bind fun r67 =>
   some r67
def qf9 (n:Nat) (p1:List GPatch):Option ((List GPatch)) :=
 qcw n p1 n ([]:List GPatch) 0
def qhe (n:Nat) (p1:List GPatch):Option ((List GPatch)×Int) :=
 (qe3 n p1).bind fun r4 =>
 if (r4 != 0)=true then
  some (([]:List GPatch),r4)
 else
  (qf9 n p1).bind fun r10 =>
  some (r10,0)
def qct (p1:List UInt8):Nat→Int→Option (Bool)
 | 0,_=>none
 | m8+1,v9 =>
  if (decide (v9<(p1.length:Int)))=true then
   (ix p1 v9).bind fun x16 =>
   if ((((((!((decide ((x16.toNat:Int)≥97))&&(decide ((x16.toNat:Int)≤122))))&&(!((decide ((x16.toNat:Int)≥65))&&(decide ((x16.toNat:Int)≤90)))))&&(!((decide ((x16.toNat:Int)≥48))&&(decide ((x16.toNat:Int)≤57)))))&&((x16.toNat:Int) != 45))&&((x16.toNat:Int) != 95))&&((x16.toNat:Int) != 46))=true then
    some false
   else
    (rng (v9+1)).bind fun i20 =>
    (fun (a25:Int)=>qct p1 m8 a25) i20
  else
   some true
def qet (n:Nat) (p1:List UInt8):Option (Bool) :=
 if ((((p1.length:Int)==0)||(p1==([46]:List UInt8)))||(p1==([46,46]:List UInt8)))=true then
  some false
 else
  qct p1 n 0
def qbx (n:Nat) (p1:List UInt8):Nat→Int→Int→Option (Bool)
 | 0,_,_=>none
 | m9+1,v10,v11 =>
  if (decide (v11<(p1.length:Int)))=true then
   (ix p1 v11).bind fun x19 =>
   if ((x19.toNat:Int)==47)=true then
    (cutI p1 v10 v11).bind fun l23 =>
    (qet n l23).bind fun r25 =>
    if (!r25)=true then
     some false
    else
     (rng (v11+1)).bind fun i29 =>
     (rng (v11+1)).bind fun i31 =>
     (fun (a44:Int) (a45:Int)=>qbx n p1 m9 a44 a45) i29 i31
   else
    (rng (v11+1)).bind fun i34 =>
    (fun (a44:Int) (a45:Int)=>qbx n p1 m9 a44 a45) v10 i34
  else
   (cutI p1 v10 (p1.length:Int)).bind fun l38 =>
   (qet n l38).bind fun r40 =>
   some r40
def qft (n:Nat) (p1:List UInt8):Option (Bool) :=
 if (decide ((p1.length:Int)>60))=true then
  some false
 else
  qbx n p1 n 0 0
def qbn (p1:List UInt8):Nat→(List (List UInt8))→Int→Int→Option ((List (List UInt8)))
 | 0,_,_,_=>none
 | m7+1,v8,v9,v10 =>
  if (decide (v10<(p1.length:Int)))=true then
   (ix p1 v10).bind fun x19 =>
   if ((x19.toNat:Int)==10)=true then
    (rng ((v8.length:Int)-1)).bind fun i22 =>
    (cutI p1 v9 v10).bind fun l24 =>
    (ix v8 i22).bind fun x26 =>
    (need (v8.length+1≤lim)).bind fun _ =>
    (rng (v10+1)).bind fun i30 =>
    (rng (v10+1)).bind fun i32 =>
    (fun (a46:List (List UInt8)) (a47:Int) (a48:Int)=>qbn p1 m7 a46 a47 a48) ((v8.set i22.toNat l24)++([([]:List UInt8)]:List (List UInt8))) i30 i32
   else
    (rng (v10+1)).bind fun i34 =>
    (fun (a46:List (List UInt8)) (a47:Int) (a48:Int)=>qbn p1 m7 a46 a47 a48) v8 v9 i34
  else
   (rng ((v8.length:Int)-1)).bind fun i38 =>
   (cutI p1 v9 (p1.length:Int)).bind fun l40 =>
   (ix v8 i38).bind fun x42 =>
   some (v8.set i38.toNat l40)
def qfc (n:Nat) (p1:List UInt8):Option ((List (List UInt8))) :=
 qbn p1 n ([([]:List UInt8)]:List (List UInt8)) 0 0
def qby (n:Nat) (p1:List (List UInt8)):Nat→Int→Option (Bool)
 | 0,_=>none
 | m5+1,v6 =>
  if (decide (v6<(p1.length:Int)))=true then
   (ix p1 v6).bind fun x13 =>
   (qfc n x13).bind fun r15 =>
   if (decide ((r15.length:Int)>1))=true then
    some true
   else
    (rng (v6+1)).bind fun i19 =>
    (fun (a24:Int)=>qby n p1 m5 a24) i19
  else
   some false
def qfu (n:Nat) (p1:List (List UInt8)):Option (Bool) :=
 qby n p1 n 0
def qbo (n:Nat) (p1:List (List UInt8)):Nat→Int→Option (Bool)
 | 0,_=>none
 | m5+1,v6 =>
  if (decide (v6<(p1.length:Int)))=true then
   (ix p1 v6).bind fun x13 =>
   if (decide ((x13.length:Int)>2000))=true then
    some false
   else
    (rng (v6+1)).bind fun i16 =>
    (fun (a25:Int)=>qbo n p1 m5 a25) i16
  else
   if (decide ((p1.length:Int)≤60))=true then
    (qfu n p1).bind fun r21 =>
    some (!r21)
   else
    some false
def qei (n:Nat) (p1:List (List UInt8)):Option (Bool) :=
 qbo n p1 n 0
def qfd (n:Nat) (p1:Int) (p2:List (List UInt8)) (p3:List (List UInt8)):Option (Bool) :=
 if (decide (p1≥0))=true then
  if (decide (p1≤60))=true then
   (qei n p2).bind fun r5 =>
   if r5=true then
    (qei n p3).bind fun r9 =>
    if r9=true then
     if (decide ((p2.length:Int)>0))=true then
      some true
     else
      some (decide ((p3.length:Int)>0))
    else
     some false
   else
    some false
  else
   some false
 else
  some false
def qa4 (n:Nat) (p1:List GHunk):Nat→Int→Option (Int)
 | 0,_=>none
 | m8+1,v9 =>
  if (decide (v9<(p1.length:Int)))=true then
   (ix p1 v9).bind fun x17 =>
   (qfd n x17.at_ x17.old_ x17.new_).bind fun r19 =>
   if (!r19)=true then
    some 8
   else
    if (decide (v9>0))=true then
     (rng (v9-1)).bind fun i25 =>
     (ix p1 i25).bind fun x27 =>
     (rng (v9-1)).bind fun i29 =>
     (ix p1 i29).bind fun x31 =>
     (rng (x27.at_+(x31.old_.length:Int))).bind fun i33 =>
     if (decide (x17.at_≤i33))=true then
      some 8
     else
      (rng (v9+1)).bind fun i36 =>
      (fun (a44:Int)=>qa4 n p1 m8 a44) i36
    else
     (rng (v9+1)).bind fun i39 =>
     (fun (a44:Int)=>qa4 n p1 m8 a44) i39
  else
   some 0
def qdy (n:Nat) (p1:List GHunk):Option (Int) :=
 if (decide ((p1.length:Int)>40))=true then
  some 4
 else
  qa4 n p1 n 0
def qea (p2:Bool) (p4:List GHunk):Option (Bool) :=
 if (!p2)=true then
  (ix p4 0).bind fun x18 =>
  some ((x18.old_.length:Int)==0)
 else
  (ix p4 0).bind fun x21 =>
  some ((x21.new_.length:Int)==0)
def qeb (p2:Bool) (p3:Bool) (p4:List GHunk):Option (Bool) :=
 if (!p2)=true then
  if (!p3)=true then
   some false
  else
   if ((p4.length:Int) != 1)=true then
    some false
   else
    (ix p4 0).bind fun x30 =>
    if (x30.at_ != 0)=true then
     some false
    else
     qea p2 p4
 else
  if ((p4.length:Int) != 1)=true then
   some false
  else
   (ix p4 0).bind fun x36 =>
   if (x36.at_ != 0)=true then
    some false
   else
    qea p2 p4
def qfe (n:Nat) (p1:List UInt8) (p2:Bool) (p3:Bool) (p4:List GHunk):Option (Bool) :=
 (qft n p1).bind fun r4 =>
 if (!r4)=true then
  some false
 else
  (qdy n p4).bind fun r9 =>
  if (r9 != 0)=true then
   some false
  else
   if p2=true then
    if p3=true then
     some true
    else
     qeb p2 p3 p4
   else
    qeb p2 p3 p4
def qbc (p1:List GPatch) (v9:Int) (rec8:Int→Option (Int)):Nat→Int→Option (Int)
 | 0,_=>none
 | m17+1,v18 =>
  if (decide (v18<v9))=true then
   (ix p1 v9).bind fun x25 =>
   (ix p1 v18).bind fun x27 =>
   if (x25.path_==x27.path_)=true then
    some 14
   else
    (rng (v18+1)).bind fun i30 =>
    (fun (a36:Int)=>qbc p1 v9 rec8 m17 a36) i30
  else
   (rng (v9+1)).bind fun i33 =>
   rec8 i33
def qbd (n:Nat) (p1:List GPatch):Nat→Int→Option (Int)
 | 0,_=>none
 | m40+1,v41 =>
  if (decide (v41<(p1.length:Int)))=true then
   (ix p1 v41).bind fun x48 =>
   (qfe n x48.path_ x48.was_ x48.stays_ x48.hunks_).bind fun r50 =>
   if (!r50)=true then
    some 8
   else
    (rng (v41+1)).bind fun i54 =>
    (fun (a59:Int)=>qbd n p1 m40 a59) i54
  else
   some 0
def qaw (n:Nat) (p1:List GPatch):Nat→Int→Option (Int)
 | 0,_=>none
 | m8+1,v9 =>
  if (decide (v9<(p1.length:Int)))=true then
   qbc p1 v9 (fun (a61:Int)=>qaw n p1 m8 a61) m8 0
  else
   qbd n p1 n 0
def qa0 (n:Nat) (p1:List GPatch):Option (Int) :=
 if (decide ((p1.length:Int)>24))=true then
  some 4
 else
  qaw n p1 n 0
def qcm (p2:List (List UInt8)) (p3:List (List UInt8)) (v4:Int) (v7:Int):Option (Int×(List (List UInt8))×(List (List UInt8))) :=
 (rng ((p2.length:Int)-v7)).bind fun i9 =>
 (cutI p2 v4 i9).bind fun l11 =>
 (need (l11.length≤lim)).bind fun _ =>
 (rng ((p3.length:Int)-v7)).bind fun i14 =>
 (cutI p3 v4 i14).bind fun l16 =>
 (need (l16.length≤lim)).bind fun _ =>
 some (0,(([]:List (List UInt8))++l11),(([]:List (List UInt8))++l16))
def qbg (p2:List (List UInt8)) (p3:List (List UInt8)) (v4:Int):Nat→Int→Option (Int×(List (List UInt8))×(List (List UInt8)))
 | 0,_=>none
 | m20+1,v21 =>
  (rng (v4+v21)).bind fun i25 =>
  if (decide (i25<(p2.length:Int)))=true then
   (rng (v4+v21)).bind fun i28 =>
   if (decide (i28<(p3.length:Int)))=true then
    (rng ((p2.length:Int)-1)).bind fun i31 =>
    (rng (i31-v21)).bind fun i33 =>
    (ix p2 i33).bind fun x35 =>
    (rng ((p3.length:Int)-1)).bind fun i37 =>
    (rng (i37-v21)).bind fun i39 =>
    (ix p3 i39).bind fun x41 =>
    if (x35==x41)=true then
     (rng (v21+1)).bind fun i44 =>
     (fun (a47:Int)=>qbg p2 p3 v4 m20 a47) i44
    else
     qcm p2 p3 v4 v21
   else
    qcm p2 p3 v4 v21
  else
   qcm p2 p3 v4 v21
def qdf (n:Nat) (p2:List (List UInt8)) (p3:List (List UInt8)) (v4:Int):Option (Int×(List (List UInt8))×(List (List UInt8))) :=
 qbg p2 p3 v4 n 0
def qbh (n:Nat) (p2:List (List UInt8)) (p3:List (List UInt8)):Nat→Int→Option (Int×(List (List UInt8))×(List (List UInt8)))
 | 0,_=>none
 | m49+1,v50 =>
  if (decide (v50<(p2.length:Int)))=true then
   if (decide (v50<(p3.length:Int)))=true then
    (ix p2 v50).bind fun x56 =>
    (ix p3 v50).bind fun x58 =>
    if (x56==x58)=true then
     (rng (v50+1)).bind fun i61 =>
     (fun (a64:Int)=>qbh n p2 p3 m49 a64) i61
    else
     qdf n p2 p3 v50
   else
    qdf n p2 p3 v50
  else
   qdf n p2 p3 v50
def qeu (n:Nat) (p1:Int) (p2:List (List UInt8)) (p3:List (List UInt8)):Option (Int×(List (List UInt8))×(List (List UInt8))) :=
 qbh n p2 p3 n 0
def qdv (v22:List GHunk) (v23:Int) (r35:Int×(List (List UInt8))×(List (List UInt8))) (rec21:(List GHunk)→Int→Option ((List GPatch))) (v40:Int):Option ((List GPatch)) :=
 (need (v22.length+1≤lim)).bind fun _ =>
 (rng (v23+1)).bind fun i42 =>
 rec21 (v22++([(⟨v40,r35.2.1,r35.2.2⟩:GHunk)]:List GHunk)) i42
def qdw (v22:List GHunk) (v23:Int) (r35:Int×(List (List UInt8))×(List (List UInt8))) (rec21:(List GHunk)→Int→Option ((List GPatch))):Option ((List GPatch)) :=
 if (decide ((v22.length:Int)>0))=true then
  (rng ((v22.length:Int)-1)).bind fun i46 =>
  (ix v22 i46).bind fun x48 =>
  (rng ((v22.length:Int)-1)).bind fun i50 =>
  (ix v22 i50).bind fun x52 =>
  (rng (x48.at_+(x52.old_.length:Int))).bind fun i54 =>
  (rng (i54+1)).bind fun i56 =>
  qdv v22 v23 r35 rec21 i56
 else
  qdv v22 v23 r35 rec21 r35.1
def qa5 (v8:Int) (rec6:(List GPatch)→Int→Option ((List GPatch))):Nat→(List GPatch)→Int→Option ((List GPatch))
 | 0,_,_=>none
 | m74+1,v75,v76 =>
  if (decide (v76>0))=true then
   (ix v75 v76).bind fun x82 =>
   (rng (v76-1)).bind fun i84 =>
   (ix v75 i84).bind fun x86 =>
   if (Op.bytesLess x82.path_ x86.path_)=true then
    (rng (v76-1)).bind fun i90 =>
    (rng (v76-1)).bind fun i92 =>
    (ix v75 i92).bind fun x94 =>
    (ix (v75.set v76.toNat x94) i90).bind fun x96 =>
    (rng (v76-1)).bind fun i98 =>
    (fun (a105:List GPatch) (a106:Int)=>qa5 v8 rec6 m74 a105 a106) ((v75.set v76.toNat x94).set i90.toNat x82) i98
   else
    (rng (v8+1)).bind fun i100 =>
    rec6 v75 i100
  else
   (rng (v8+1)).bind fun i103 =>
   rec6 v75 i103
def qao (n:Nat) (p1:List GPatch) (v7:List GPatch) (v8:Int) (m6:Nat) (x16:GPatch) (rec6:(List GPatch)→Int→Option ((List GPatch))):Nat→(List GHunk)→Int→Option ((List GPatch))
 | 0,_,_=>none
 | m21+1,v22,v23 =>
  (ix p1 v8).bind fun x28 =>
  if (decide (v23<(x28.hunks_.length:Int)))=true then
   (ix x28.hunks_ v23).bind fun x33 =>
   (qeu n x33.at_ x33.old_ x33.new_).bind fun r35 =>
   if ((r35.2.1.length:Int)==0)=true then
    if ((r35.2.2.length:Int)==0)=true then
     (rng (v23+1)).bind fun i61 =>
     (fun (a109:List GHunk) (a110:Int)=>qao n p1 v7 v8 m6 x16 rec6 m21 a109 a110) v22 i61
    else
     qdw v22 v23 r35 (fun (a109:List GHunk) (a110:Int)=>qao n p1 v7 v8 m6 x16 rec6 m21 a109 a110)
   else
    qdw v22 v23 r35 (fun (a109:List GHunk) (a110:Int)=>qao n p1 v7 v8 m6 x16 rec6 m21 a109 a110)
  else
   if ((v22.length:Int)==0)=true then
    (rng (v8+1)).bind fun i66 =>
    rec6 v7 i66
   else
    (need (v7.length+1≤lim)).bind fun _ =>
    (rng ((v7.length:Int))).bind fun i71 =>
    qa5 v8 rec6 m6 (v7++([(⟨x16.path_,x16.was_,x16.stays_,v22⟩:GPatch)]:List GPatch)) i71
def qam (n:Nat) (p1:List GPatch):Nat→(List GPatch)→Int→Option ((List GPatch))
 | 0,_,_=>none
 | m6+1,v7,v8 =>
  if (decide (v8<(p1.length:Int)))=true then
   (ix p1 v8).bind fun x16 =>
   qao n p1 v7 v8 m6 x16 (fun (a113:List GPatch) (a114:Int)=>qam n p1 m6 a113 a114) m6 ([]:List GHunk) 0
  else
   some v7
def qd5 (n:Nat) (p1:List GPatch):Option ((List GPatch)) :=
 qam n p1 n ([]:List GPatch) 0
def qev (n:Nat) (p1:List GPatch):Option ((List GPatch)×Int) :=
 (qa0 n p1).bind fun r4 =>
 if (r4 != 0)=true then
  (qa0 n p1).bind fun r8 =>
  some (([]:List GPatch),r8)
 else
  (qd5 n p1).bind fun r12 =>
  some (r12,0)
def qdk (v15:Int) (x23:GHunk) (rec13:(List UInt8)→Int→Option ((List UInt8)×Int)):Nat→(List UInt8)→Int→Option ((List UInt8)×Int)
 | 0,_,_=>none
 | m68+1,v69,v70 =>
  if (decide (v70<(x23.new_.length:Int)))=true then
   (ix x23.new_ v70).bind fun x78 =>
   (need (([43]:List UInt8).length+(x78).length≤qas)).bind fun _ =>
   (need ((43::x78).length+([10]:List UInt8).length≤qas)).bind fun _ =>
   (wsI v69 (43::(x78++[10]))).bind fun r82 =>
   (rng (v70+1)).bind fun i85 =>
   (fun (a90:List UInt8) (a91:Int)=>qdk v15 x23 rec13 m68 a90 a91) r82 i85
  else
   (rng (v15+1)).bind fun i87 =>
   rec13 v69 i87
def qdl (v15:Int) (m13:Nat) (x23:GHunk) (rec13:(List UInt8)→Int→Option ((List UInt8)×Int)):Nat→(List UInt8)→Int→Option ((List UInt8)×Int)
 | 0,_,_=>none
 | m47+1,v48,v49 =>
  if (decide (v49<(x23.old_.length:Int)))=true then
   (ix x23.old_ v49).bind fun x57 =>
   (need (([45]:List UInt8).length+(x57).length≤qas)).bind fun _ =>
   (need ((45::x57).length+([10]:List UInt8).length≤qas)).bind fun _ =>
   (wsI v48 (45::(x57++[10]))).bind fun r61 =>
   (rng (v49+1)).bind fun i64 =>
   (fun (a93:List UInt8) (a94:Int)=>qdl v15 m13 x23 rec13 m47 a93 a94) r61 i64
  else
   qdk v15 x23 rec13 m13 v48 0
def qbi (p1:List GHunk):Nat→(List UInt8)→Int→Option ((List UInt8)×Int)
 | 0,_,_=>none
 | m13+1,v14,v15 =>
  if (decide (v15<(p1.length:Int)))=true then
   (ix p1 v15).bind fun x23 =>
   (itoaI x23.at_).bind fun r26 =>
   (need (([64]:List UInt8).length+(r26).length≤qas)).bind fun _ =>
   (need ((64::r26).length+([32]:List UInt8).length≤qas)).bind fun _ =>
   (itoaI (x23.old_.length:Int)).bind fun r31 =>
   (need ((64::(r26++[32])).length+(r31).length≤qas)).bind fun _ =>
   (need ((64::(r26++(32::r31))).length+([32]:List UInt8).length≤qas)).bind fun _ =>
   (itoaI (x23.new_.length:Int)).bind fun r36 =>
   (need ((64::(r26++(32::(r31++[32])))).length+(r36).length≤qas)).bind fun _ =>
   (need ((64::(r26++(32::(r31++(32::r36))))).length+([10]:List UInt8).length≤qas)).bind fun _ =>
   (wsI v14 (64::(r26++(32::(r31++(32::(r36++[10]))))))).bind fun r41 =>
   qdl v15 m13 x23 (fun (a107:List UInt8) (a108:Int)=>qbi p1 m13 a107 a108) m13 r41 0
  else
   if (decide ((v14.length:Int)>20000))=true then
    some (([]:List UInt8),4)
   else
    (strI v14).bind fun r102 =>
    some (r102,0)
def qhf (n:Nat) (p1:List GHunk):Option ((List UInt8)×Int) :=
 (qgf n p1).bind fun r4 =>
 if (r4 != 0)=true then
  some (([]:List UInt8),r4)
 else
  qbi p1 n ([]:List UInt8) 0
def qgg (n:Nat) (p1:Bool):Option ((List UInt8)) :=
 if p1=true then
  some ([49]:List UInt8)
 else
  some ([48]:List UInt8)
def qjv (n:Nat):Option ((Nat→Int)×(List UInt8)×Int) :=
 some ((litA glob0),([]:List UInt8),0)
def qaq (p1:List (List UInt8)):Nat→(List UInt8)→Int→Option ((List UInt8))
 | 0,_,_=>none
 | m32+1,v33,v34 =>
  if (decide (v34<(p1.length:Int)))=true then
   (ix p1 v34).bind fun x42 =>
   (need (v33.length+x42.length≤lim)).bind fun _ =>
   (rng (v34+1)).bind fun i45 =>
   (fun (a49:List UInt8) (a50:Int)=>qaq p1 m32 a49 a50) (v33++x42) i45
  else
   some v33
def qax (n:Nat) (p1:List (List UInt8)):Nat→Int→Int→Option ((List UInt8))
 | 0,_,_=>none
 | m6+1,v7,v8 =>
  if (decide (v8<(p1.length:Int)))=true then
   (ix p1 v8).bind fun x16 =>
   (rng (v7+(x16.length:Int))).bind fun i19 =>
   if (decide (i19<0))=true then
    none
   else
    (rng (v8+1)).bind fun i22 =>
    (fun (a52:Int) (a53:Int)=>qax n p1 m6 a52 a53) i19 i22
  else
   (growI ([]:List UInt8) v7).bind fun r26 =>
   qaq p1 n r26 0
def qe4 (n:Nat) (p1:List (List UInt8)):Option ((List UInt8)) :=
 qax n p1 n 0 0
def qcn (n:Nat) (p1:Int) (p2:Int):Option (Int) :=
 (frc (IntKind.u64.wrap p2)).bind fun i3 =>
 (frc (bitsOf .and .u64 i3 31)).bind fun i5 =>
 (need (0≤i5)).bind fun _ =>
 (frc (IntKind.u32.wrap (p1*(2 ^ (min (Int.toNat i5) (IntKind.bits .u32)))))).bind fun i9 =>
 (frc (IntKind.u64.wrap (32-i5))).bind fun i11 =>
 (need (0≤i11)).bind fun _ =>
 (frc (Int.fdiv p1 (2 ^ (min (Int.toNat i11) (IntKind.bits .u32))))).bind fun i14 =>
 (frc (bitsOf .or .u32 i9 i14)).bind fun i16 =>
 some i16
def qdx (n:Nat) (p1:Int) (p2:List Int):Nat→Int→Int→Option (Int)
 | 0,_,_=>none
 | m6+1,v7,v8 =>
  if (decide (v8<(p2.length:Int)))=true then
   (ix p2 v8).bind fun x16 =>
   (rng (0-x16)).bind fun i18 =>
   (qcn n p1 i18).bind fun r20 =>
   (frc (bitsOf .xor .u32 v7 r20)).bind fun i23 =>
   (rng (v8+1)).bind fun i25 =>
   (fun (a29:Int) (a30:Int)=>qdx n p1 p2 m6 a29 a30) i23 i25
  else
   some v7
def qfk (n:Nat) (p1:Int) (p2:List Int):Option (Int) :=
 qdx n p1 p2 n 0 0
def qbz (v8:Int) (l23:List UInt8) (rec6:(Nat→Int)→Int→Option ((Nat→Int))):Nat→(Nat→Int)→Int→Option ((Nat→Int))
 | 0,_,_=>none
 | m26+1,v27,v28 =>
  if (decide (v28<(l23.length:Int)))=true then
   (ix l23 v28).bind fun x36 =>
   (need (0≤v8∧v8<64)).bind fun _ =>
   (frc (IntKind.u32.wrap ((v27 v8.toNat)*(2 ^ (min (Int.toNat 8) (IntKind.bits .u32)))))).bind fun i39 =>
   (need (IntKind.u32.wrap (x36.toNat:Int)=(x36.toNat:Int))).bind fun _ =>
   (frc (bitsOf .or .u32 i39 (x36.toNat:Int))).bind fun i42 =>
   (rng (v28+1)).bind fun i44 =>
   (fun (a49:Nat→Int) (a50:Int)=>qbz v8 l23 rec6 m26 a49 a50) (updA v27 v8.toNat i42) i44
  else
   (rng (v8+1)).bind fun i46 =>
   rec6 v27 i46
def qcy (v104:Nat→Int):Nat→(Nat→Int)→Int→Option ((Nat→Int))
 | 0,_,_=>none
 | m161+1,v162,v163 =>
  if (decide (v163<8))=true then
   (need (0≤v163∧v163<8)).bind fun _ =>
   (frc (IntKind.u32.wrap ((v162 v163.toNat)+(v104 v163.toNat)))).bind fun i172 =>
   (rng (v163+1)).bind fun i174 =>
   (fun (a178:Nat→Int) (a179:Int)=>qcy v104 m161 a178 a179) (updA v162 v163.toNat i172) i174
  else
   some v162
def qcz (n:Nat) (p1:Nat→Int) (v55:Nat→Int):Nat→(Nat→Int)→Int→Option ((Nat→Int))
 | 0,_,_=>none
 | m103+1,v104,v105 =>
  if (decide (v105<64))=true then
   (qfk n (v104 4) ([6,11,25]:List Int)).bind fun r115 =>
   (frc (IntKind.u32.wrap ((v104 7)+r115))).bind fun i118 =>
   (frc (bitsOf .and .u32 (v104 4) (v104 5))).bind fun i120 =>
   (frc (bitsOf .xor .u32 (if IntKind.signed .u32=true then -1 else IntKind.max .u32) (v104 4))).bind fun i122 =>
   (frc (bitsOf .and .u32 i122 (v104 6))).bind fun i124 =>
   (frc (bitsOf .xor .u32 i120 i124)).bind fun i126 =>
   (frc (IntKind.u32.wrap (i118+i126))).bind fun i128 =>
   (need (0≤v105∧v105<64)).bind fun _ =>
   (frc (IntKind.u32.wrap (i128+((litA glob2) v105.toNat)))).bind fun i131 =>
   (frc (IntKind.u32.wrap (i131+(v55 v105.toNat)))).bind fun i133 =>
   (qfk n (v104 0) ([2,13,22]:List Int)).bind fun r136 =>
   (frc (bitsOf .and .u32 (v104 0) (v104 1))).bind fun i139 =>
   (frc (bitsOf .and .u32 (v104 0) (v104 2))).bind fun i141 =>
   (frc (bitsOf .xor .u32 i139 i141)).bind fun i143 =>
   (frc (bitsOf .and .u32 (v104 1) (v104 2))).bind fun i145 =>
   (frc (bitsOf .xor .u32 i143 i145)).bind fun i147 =>
   (frc (IntKind.u32.wrap (r136+i147))).bind fun i149 =>
   (frc (IntKind.u32.wrap (i133+i149))).bind fun i152 =>
   (frc (IntKind.u32.wrap (((cpyA v104 v104 1 7 0) 4)+i133))).bind fun i154 =>
   (rng (v105+1)).bind fun i156 =>
   (fun (a181:Nat→Int) (a182:Int)=>qcz n p1 v55 m103 a181 a182) (updA (updA (cpyA v104 v104 1 7 0) 0 i152) 4 i154) i156
  else
   qcy v104 n p1 0
def qdg (n:Nat) (p1:Nat→Int):Nat→(Nat→Int)→Int→Option ((Nat→Int))
 | 0,_,_=>none
 | m54+1,v55,v56 =>
  if (decide (v56<64))=true then
   (rng (v56-15)).bind fun i64 =>
   (need (0≤i64∧i64<64)).bind fun _ =>
   (rng (v56-2)).bind fun i67 =>
   (need (0≤i67∧i67<64)).bind fun _ =>
   (rng (v56-16)).bind fun i70 =>
   (need (0≤i70∧i70<64)).bind fun _ =>
   (rng (v56-7)).bind fun i73 =>
   (need (0≤i73∧i73<64)).bind fun _ =>
   (frc (IntKind.u32.wrap ((v55 i70.toNat)+(v55 i73.toNat)))).bind fun i76 =>
   (qfk n (v55 i64.toNat) ([7,18]:List Int)).bind fun r78 =>
   (frc (Int.fdiv (v55 i64.toNat) (2 ^ (min (Int.toNat 3) (IntKind.bits .u32))))).bind fun i81 =>
   (frc (bitsOf .xor .u32 r78 i81)).bind fun i83 =>
   (frc (IntKind.u32.wrap (i76+i83))).bind fun i85 =>
   (qfk n (v55 i67.toNat) ([17,19]:List Int)).bind fun r87 =>
   (frc (Int.fdiv (v55 i67.toNat) (2 ^ (min (Int.toNat 10) (IntKind.bits .u32))))).bind fun i90 =>
   (frc (bitsOf .xor .u32 r87 i90)).bind fun i92 =>
   (frc (IntKind.u32.wrap (i85+i92))).bind fun i94 =>
   (need (0≤v56∧v56<64)).bind fun _ =>
   (rng (v56+1)).bind fun i97 =>
   (fun (a184:Nat→Int) (a185:Int)=>qdg n p1 m54 a184 a185) (updA v55 v56.toNat i94) i97
  else
   qcz n p1 v55 n p1 0
def qdc (n:Nat) (p1:Nat→Int) (p2:List UInt8):Nat→(Nat→Int)→Int→Option ((Nat→Int))
 | 0,_,_=>none
 | m6+1,v7,v8 =>
  if (decide (v8<16))=true then
   (rng (4*v8)).bind fun i17 =>
   (rng (4*v8)).bind fun i19 =>
   (rng (i19+4)).bind fun i21 =>
   (cutI p2 i17 i21).bind fun l23 =>
   qbz v8 l23 (fun (a187:Nat→Int) (a188:Int)=>qdc n p1 p2 m6 a187 a188) m6 v7 0
  else
   qdg n p1 n v7 16
def qg8 (n:Nat) (p1:Nat→Int) (p2:List UInt8):Option ((Nat→Int)) :=
 qdc n p1 p2 n zeroA 0
def qdm (n:Nat) (i3:Int):Nat→(Nat→Int)→(List UInt8)→Option ((Nat→Int)×(List UInt8)×Int)
 | 0,_,_=>none
 | m11+1,v12,v13 =>
  if (decide ((v13.length:Int)≥64))=true then
   (cutI v13 0 64).bind fun l20 =>
   (qg8 n v12 l20).bind fun r22 =>
   (cutI v13 64 (v13.length:Int)).bind fun l25 =>
   (fun (a33:Nat→Int) (a34:List UInt8)=>qdm n i3 m11 a33 a34) r22 l25
  else
   (lmt v13).bind fun r28 =>
   some (v12,r28,i3)
def qga (n:Nat) (p1:Nat→Int) (p2:List UInt8) (p3:Int) (p4:List UInt8):Option ((Nat→Int)×(List UInt8)×Int) :=
 (rng (p3+(p4.length:Int))).bind fun i3 =>
 (qe4 n ([p2,p4]:List (List UInt8))).bind fun r6 =>
 qdm n i3 n p1 r6
def qd7 (p1:Int):Nat→(List UInt8)→Int→Option ((List UInt8))
 | 0,_,_=>none
 | m15+1,v16,v17 =>
  if (decide (v17<8))=true then
   (frc (IntKind.u64.wrap p1)).bind fun i25 =>
   (frc (IntKind.u64.wrap (i25*(2 ^ (min (Int.toNat 3) (IntKind.bits .u64)))))).bind fun i27 =>
   (rng (8*v17)).bind fun i29 =>
   (rng (56-i29)).bind fun i31 =>
   (need (0≤i31)).bind fun _ =>
   (frc (Int.fdiv i27 (2 ^ (min (Int.toNat i31) (IntKind.bits .u64))))).bind fun i34 =>
   (frc8 (IntKind.u8.wrap i34)).bind fun b36 =>
   (need (v16.length+1≤lim)).bind fun _ =>
   (rng (v17+1)).bind fun i39 =>
   (fun (a43:List UInt8) (a44:Int)=>qd7 p1 m15 a43 a44) (v16++([b36]:List UInt8)) i39
  else
   some v16
def qi8 (n:Nat) (p1:Int):Option ((List UInt8)) :=
 (frc (Int.tmod p1 64)).bind fun i3 =>
 (rng (119-i3)).bind fun i5 =>
 (frc (Int.tmod i5 64)).bind fun i7 =>
 (need (0≤i7∧i7≤(lim:Int))).bind fun _ =>
 (need (1+i7.toNat≤lim)).bind fun _ =>
 qd7 p1 n (([(128:UInt8)]:List UInt8)++(List.replicate i7.toNat (0:UInt8))) 0
def qc9 (r6:(Nat→Int)×(List UInt8)×Int) (v14:Int) (rec12:(Nat→Int)→Int→Option ((Nat→Int))):Nat→(Nat→Int)→Int→Option ((Nat→Int))
 | 0,_,_=>none
 | m25+1,v26,v27 =>
  if (decide (v27<4))=true then
   (rng (4*v14)).bind fun i35 =>
   (rng (i35+v27)).bind fun i37 =>
   (rng (8*v27)).bind fun i39 =>
   (rng (24-i39)).bind fun i41 =>
   (need (0≤i41)).bind fun _ =>
   (frc (Int.fdiv (r6.1 v14.toNat) (2 ^ (min (Int.toNat i41) (IntKind.bits .u32))))).bind fun i44 =>
   (frc8 (IntKind.u8.wrap i44)).bind fun b46 =>
   (need (0≤i37∧i37<32)).bind fun _ =>
   (rng (v27+1)).bind fun i49 =>
   (fun (a54:Nat→Int) (a55:Int)=>qc9 r6 v14 rec12 m25 a54 a55) (updA v26 i37.toNat (b46.toNat:Int)) i49
  else
   (rng (v14+1)).bind fun i51 =>
   rec12 v26 i51
def qb3 (r6:(Nat→Int)×(List UInt8)×Int):Nat→(Nat→Int)→Int→Option ((Nat→Int))
 | 0,_,_=>none
 | m12+1,v13,v14 =>
  if (decide (v14<8))=true then
   (need (0≤v14∧v14<8)).bind fun _ =>
   qc9 r6 v14 (fun (a58:Nat→Int) (a59:Int)=>qb3 r6 m12 a58 a59) m12 v13 0
  else
   some v13
def qhu (n:Nat) (p1:Nat→Int) (p2:List UInt8) (p3:Int):Option ((Nat→Int)) :=
 (qi8 n p3).bind fun r3 =>
 (qga n p1 p2 p3 r3).bind fun r6 =>
 qb3 r6 n zeroA 0
def qh2 (n:Nat) (p1:List UInt8):Option ((Nat→Int)×Int) :=
 if (decide ((p1.length:Int)>1000000))=true then
  some (zeroA,4)
 else
  (qjv n).bind fun r6 =>
  (qga n r6.1 r6.2.1 r6.2.2 p1).bind fun r9 =>
  (qhu n r9.1 r9.2.1 r9.2.2).bind fun r12 =>
  some (r12,0)
def qb4 (n:Nat) (r12:(List GPatch)):Nat→(List UInt8)→Int→Option ((Nat→Int)×Int)
 | 0,_,_=>none
 | m16+1,v17,v18 =>
  if (decide (v18<(r12.length:Int)))=true then
   (ix r12 v18).bind fun x26 =>
   (qhf n x26.hunks_).bind fun r29 =>
   if (r29.2 != 0)=true then
    some (zeroA,r29.2)
   else
    (need (x26.path_.length+1≤qas)).bind fun _ =>
    (qgg n x26.was_).bind fun r37 =>
    (need ((x26.path_++[32]).length+(r37).length≤qas)).bind fun _ =>
    (need ((x26.path_++(32::r37)).length+([32]:List UInt8).length≤qas)).bind fun _ =>
    (qgg n x26.stays_).bind fun r42 =>
    (need ((x26.path_++(32::(r37++[32]))).length+(r42).length≤qas)).bind fun _ =>
    (need ((x26.path_++(32::(r37++(32::r42)))).length+([32]:List UInt8).length≤qas)).bind fun _ =>
    (itoaI (x26.hunks_.length:Int)).bind fun r47 =>
    (need ((x26.path_++(32::(r37++(32::(r42++[32]))))).length+(r47).length≤qas)).bind fun _ =>
    (need ((x26.path_++(32::(r37++(32::(r42++(32::r47)))))).length+([10]:List UInt8).length≤qas)).bind fun _ =>
    (wsI v17 (x26.path_++(32::(r37++(32::(r42++(32::(r47++[10])))))))).bind fun r52 =>
    (wsI r52 r29.1).bind fun r55 =>
    (rng (v18+1)).bind fun i58 =>
    (fun (a69:List UInt8) (a70:Int)=>qb4 n r12 m16 a69 a70) r55 i58
  else
   (qh2 n v17).bind fun r65 =>
   some (r65.1,r65.2)
def qgh (n:Nat) (p1:List GPatch):Option ((Nat→Int)×Int) :=
 (qe3 n p1).bind fun r4 =>
 if (r4 != 0)=true then
  some (zeroA,r4)
 else
  (qf9 n p1).bind fun r12 =>
  qb4 n r12 n ([]:List UInt8) 0
def qbj (p1:List GHunk) (v8:Int) (rec6:(List UInt8)→Int→Option ((List UInt8))):Nat→(List UInt8)→Int→Option ((List UInt8))
 | 0,_,_=>none
 | m57+1,v58,v59 =>
  (ix p1 v8).bind fun x64 =>
  if (decide (v59<(x64.new_.length:Int)))=true then
   (need (v58.length+1≤qas)).bind fun _ =>
   (ix x64.new_ v59).bind fun x69 =>
   (need ((v58++[43]).length+(x69).length≤qas)).bind fun _ =>
   (need ((v58++(43::x69)).length+([10]:List UInt8).length≤qas)).bind fun _ =>
   (rng (v59+1)).bind fun i73 =>
   (fun (a78:List UInt8) (a79:Int)=>qbj p1 v8 rec6 m57 a78 a79) (v58++(43::(x69++[10]))) i73
  else
   (rng (v8+1)).bind fun i75 =>
   rec6 v58 i75
def qbk (p1:List GHunk) (v8:Int) (m6:Nat) (rec6:(List UInt8)→Int→Option ((List UInt8))):Nat→(List UInt8)→Int→Option ((List UInt8))
 | 0,_,_=>none
 | m37+1,v38,v39 =>
  (ix p1 v8).bind fun x44 =>
  if (decide (v39<(x44.old_.length:Int)))=true then
   (need (v38.length+1≤qas)).bind fun _ =>
   (ix x44.old_ v39).bind fun x49 =>
   (need ((v38++[45]).length+(x49).length≤qas)).bind fun _ =>
   (need ((v38++(45::x49)).length+([10]:List UInt8).length≤qas)).bind fun _ =>
   (rng (v39+1)).bind fun i53 =>
   (fun (a81:List UInt8) (a82:Int)=>qbk p1 v8 m6 rec6 m37 a81 a82) (v38++(45::(x49++[10]))) i53
  else
   qbj p1 v8 rec6 m6 v38 0
def qar (p1:List GHunk):Nat→(List UInt8)→Int→Option ((List UInt8))
 | 0,_,_=>none
 | m6+1,v7,v8 =>
  if (decide (v8<(p1.length:Int)))=true then
   (need (v7.length+1≤qas)).bind fun _ =>
   (ix p1 v8).bind fun x17 =>
   (itoaI x17.at_).bind fun r19 =>
   (need ((v7++[64]).length+(r19).length≤qas)).bind fun _ =>
   (need ((v7++(64::r19)).length+([32]:List UInt8).length≤qas)).bind fun _ =>
   (itoaI (x17.old_.length:Int)).bind fun r24 =>
   (need ((v7++(64::(r19++[32]))).length+(r24).length≤qas)).bind fun _ =>
   (need ((v7++(64::(r19++(32::r24)))).length+([32]:List UInt8).length≤qas)).bind fun _ =>
   (itoaI (x17.new_.length:Int)).bind fun r29 =>
   (need ((v7++(64::(r19++(32::(r24++[32]))))).length+(r29).length≤qas)).bind fun _ =>
   (need ((v7++(64::(r19++(32::(r24++(32::r29)))))).length+([10]:List UInt8).length≤qas)).bind fun _ =>
   qbk p1 v8 m6 (fun (a85:List UInt8) (a86:Int)=>qar p1 m6 a85 a86) m6 (v7++(64::(r19++(32::(r24++(32::(r29++[10]))))))) 0
  else
   some v7
def qfz (n:Nat) (p1:List GHunk):Option ((List UInt8)) :=
 qar p1 n ([]:List UInt8) 0
def qfv (n:Nat) (p1:List GHunk):Option ((List UInt8)×Int) :=
 (qdy n p1).bind fun r4 =>
 if (r4 != 0)=true then
  (qdy n p1).bind fun r8 =>
  some (([]:List UInt8),r8)
 else
  (qfz n p1).bind fun r12 =>
  if (decide ((r12.length:Int)>20000))=true then
   some (([]:List UInt8),4)
  else
   some (r12,0)
def qff (n:Nat) (p1:Bool):Option ((List UInt8)) :=
 if p1=true then
  some ([49]:List UInt8)
 else
  some ([48]:List UInt8)
def qgl (n:Nat):Option ((Nat→Int)) :=
 some (updA (updA (updA (updA (updA (updA (updA (updA zeroA 0 1779033703) 1 3144134277) 2 1013904242) 3 2773480762) 4 1359893119) 5 2600822924) 6 528734635) 7 1541459225)
def qbl (p1:Int):Nat→(List UInt8)→Int→Option ((List UInt8))
 | 0,_,_=>none
 | m21+1,v22,v23 =>
  if (decide (v23≥0))=true then
   (frc (IntKind.u64.wrap p1)).bind fun i30 =>
   (frc (IntKind.u64.wrap (8*i30))).bind fun i32 =>
   (rng (8*v23)).bind fun i34 =>
   (need (0≤i34)).bind fun _ =>
   (frc (Int.fdiv i32 (2 ^ (min (Int.toNat i34) (IntKind.bits .u64))))).bind fun i37 =>
   (frc8 (IntKind.u8.wrap i37)).bind fun b39 =>
   (need (v22.length+1≤lim)).bind fun _ =>
   (rng (v23-1)).bind fun i42 =>
   (fun (a46:List UInt8) (a47:Int)=>qbl p1 m21 a46 a47) (v22++([b39]:List UInt8)) i42
  else
   some v22
def qbt (n:Nat) (p1:Int):Nat→(List UInt8)→Option ((List UInt8))
 | 0,_=>none
 | m5+1,v6 =>
  (rng (p1+(v6.length:Int))).bind fun i10 =>
  (rng (i10+8)).bind fun i12 =>
  (frc (Int.tmod i12 64)).bind fun i14 =>
  if (i14 != 0)=true then
   (need (v6.length+1≤lim)).bind fun _ =>
   (fun (a49:List UInt8)=>qbt n p1 m5 a49) (v6++([(0:UInt8)]:List UInt8))
  else
   qbl p1 n v6 7
def qew (n:Nat) (p1:Int):Option ((List UInt8)) :=
 qbt n p1 n ([(128:UInt8)]:List UInt8)
def qaz (n:Nat) (p1:Int) (p2:Int):Option (Int) :=
 (need (0≤p2)).bind fun _ =>
 (frc (Int.fdiv p1 (2 ^ (min (Int.toNat p2) (IntKind.bits .u32))))).bind fun i4 =>
 (rng (32-p2)).bind fun i6 =>
 (need (0≤i6)).bind fun _ =>
 (frc (IntKind.u32.wrap (p1*(2 ^ (min (Int.toNat i6) (IntKind.bits .u32)))))).bind fun i9 =>
 (frc (bitsOf .or .u32 i4 i9)).bind fun i11 =>
 some i11
def qe7 (n:Nat):Option ((List Int)) :=
 some ([1116352408,1899447441,3049323471,3921009573,961987163,1508970993,2453635748,2870763221,3624381080,310598401,607225278,1426881987,1925078388,2162078206,2614888103,3248222580,3835390401,4022224774,264347078,604807628,770255983,1249150122,1555081692,1996064986,2554220882,2821834349,2952996808,3210313671,3336571891,3584528711,113926993,338241895,666307205,773529912,1294757372,1396182291,1695183700,1986661051,2177026350,2456956037,2730485921,2820302411,3259730800,3345764771,3516065817,3600352804,4094571909,275423344,430227734,506948616,659060556,883997877,958139571,1322822218,1537002063,1747873779,1955562222,2024104815,2227730452,2361852424,2428436474,2756734187,3204031479,3329325298]:List Int)
def qa6 (n:Nat) (p1:Nat→Int) (v60:List Int) (r121:(List Int)):Nat→Int→Int→Int→Int→Int→Int→Int→Int→Int→Option ((Nat→Int))
 | 0,_,_,_,_,_,_,_,_,_=>none
 | m128+1,v129,v130,v131,v132,v133,v134,v135,v136,v137 =>
  if (decide (v137<64))=true then
   (qaz n v133 6).bind fun r152 =>
   (qaz n v133 11).bind fun r155 =>
   (frc (bitsOf .xor .u32 r152 r155)).bind fun i158 =>
   (qaz n v133 25).bind fun r160 =>
   (frc (bitsOf .xor .u32 i158 r160)).bind fun i163 =>
   (frc (IntKind.u32.wrap (v136+i163))).bind fun i165 =>
   (frc (bitsOf .and .u32 v133 v134)).bind fun i167 =>
   (frc (bitsOf .xor .u32 (if IntKind.signed .u32=true then -1 else IntKind.max .u32) v133)).bind fun i169 =>
   (frc (bitsOf .and .u32 i169 v135)).bind fun i171 =>
   (frc (bitsOf .xor .u32 i167 i171)).bind fun i173 =>
   (frc (IntKind.u32.wrap (i165+i173))).bind fun i175 =>
   (ix r121 v137).bind fun x177 =>
   (frc (IntKind.u32.wrap (i175+x177))).bind fun i179 =>
   (ix v60 v137).bind fun x181 =>
   (frc (IntKind.u32.wrap (i179+x181))).bind fun i183 =>
   (qaz n v129 2).bind fun r186 =>
   (qaz n v129 13).bind fun r189 =>
   (frc (bitsOf .xor .u32 r186 r189)).bind fun i192 =>
   (qaz n v129 22).bind fun r194 =>
   (frc (bitsOf .xor .u32 i192 r194)).bind fun i197 =>
   (frc (bitsOf .and .u32 v129 v130)).bind fun i199 =>
   (frc (bitsOf .and .u32 v129 v131)).bind fun i201 =>
   (frc (bitsOf .xor .u32 i199 i201)).bind fun i203 =>
   (frc (bitsOf .and .u32 v130 v131)).bind fun i205 =>
   (frc (bitsOf .xor .u32 i203 i205)).bind fun i207 =>
   (frc (IntKind.u32.wrap (i197+i207))).bind fun i209 =>
   (frc (IntKind.u32.wrap (v132+i183))).bind fun i211 =>
   (frc (IntKind.u32.wrap (i183+i209))).bind fun i213 =>
   (rng (v137+1)).bind fun i215 =>
   (fun (a235:Int) (a236:Int) (a237:Int) (a238:Int) (a239:Int) (a240:Int) (a241:Int) (a242:Int) (a243:Int)=>qa6 n p1 v60 r121 m128 a235 a236 a237 a238 a239 a240 a241 a242 a243) i213 v129 v130 v131 i211 v133 v134 v135 i215
  else
   (frc (IntKind.u32.wrap ((p1 0)+v129))).bind fun i218 =>
   (frc (IntKind.u32.wrap ((p1 1)+v130))).bind fun i220 =>
   (frc (IntKind.u32.wrap ((p1 2)+v131))).bind fun i222 =>
   (frc (IntKind.u32.wrap ((p1 3)+v132))).bind fun i224 =>
   (frc (IntKind.u32.wrap ((p1 4)+v133))).bind fun i226 =>
   (frc (IntKind.u32.wrap ((p1 5)+v134))).bind fun i228 =>
   (frc (IntKind.u32.wrap ((p1 6)+v135))).bind fun i230 =>
   (frc (IntKind.u32.wrap ((p1 7)+v136))).bind fun i232 =>
   some (updA (updA (updA (updA (updA (updA (updA (updA zeroA 0 i218) 1 i220) 2 i222) 3 i224) 4 i226) 5 i228) 6 i230) 7 i232)
def qbe (n:Nat) (p1:Nat→Int):Nat→(List Int)→Int→Option ((Nat→Int))
 | 0,_,_=>none
 | m59+1,v60,v61 =>
  if (decide (v61<64))=true then
   (rng (v61-15)).bind fun i69 =>
   (ix v60 i69).bind fun x71 =>
   (rng (v61-2)).bind fun i73 =>
   (ix v60 i73).bind fun x75 =>
   (qaz n x71 7).bind fun r78 =>
   (qaz n x71 18).bind fun r81 =>
   (frc (bitsOf .xor .u32 r78 r81)).bind fun i84 =>
   (frc (Int.fdiv x71 (2 ^ (min (Int.toNat 3) (IntKind.bits .u32))))).bind fun i86 =>
   (frc (bitsOf .xor .u32 i84 i86)).bind fun i88 =>
   (qaz n x75 17).bind fun r91 =>
   (qaz n x75 19).bind fun r94 =>
   (frc (bitsOf .xor .u32 r91 r94)).bind fun i97 =>
   (frc (Int.fdiv x75 (2 ^ (min (Int.toNat 10) (IntKind.bits .u32))))).bind fun i99 =>
   (frc (bitsOf .xor .u32 i97 i99)).bind fun i101 =>
   (rng (v61-16)).bind fun i103 =>
   (ix v60 i103).bind fun x105 =>
   (rng (v61-7)).bind fun i107 =>
   (ix v60 i107).bind fun x109 =>
   (frc (IntKind.u32.wrap (x105+x109))).bind fun i111 =>
   (frc (IntKind.u32.wrap (i111+i88))).bind fun i113 =>
   (frc (IntKind.u32.wrap (i113+i101))).bind fun i115 =>
   (need (v60.length+1≤lim)).bind fun _ =>
   (rng (v61+1)).bind fun i118 =>
   (fun (a245:List Int) (a246:Int)=>qbe n p1 m59 a245 a246) (v60++([i115]:List Int)) i118
  else
   (qe7 n).bind fun r121 =>
   qa6 n p1 v60 r121 n (p1 0) (p1 1) (p1 2) (p1 3) (p1 4) (p1 5) (p1 6) (p1 7) 0
def qcg (n:Nat) (p1:Nat→Int) (p2:List UInt8):Nat→(List Int)→Int→Option ((Nat→Int))
 | 0,_,_=>none
 | m6+1,v7,v8 =>
  if (decide (v8<16))=true then
   (rng (4*v8)).bind fun i15 =>
   (ix p2 i15).bind fun x17 =>
   (need (IntKind.u32.wrap (x17.toNat:Int)=(x17.toNat:Int))).bind fun _ =>
   (frc (IntKind.u32.wrap ((x17.toNat:Int)*16777216))).bind fun i20 =>
   (rng (4*v8)).bind fun i22 =>
   (rng (i22+1)).bind fun i24 =>
   (ix p2 i24).bind fun x26 =>
   (need (IntKind.u32.wrap (x26.toNat:Int)=(x26.toNat:Int))).bind fun _ =>
   (frc (IntKind.u32.wrap ((x26.toNat:Int)*65536))).bind fun i29 =>
   (frc (IntKind.u32.wrap (i20+i29))).bind fun i31 =>
   (rng (4*v8)).bind fun i33 =>
   (rng (i33+2)).bind fun i35 =>
   (ix p2 i35).bind fun x37 =>
   (need (IntKind.u32.wrap (x37.toNat:Int)=(x37.toNat:Int))).bind fun _ =>
   (frc (IntKind.u32.wrap ((x37.toNat:Int)*256))).bind fun i40 =>
   (frc (IntKind.u32.wrap (i31+i40))).bind fun i42 =>
   (rng (4*v8)).bind fun i44 =>
   (rng (i44+3)).bind fun i46 =>
   (ix p2 i46).bind fun x48 =>
   (need (IntKind.u32.wrap (x48.toNat:Int)=(x48.toNat:Int))).bind fun _ =>
   (frc (IntKind.u32.wrap (i42+(x48.toNat:Int)))).bind fun i51 =>
   (need (v7.length+1≤lim)).bind fun _ =>
   (rng (v8+1)).bind fun i54 =>
   (fun (a248:List Int) (a249:Int)=>qcg n p1 p2 m6 a248 a249) (v7++([i51]:List Int)) i54
  else
   qbe n p1 n v7 16
def qej (n:Nat) (p1:Nat→Int) (p2:List UInt8):Option ((Nat→Int)) :=
 qcg n p1 p2 n ([]:List Int) 0
def qch (n:Nat) (p2:List UInt8):Nat→(Nat→Int)→Int→Option ((Nat→Int))
 | 0,_,_=>none
 | m5+1,v6,v7 =>
  (rng (v7+64)).bind fun i12 =>
  if (decide (i12≤(p2.length:Int)))=true then
   (rng (v7+64)).bind fun i16 =>
   (cutI p2 v7 i16).bind fun l18 =>
   (qej n v6 l18).bind fun r20 =>
   (rng (v7+64)).bind fun i23 =>
   (fun (a27:Nat→Int) (a28:Int)=>qch n p2 m5 a27 a28) r20 i23
  else
   some v6
def qgm (n:Nat) (p1:Nat→Int) (p2:List UInt8):Option ((Nat→Int)) :=
 qch n p2 n p1 0
def qb5 (p1:Nat→Int):Nat→(Nat→Int)→Int→Option ((Nat→Int))
 | 0,_,_=>none
 | m6+1,v7,v8 =>
  if (decide (v8<32))=true then
   (frc (IntKind.i64.wrap (Int.tdiv v8 4))).bind fun i15 =>
   (need (0≤i15∧i15<8)).bind fun _ =>
   (frc (Int.tmod v8 4)).bind fun i18 =>
   (rng (8*i18)).bind fun i20 =>
   (rng (24-i20)).bind fun i22 =>
   (need (0≤i22)).bind fun _ =>
   (frc (Int.fdiv (p1 i15.toNat) (2 ^ (min (Int.toNat i22) (IntKind.bits .u32))))).bind fun i25 =>
   (frc8 (IntKind.u8.wrap i25)).bind fun b27 =>
   (need (0≤v8∧v8<32)).bind fun _ =>
   (rng (v8+1)).bind fun i30 =>
   (fun (a34:Nat→Int) (a35:Int)=>qb5 p1 m6 a34 a35) (updA v7 v8.toNat (b27.toNat:Int)) i30
  else
   some v7
def qf5 (n:Nat) (p1:Nat→Int):Option ((Nat→Int)) :=
 qb5 p1 n zeroA 0
def qh8 (n:Nat) (p1:List UInt8):Option ((Nat→Int)) :=
 (qgl n).bind fun r3 =>
 (need (p1.length≤lim)).bind fun _ =>
 (qew n (p1.length:Int)).bind fun r7 =>
 (need (p1.length+r7.length≤lim)).bind fun _ =>
 (qgm n r3 ((([]:List UInt8)++p1)++r7)).bind fun r11 =>
 (qf5 n r11).bind fun r14 =>
 some r14
def qe6 (n:Nat) (p1:List UInt8):Option ((Nat→Int)×Int) :=
 if (decide ((p1.length:Int)>1000000))=true then
  some (zeroA,4)
 else
  (qh8 n p1).bind fun r6 =>
  some (r6,0)
def qb6 (n:Nat) (r12:(List GPatch)):Nat→(List UInt8)→Int→Option ((Nat→Int)×Int)
 | 0,_,_=>none
 | m19+1,v20,v21 =>
  if (decide (v21<(r12.length:Int)))=true then
   (ix r12 v21).bind fun x29 =>
   (qfv n x29.hunks_).bind fun r31 =>
   if (r31.2 != 0)=true then
    some (zeroA,r31.2)
   else
    (need (x29.path_.length+1≤qas)).bind fun _ =>
    (qff n x29.was_).bind fun r39 =>
    (need ((x29.path_++[32]).length+(r39).length≤qas)).bind fun _ =>
    (need ((x29.path_++(32::r39)).length+([32]:List UInt8).length≤qas)).bind fun _ =>
    (qff n x29.stays_).bind fun r44 =>
    (need ((x29.path_++(32::(r39++[32]))).length+(r44).length≤qas)).bind fun _ =>
    (need ((x29.path_++(32::(r39++(32::r44)))).length+([32]:List UInt8).length≤qas)).bind fun _ =>
    (itoaI (x29.hunks_.length:Int)).bind fun r49 =>
    (need ((x29.path_++(32::(r39++(32::(r44++[32]))))).length+(r49).length≤qas)).bind fun _ =>
    (need ((x29.path_++(32::(r39++(32::(r44++(32::r49)))))).length+([10]:List UInt8).length≤qas)).bind fun _ =>
    (need ((v20).length+(x29.path_++(32::(r39++(32::(r44++(32::(r49++[10]))))))).length≤lim)).bind fun _ =>
    (need ((v20++(x29.path_++(32::(r39++(32::(r44++(32::(r49++[10])))))))).length+(r31.1).length≤lim)).bind fun _ =>
    (rng (v21+1)).bind fun i56 =>
    (fun (a64:List UInt8) (a65:Int)=>qb6 n r12 m19 a64 a65) ((v20++(x29.path_++(32::(r39++(32::(r44++(32::(r49++[10]))))))))++r31.1) i56
  else
   (qe6 n v20).bind fun r60 =>
   some (r60.1,r60.2)
def qek (n:Nat) (p1:List GPatch):Option ((Nat→Int)×Int) :=
 (qa0 n p1).bind fun r4 =>
 if (r4 != 0)=true then
  (qa0 n p1).bind fun r8 =>
  some (zeroA,r8)
 else
  (qd5 n p1).bind fun r12 =>
  qb6 n r12 n ([]:List UInt8) 0
def qa7 (p1:List (List UInt8)) (p2:List (List UInt8)):Nat→Int→Option (Bool)
 | 0,_=>none
 | m8+1,v9 =>
  if (decide (v9<(p1.length:Int)))=true then
   (ix p1 v9).bind fun x17 =>
   (ix p2 v9).bind fun x19 =>
   if (!(x17==x19))=true then
    some false
   else
    (rng (v9+1)).bind fun i22 =>
    (fun (a27:Int)=>qa7 p1 p2 m8 a27) i22
  else
   some true
def qd1 (n:Nat) (p1:List (List UInt8)) (p2:List (List UInt8)):Option (Bool) :=
 if ((p1.length:Int) != (p2.length:Int))=true then
  some false
 else
  qa7 p1 p2 n 0
def qg9 (n:Nat) (p1:Int) (p2:List (List UInt8)) (p3:List (List UInt8)) (p4:Int) (p5:List (List UInt8)) (p6:List (List UInt8)):Option (Bool) :=
 if (p1==p4)=true then
  (qd1 n p2 p5).bind fun r4 =>
  if r4=true then
   (qd1 n p3 p6).bind fun r8 =>
   some r8
  else
   some false
 else
  some false
def qab (n:Nat) (p1:List GHunk) (p2:List GHunk):Nat→Int→Option (Bool)
 | 0,_=>none
 | m8+1,v9 =>
  if (decide (v9<(p1.length:Int)))=true then
   (ix p1 v9).bind fun x16 =>
   (ix p2 v9).bind fun x19 =>
   (qg9 n x16.at_ x16.old_ x16.new_ x19.at_ x19.old_ x19.new_).bind fun r22 =>
   if (!r22)=true then
    some false
   else
    (rng (v9+1)).bind fun i26 =>
    (fun (a31:Int)=>qab n p1 p2 m8 a31) i26
  else
   some true
def qa8 (n:Nat) (p1:List GHunk) (p2:List GHunk):Option (Bool) :=
 if ((p1.length:Int) != (p2.length:Int))=true then
  some false
 else
  qab n p1 p2 n 0
def qij (n:Nat) (p1:List UInt8) (p2:Bool) (p3:Bool) (p4:List GHunk) (p5:List UInt8) (p6:Bool) (p7:Bool) (p8:List GHunk):Option (Bool) :=
 if (p1==p5)=true then
  if (p2==p6)=true then
   if (p3==p7)=true then
    (qa8 n p4 p8).bind fun r6 =>
    some r6
   else
    some false
  else
   some false
 else
  some false
def qad (n:Nat) (p1:List GPatch) (p2:List GPatch):Nat→Int→Option (Bool)
 | 0,_=>none
 | m8+1,v9 =>
  if (decide (v9<(p1.length:Int)))=true then
   (ix p1 v9).bind fun x16 =>
   (ix p2 v9).bind fun x19 =>
   (qij n x16.path_ x16.was_ x16.stays_ x16.hunks_ x19.path_ x19.was_ x19.stays_ x19.hunks_).bind fun r22 =>
   if (!r22)=true then
    some false
   else
    (rng (v9+1)).bind fun i26 =>
    (fun (a31:Int)=>qad n p1 p2 m8 a31) i26
  else
   some true
def qcj (n:Nat) (p1:List GPatch) (p2:List GPatch):Option (Bool) :=
 if ((p1.length:Int) != (p2.length:Int))=true then
  some false
 else
  qad n p1 p2 n 0
def qjw (n:Nat) (p1:List GPatch) (p2:List GPatch):Option (Bool) :=
 (qcj n p1 p2).bind fun r3 =>
 some r3
def qgb (n:Nat) (p1:List GPatch) (p2:List GPatch):Option (Bool×Int) :=
 (qe3 n p1).bind fun r4 =>
 if (r4 != 0)=true then
  some (false,r4)
 else
  (qe3 n p2).bind fun r11 =>
  if (r11 != 0)=true then
   some (false,r11)
  else
   (qf9 n p1).bind fun r17 =>
   (qf9 n p2).bind fun r20 =>
   (qjw n r17 r20).bind fun r23 =>
   some (r23,0)
def qb0 (p1:List (List UInt8)) (p2:List (List UInt8)):Nat→Int→Option (Bool)
 | 0,_=>none
 | m8+1,v9 =>
  if (decide (v9<(p1.length:Int)))=true then
   (ix p1 v9).bind fun x16 =>
   (ix p2 v9).bind fun x18 =>
   if (!(x16==x18))=true then
    some false
   else
    (rng (v9+1)).bind fun i21 =>
    (fun (a26:Int)=>qb0 p1 p2 m8 a26) i21
  else
   some true
def qex (n:Nat) (p1:List (List UInt8)) (p2:List (List UInt8)):Option (Bool) :=
 if ((p1.length:Int) != (p2.length:Int))=true then
  some false
 else
  qb0 p1 p2 n 0
def qb1 (n:Nat) (p1:List GHunk) (p2:List GHunk):Nat→Int→Option (Bool)
 | 0,_=>none
 | m8+1,v9 =>
  if (decide (v9<(p1.length:Int)))=true then
   (ix p1 v9).bind fun x16 =>
   (ix p2 v9).bind fun x18 =>
   if (x16.at_ != x18.at_)=true then
    some false
   else
    (qex n x16.old_ x18.old_).bind fun r23 =>
    if (!r23)=true then
     some false
    else
     (qex n x16.new_ x18.new_).bind fun r29 =>
     if (!r29)=true then
      some false
     else
      (rng (v9+1)).bind fun i33 =>
      (fun (a38:Int)=>qb1 n p1 p2 m8 a38) i33
  else
   some true
def qfw (n:Nat) (p1:List GHunk) (p2:List GHunk):Option (Bool) :=
 if ((p1.length:Int) != (p2.length:Int))=true then
  some false
 else
  qb1 n p1 p2 n 0
def qbp (n:Nat) (p1:List GPatch) (p2:List GPatch):Nat→Int→Option (Bool)
 | 0,_=>none
 | m8+1,v9 =>
  if (decide (v9<(p1.length:Int)))=true then
   (ix p1 v9).bind fun x16 =>
   (ix p2 v9).bind fun x18 =>
   if (((!(x16.path_==x18.path_))||(!(x16.was_==x18.was_)))||(!(x16.stays_==x18.stays_)))=true then
    some false
   else
    (qfw n x16.hunks_ x18.hunks_).bind fun r22 =>
    if (!r22)=true then
     some false
    else
     (rng (v9+1)).bind fun i26 =>
     (fun (a31:Int)=>qbp n p1 p2 m8 a31) i26
  else
   some true
def qdb (n:Nat) (p1:List GPatch) (p2:List GPatch):Option (Bool) :=
 if ((p1.length:Int) != (p2.length:Int))=true then
  some false
 else
  qbp n p1 p2 n 0
def qd6 (n:Nat) (p1:List GPatch) (p2:List GPatch):Option (Bool×Int) :=
 (qa0 n p1).bind fun r4 =>
 if (r4 != 0)=true then
  (qa0 n p1).bind fun r8 =>
  some (false,r8)
 else
  (qa0 n p2).bind fun r13 =>
  if (r13 != 0)=true then
   (qa0 n p2).bind fun r17 =>
   some (false,r17)
  else
   (qd5 n p1).bind fun r21 =>
   (qd5 n p2).bind fun r24 =>
   (qdb n r21 r24).bind fun r27 =>
   some (r27,0)
def qe8 (n:Nat) (p1:List GPatch) (p2:List GPatch):Option (Bool) :=
 (qfs n p1).bind fun r4 =>
 if r4=true then
  some true
 else
  (qfs n p2).bind fun r9 =>
  if r9=true then
   some true
  else
   (qg3 n p1).bind fun r14 =>
   (qhe n r14).bind fun r18 =>
   (qev n p1).bind fun r22 =>
   (qgh n r14).bind fun r26 =>
   (qek n p1).bind fun r30 =>
   (qgb n r14 p2).bind fun r34 =>
   (qd6 n p1 p2).bind fun r38 =>
   (qe3 n r14).bind fun r42 =>
   (qa0 n p1).bind fun r45 =>
   if (r42==r45)=true then
    (qdb n r18.1 r22.1).bind fun r49 =>
    if (((((r49&&(r18.2==r22.2))&&(eqA 32 r26.1 r30.1))&&(r26.2==r30.2))&&(r34.1==r38.1))&&(r34.2==r38.2))=true then
     (qdb n r14 p1).bind fun r53 =>
     some r53
    else
     some false
   else
    some false
end Go.Zv.G
