/- Zv: a pure interpreter of the translated code over values, and that it is right. No condition. -/
import Derived.Tactics
import Derived.Orders
import GoSem.ClaimData
set_option linter.unusedSimpArgs false
set_option linter.unusedVariables false
namespace Go.Zv
open Go
inductive V where
 | ud | nilsl | nilp
 | int (k:IntKind) (n:Int)
 | bool (b:Bool)
 | str (s:List UInt8)
 | agg (cs:List V)
 | tup (vs:List V)
 | cl (x:V)
 | sl (k:Nat) (full:Bool) (rows:List (List V))
 | own (nest:Bool) (k:Nat) (rows:List (List V))
 | obox (cells:List V)
 | ptr (r:Nat) (p:List (Nat×Nat))
 | ref (r:Nat) (p:List (Nat×Nat))
 | iptr (cells:List V) (off:Nat)
 | bsl (r:Nat) (p:List (Nat×Nat)) (n:Nat)
 | fn (f:Nat) (caps:List V)
 | lib (kd T e:Nat) (bs:List UInt8)
 deriving Inhabited
abbrev Path:=List (Nat×Nat)
inductive TK where
 | int (k:IntKind) | bool | str | ptr | fn | other
 | slice (k b:Nat)
 | arr (n k e:Nat)
 | struct (fs:List (Nat×Nat×Nat))
structure TI where
 kind:TK
 size:Nat
 sk:List TK
 zero:List V
 ez:List V
def TK.isAgg:TK→Bool
 | .arr _ _ _ | .struct _=>true
 | _=>false
structure PStep where
 i:Nat
 quiet:Bool
 rd:List Nat
 wr:List Nat
 pre:List Nat
structure Plan where
 first:List Nat
 steps:List PStep
 tail:List Nat
structure Env where
 tys:Nat→Option TI
 glob:Nat→Option (List V)
 call:∀ {R:Type},Nat→List V→(V→List V→Option R)→Option R
 keep:Nat→Option (List Nat)
 plan:Nat→Option Plan
 nests:List Nat
 shares:List Nat
 takes:Nat→List Nat
 turns:Nat→List Nat
 fixed:List Nat
 flat:Nat→Bool
 eqs:Nat→Bool
 u8s:Nat→Bool
 lib:Nat→Option (Nat×Nat)
def gt (σ:List V) (t:Nat):V:=σ.getD t .ud
def stale1 (r d:Nat):V→Bool
 | .ptr r' p=>Nat.beq r' r&&Nat.blt d p.length
 | .ref r' p=>Nat.beq r' r&&Nat.blt d p.length
 | .bsl r' p _=>Nat.beq r' r&&Nat.blt d p.length
 | _=>false
def stale (r d:Nat):V→Bool
 | .fn _ caps=>caps.any (stale1 r d)
 | v=>stale1 r d v
def drop (r d:Nat) (σ:List V):List V:=σ.map fun v=>cond (stale r d v) .ud v
def into1 (r:Nat):V→Bool
 | .ptr r' _=>Nat.beq r' r
 | .ref r' _=>Nat.beq r' r
 | .bsl r' _ _=>Nat.beq r' r
 | _=>false
def into (r:Nat):V→Bool
 | .fn _ caps=>caps.any (into1 r)
 | v=>into1 r v
def dropRoot (r:Nat) (σ:List V):List V:=σ.map fun v=>cond (into r v) .ud v
def setT (σ:List V) (d:Nat) (v:V):List V:=(dropRoot d σ).set d (cond (into d v) .ud v)
def refAt1 (r d:Nat):V→Bool
 | .ref r' p=>Nat.beq r' r&&Nat.beq d p.length
 | _=>false
def refAt (r d:Nat):V→Bool
 | .fn _ caps=>caps.any (refAt1 r d)
 | v=>refAt1 r d v
def dropRef (r d:Nat) (σ:List V):List V:=σ.map fun v=>cond (refAt r d v) .ud v
def put (dst:Option Nat) (v:V) (σ:List V):List V :=
 match dst with
 | some d=>setT σ d v
 | none=>σ
def cellAt:V→Nat→Nat→V
 | .own _ _ rows,i,o=>(rows.getD i []).getD o .ud
 | .obox cells,_,o=>cells.getD o .ud
 | _,_,_=>.ud
def getP:V→Path→V
 | v,[]=>v
 | v,(i,o)::p=>getP (cellAt v i o) p
def setCellV:V→Nat→Nat→V→V
 | .own n k rows,i,o,x=>.own n k (rows.set i ((rows.getD i []).set o x))
 | .obox cells,_,o,x=>.obox (cells.set o x)
 | v,_,_,_=>v
def setP:V→Path→V→V
 | _,[],x=>x
 | v,(i,o)::p,x=>setCellV v i o (setP (cellAt v i o) p x)
def V.strip:V→V
 | .cl x=>x
 | .sl k _ rows=>.sl k false rows
 | v=>v
def froz:Nat→V→V
 | 0,_=>.ud
 | d+1,.own nest k rows=>.sl k false (cond nest (rows.map fun r=>r.map (froz d)) rows)
 | _+1,.obox _=>.ud
 | _+1,.lib ..=>.ud
 | _+1,.tup _=>.ud
 | _+1,v=>v
def ofScalar:Value→V
 | .bool b=>.bool b
 | .int k n=>.int k n
 | .string s=>.str s.data.toList
 | .slice _ n c=>cond (Nat.beq n 0&&Nat.beq c 0) .nilsl .ud
 | .pointer a=>match a with
  | none=>.nilp
  | some _=>.ud
 | .func fn a b=>match fn,a.toList,b.toList with
  | .func f,[],[]=>.fn f []
  | _,_,_=>.ud
 | _=>.ud
def ofConst:Value→V
 | .agg cs=>cond (cs.toList.all Value.oneCell') (.agg (cs.toList.map ofScalar)) .ud
 | .tuple cs=>match cs.toList with
  | []=>.tup []
  | _::_=>.ud
 | v=>ofScalar v
def opnd (E:Env) (σ:List V):Operand→V
 | .tmp t=>match gt σ t with
  | .own _ _ _=>.ref t []
  | .obox _=>.ptr t [(0,0)]
  | .lib ..=>.ptr t [(0,0)]
  | .tup (_::_)=>.ud
  | v=>v
 | .const c=>ofConst c
 | .func f=>.fn f []
 | .global g=>match E.glob g with
  | some cs=>.iptr cs 0
  | none=>.ud
def asInt (k:IntKind):V→Option Int
 | .int k' n=>if k'=k then some n else none
 | _=>none
def asBool:V→Option Bool
 | .bool b=>some b
 | _=>none
def asStr:V→Option (List UInt8)
 | .str s=>some s
 | _=>none
def asSl (k:Nat):V→Option (List (List V))
 | .sl k' _ rows=>if k'=k then some rows else none
 | .nilsl=>some []
 | _=>none
def asOwn (k:Nat):V→Option (List (List V))
 | .own false k' rows=>if k'=k then some rows else none
 | .nilsl=>some []
 | _=>none
def isIptr:V→Bool
 | .iptr _ _=>true
 | _=>false
def linkFree:V→Bool
 | .ptr _ _ | .ref _ _ | .bsl _ _ _=>false
 | .fn _ caps=>caps.all isIptr
 | _=>true
def simple:V→Bool
 | .own _ _ _ | .obox _ | .ud | .tup (_::_) | .lib ..=>false
 | v=>linkFree v
def resOk:V→Bool
 | .own _ _ _ | .tup _=>true
 | v=>simple v
section
variable {R:Type}
def coerce (t:TK) (c:V) (K:V→Option R):Option R :=
 match t with
 | .int k=>(asInt k c).bind fun n=>K (.int k n)
 | .bool=>(asBool c).bind fun b=>K (.bool b)
 | .str=>(asStr c).bind fun s=>K (.str s)
 | .slice k _=>(asSl k c).bind fun rows=>K (.sl k false rows)
 | .ptr=>match c with
  | .nilp=>K .nilp
  | _=>none
 | .fn=>match c with
  | .fn f caps=>cond (linkFree (.fn f caps)) (K (.fn f caps)) none
  | _=>none
 | _=>none
def nilTo (nest shared:Bool) (ty:Option TI) (v:V):V :=
 match v with
 | .nilsl=>match ty with
  | some ⟨.slice k _,_,_,_,_⟩=>cond shared (.sl k false []) (.own nest k [])
  | _=>.nilsl
 | v=>v
def boxed:List TK→List V→List V
 | t::ts,c::cs=>(match t,c with
  | .slice k _,.nilsl=>.own false k []
  | _,c=>c)::boxed ts cs
 | _,cs=>cs
def place (k:Nat) (σ:List V) (r:Nat) (p:Path) (K:Bool→List (List V)→Option R) (I:Bool→List (List V)→Option R):Option R :=
 let byHead (v:V):Option R:=match v with
  | .own n k' rows=>if k'=k then K n rows else none
  | .sl k' f rows=>if k'=k then I f rows else none
  | _=>none
 match p with
 | []=>byHead (gt σ r)
 | _::_=>match getP (gt σ r) p.dropLast with
  | .obox _=>byHead (getP (gt σ r) p)
  | .own true _ _=>(asOwn k (getP (gt σ r) p)).bind fun rows=>K false rows
  | _=>none
def setPlace (σ:List V) (r:Nat) (p:Path) (v:V):List V:=(drop r p.length σ).set r (setP (gt σ r) p v)
def reads (k:Nat) (σ:List V) (v:V) (K:List (List V)→Option R):Option R :=
 match v with
 | .sl k' _ rows=>if k'=k then K rows else none
 | .nilsl=>K []
 | .ref r p=>place k σ r p (fun n rows=>cond n none (K rows)) (fun _ rows=>K rows)
 | _=>none
def share (k:Nat) (σ:List V) (v:V) (K:Bool→List (List V)→List V→Option R):Option R :=
 match v with
 | .sl k' f rows=>if k'=k then K f rows σ else none
 | .nilsl=>K true [] σ
 | .ref r p=>place k σ r p (fun n rows=>match froz 3 (.own n k rows) with
   | .sl _ _ rows'=>K false rows' (setPlace σ r p (.sl k false rows'))
   | _=>none) (fun f rows=>K f rows σ)
 | _=>none
def bump (p:Path) (n:Nat):Path :=
 match p with
 | []=>[]
 | [(i,o)]=>[(i,o+n)]
 | x::q=>x::bump q n
def bitsOf (op:BinOp) (k:IntKind) (x y:Int):Int :=
 let a:=BitVec.ofInt k.bits x
 let b:=BitVec.ofInt k.bits y
 match op with
 | .and=>k.wrap (a &&& b).toNat
 | .or=>k.wrap (a ||| b).toNat
 | .xor=>k.wrap (a ^^^ b).toNat
 | _=>k.wrap (a &&& ~~~b).toNat
def lim:Nat:=2147483648
def strLim:Nat:=4611686018427387904
def eqCells:List TK→List V→List V→Option Bool
 | [],[],[]=>some true
 | t::ts,x::xs,y::ys=>match t with
  | .int k=>(asInt k x.strip).bind fun a=>(asInt k y.strip).bind fun b=>(eqCells ts xs ys).bind fun c=>some ((a==b)&&c)
  | .bool=>(asBool x.strip).bind fun a=>(asBool y.strip).bind fun b=>(eqCells ts xs ys).bind fun c=>some ((a==b)&&c)
  | .str=>(asStr x.strip).bind fun a=>(asStr y.strip).bind fun b=>(eqCells ts xs ys).bind fun c=>some ((a==b)&&c)
  | _=>none
 | _,_,_=>none
def kindOf (ty:Option TI):TK:=match ty with
 | some i=>i.kind
 | none=>.other
def evBin (E:Env) (op:BinOp) (t:Nat) (x y:V) (K:V→Option R):Option R :=
 match x,y with
 | .int k a,.int k' b =>
  match op with
  | .shl=>if b<0 then none else K (.int k (k.wrap (a*2 ^ (min b.toNat k.bits))))
  | .shr=>if b<0 then none else K (.int k (a.fdiv (2 ^ (min b.toNat k.bits))))
  | _=>if k=k' then
   match op with
   | .add=>K (.int k (k.wrap (a+b)))
   | .sub=>K (.int k (k.wrap (a-b)))
   | .mul=>K (.int k (k.wrap (a*b)))
   | .quo=>if b=0 then none else K (.int k (k.wrap (a.tdiv b)))
   | .rem=>if b=0 then none else K (.int k (a.tmod b))
   | .and=>K (.int k (bitsOf .and k a b))
   | .or=>K (.int k (bitsOf .or k a b))
   | .xor=>K (.int k (bitsOf .xor k a b))
   | .andNot=>K (.int k (bitsOf .andNot k a b))
   | .eql=>K (.bool (a==b))
   | .neq=>K (.bool (a != b))
   | .lss=>K (.bool (decide (a<b)))
   | .leq=>K (.bool (decide (a≤b)))
   | .gtr=>K (.bool (decide (a>b)))
   | .geq=>K (.bool (decide (a≥b)))
   | _=>none
  else none
 | .str a,.str b =>
  match op with
  | .add=>if a.length+b.length≤strLim then K (.str (a++b)) else none
  | .eql=>K (.bool (a==b))
  | .neq=>K (.bool (!(a==b)))
  | .lss=>K (.bool (Op.bytesLess a b))
  | .leq=>K (.bool (Op.bytesLess a b||a==b))
  | .gtr=>K (.bool (!(Op.bytesLess a b||a==b)))
  | .geq=>K (.bool (!Op.bytesLess a b))
  | _=>none
 | .bool a,.bool b =>
  match kindOf (E.tys t) with
  | .bool=>match op with
   | .eql=>K (.bool (a==b))
   | .neq=>K (.bool (!(a==b)))
   | _=>none
  | _=>none
 | .agg xs,.agg ys =>
  match E.tys t with
  | some i=>cond (E.eqs t) (match op with
   | .eql=>(eqCells i.sk xs ys).bind fun b=>K (.bool b)
   | .neq=>(eqCells i.sk xs ys).bind fun b=>K (.bool (!b))
   | _=>none) none
  | none=>none
 | .nilp,.nilp =>
  match kindOf (E.tys t) with
  | .ptr=>match op with
   | .eql=>K (.bool true)
   | .neq=>K (.bool false)
   | _=>none
  | _=>none
 | .iptr _ _,.nilp | .nilp,.iptr _ _ =>
  match kindOf (E.tys t) with
  | .ptr=>match op with
   | .eql=>K (.bool false)
   | .neq=>K (.bool true)
   | _=>none
  | _=>none
 | _,_=>none
def asBytes:List (List V)→Option (List UInt8)
 | []=>some []
 | r::rest=>(asInt .u8 (r.getD 0 .ud)).bind fun n=>(asBytes rest).bind fun s=>some (UInt8.ofNat n.toNat::s)
def bytesV (s:List UInt8):List (List V):=s.map fun b=>[.int .u8 b.toNat]
def cut (r:List V) (o n:Nat):List V:=(List.range n).map fun j=>.cl (r.getD (o+j) .ud)
def stripAll (cs:List V):List V:=cs.map V.strip
def loadCell (t:TK) (c:V) (r:Nat) (p:Path) (K:V→Option R):Option R :=
 match t with
 | .slice k _=>match c with
  | .own _ k' _=>if k'=k then K (.ref r p) else none
  | .sl k' f rows=>if k'=k then K (.sl k f rows) else none
  | .nilsl=>K (.own false k [])
  | .cl x=>coerce t x K
  | _=>none
 | t=>match c with
  | .cl x=>coerce t x K
  | c=>coerce t c K
def shareCells:List V→List V
 | []=>[]
 | c::cs=>(match c with
  | .own n k rows=>froz 3 (.own n k rows)
  | c=>c)::shareCells cs
def goodCells (cs:List V):Bool:=cs.all fun c=>match c with
 | .ud | .own _ _ _ | .obox _ | .ptr _ _ | .ref _ _ | .bsl _ _ _ | .nilp | .tup _ | .lib ..=>false
 | _=>true
def setRange (cells:List V) (o:Nat) (cs:List V):List V:=cells.take o++cs++cells.drop (o+cs.length)
def hasOwn (cs:List V):Bool:=cs.any fun c=>match c with
 | .own _ _ _=>true
 | _=>false
def canon1:TK→V→V
 | .slice k _,.nilsl=>.sl k false []
 | .slice _ _,.sl k _ rows=>.sl k false rows
 | .slice k _,.cl .nilsl=>.sl k false []
 | .slice _ _,.cl (.sl k _ rows)=>.sl k false rows
 | .int _,.cl (.int k n)=>.int k n
 | .bool,.cl (.bool b)=>.bool b
 | .str,.cl (.str s)=>.str s
 | _,c=>c
def canon:List TK→List V→List V
 | t::ts,c::cs=>canon1 t c::canon ts cs
 | _,cs=>cs
def canonB (raw:Bool) (ks:List TK) (cs:List V):List V:=cond raw cs (canon ks cs)
def load (ty:Option TI) (σ:List V) (a:V) (K:V→List V→Option R):Option R :=
 match ty with
 | none=>none
 | some i=>match a with
  | .iptr cells off=>cond i.kind.isAgg
    (if off+i.size≤cells.length then K (.agg (canon i.sk (cut cells off i.size))) σ else none)
    (if off<cells.length then coerce i.kind (cells.getD off .ud) (fun v=>K v σ) else none)
  | .ptr r p=>match p.getLast?,getP (gt σ r) p.dropLast with
   | some (_,o),.obox cells=>cond i.kind.isAgg
     (let cs:=(cells.drop o).take i.size
      if o+i.size≤cells.length then
       let cs':=shareCells cs
       cond (goodCells cs')
        (K (.agg (canon i.sk cs')) (cond (hasOwn cs) ((drop r p.length σ).set r (setP (gt σ r) p.dropLast (.obox (setRange cells o cs')))) σ))
        none
      else none)
     (loadCell i.kind (cells.getD o .ud) r p (fun v=>K v σ))
   | some (j,o),.own nest k rows=>cond i.kind.isAgg
     (cond nest none (if o+i.size≤k then K (.agg (canon i.sk (cut (rows.getD j []) o i.size))) σ else none))
     (match nest,i.kind with
      | true,.slice _ _=>if o<k then K (.ref r p) σ else none
      | _,kd=>if o<k then coerce kd ((rows.getD j []).getD o .ud) (fun v=>K v σ) else none)
   | _,_=>none
  | _=>none
def cellVal (deep:Bool) (t:TK) (σ:List V) (x:V) (K:V→List V→Option R):Option R :=
 match t with
 | .slice k _=>match x with
  | .ref r p=>cond deep
    (place k σ r p (fun n rows=>K (.own n k rows) (setPlace σ r p .ud)) (fun f rows=>K (.sl k f rows) σ))
    (share k σ x (fun f rows σ'=>K (.sl k f rows) σ'))
  | .sl k' f rows=>if k'=k then K (.sl k f rows) σ else none
  | .nilsl=>K (cond deep (.own false k []) .nilsl) σ
  | _=>none
 | .int _ | .bool | .str | .fn=>match x with
  | .int k n=>K (.int k n) σ
  | .bool b=>K (.bool b) σ
  | .str s=>K (.str s) σ
  | .fn f caps=>cond (caps.all isIptr) (K (.fn f caps) σ) none
  | _=>none
 | _=>none
def isSliceB:V→Bool
 | .own _ _ _ | .sl _ _ _ | .nilsl=>true
 | _=>false
def stored (sl:Bool) (r d:Nat) (σ:List V):List V:=cond sl (dropRef r d (drop r d σ)) (drop r d σ)
def storeOne (σ:List V) (a c:V) (K:List V→Option R):Option R :=
 match a with
 | .ptr r p=>match p.getLast?,getP (gt σ r) p.dropLast with
  | some (_,o),.obox cells=>if o+1≤cells.length then K ((stored (isSliceB c) r p.length σ).set r (setP (gt σ r) p.dropLast (.obox (setRange cells o [c])))) else none
  | some (j,o),.own n k rows=>match n,c with
   | false,.own _ _ _=>none
   | _,_=>if o+1≤k then K ((stored (isSliceB c) r p.length σ).set r (setP (gt σ r) p.dropLast (.own n k (rows.set j (setRange (rows.getD j []) o [c]))))) else none
  | _,_=>none
 | _=>none
def deepAt (σ:List V) (a:V):Bool :=
 match a with
 | .ptr r p=>match getP (gt σ r) p.dropLast with
  | .obox _ | .own true _ _=>true
  | _=>false
 | _=>false
def store (ty:Option TI) (σ:List V) (A:List V→V) (x:V) (K:List V→Option R):Option R :=
 match ty with
 | none=>none
 | some i=>cond i.kind.isAgg
  (match x,A σ with
   | .agg cs,.ptr r p=>cond (goodCells cs) (if cs.length=i.size then
     match p.getLast?,getP (gt σ r) p.dropLast with
     | some (_,o),.obox cells=>if o+cs.length≤cells.length then
       K ((stored (cs.any isSliceB) r p.length σ).set r (setP (gt σ r) p.dropLast (.obox (setRange cells o (boxed i.sk cs))))) else none
     | some (j,o),.own n k rows=>if o+cs.length≤k then
       K ((stored true r p.length σ).set r (setP (gt σ r) p.dropLast (.own n k (rows.set j (setRange (rows.getD j []) o (stripAll cs)))))) else none
     | _,_=>none
    else none) none
   | _,_=>none)
  (cellVal (deepAt σ (A σ)) i.kind σ x fun c σ'=>storeOne σ' (A σ') c K)
def slen (k:Nat) (σ:List V) (v:V) (K:Nat→Option R):Option R :=
 match v with
 | .sl k' _ rows=>if k'=k then K rows.length else none
 | .nilsl=>K 0
 | .ref r p=>place k σ r p (fun _ rows=>K rows.length) (fun _ rows=>K rows.length)
 | _=>none
def chunks (n k:Nat) (cs:List V):List (List V):=(List.range n).map fun i=>(cs.drop (i*k)).take k
def partCells (nest:Bool) (σ:List V) (x:V) (K:List V→List V→Option R):Option R :=
 match x with
 | .int _ _ | .bool _ | .str _ | .nilsl=>K [x] σ
 | .sl k f rows=>K [.sl k f rows] σ
 | .agg cs=>cond (goodCells cs) (K cs σ) none
 | .fn f caps=>cond (caps.all isIptr) (K [.fn f caps] σ) none
 | .ref r p=>match gt σ r,p with
  | .own n k rows,[]=>cond nest (K [.own n k rows] (setPlace σ r [] .ud))
    (share k σ x fun f rows σ'=>K [.sl k f rows] σ')
  | .sl k f rows,[]=>K [.sl k f rows] σ
  | v,_=>match getP v p.dropLast,getP v p with
   | .obox _,.own _ k _=>share k σ x fun f rows σ'=>K [.sl k f rows] σ'
   | .obox _,.sl k f rows=>K [.sl k f rows] σ
   | _,_=>none
 | _=>none
def fillCells (places:Nat→Option (Nat×Nat)) (nest:Bool) (E:Env):List (Nat×Operand)→List V→List V→(List V→List V→Option R)→Option R
 | [],cells,σ,K=>K cells σ
 | (i,x)::rest,cells,σ,K=>match places i with
  | none=>none
  | some (off,size)=>partCells nest σ (opnd E σ x) fun cs σ' =>
   if cs.length=size then (if off+size≤cells.length then fillCells places nest E rest (setRange cells off cs) σ' K else none) else none
def flag (l:List Nat):Option Nat→Bool
 | some d=>l.contains d
 | none=>false
def idxOf:V→Option Int
 | .int _ n=>some n
 | _=>none
inductive Arg where
 | op (x:Operand) | cap (f:Operand) (i:Nat)
def argV (E:Env) (σ:List V):Arg→V
 | .op x=>opnd E σ x
 | .cap f i=>match opnd E σ f with
  | .fn _ caps=>match caps.getD i .ud with
   | .fn _ _=>.ud
   | v=>v
  | _=>.ud
def readArg (E:Env) (σ:List V) (x:Arg) (ty:Option TI):Option V :=
 match argV E σ x with
 | .ref r p=>match kindOf ty with
  | .slice k _=>place k σ r p (fun n rows=>match froz 3 (.own n k rows) with
    | .sl _ _ rows'=>some (.sl k false rows')
    | _=>none) (fun f rows=>some (.sl k f rows))
  | _=>none
 | .nilsl=>match kindOf ty with
  | .slice k _=>some (.sl k true [])
  | _=>none
 | .ptr _ _=>none
 | .agg cs=>cond (goodCells cs) (some (.agg cs)) none
 | v=>cond (simple v) (some v) none
def readArgs (E:Env) (σ:List V):List (Arg×Option TI)→Option (List V)
 | []=>some []
 | (x,ty)::rest=>(readArg E σ x ty).bind fun v=>(readArgs E σ rest).bind fun vs=>some (v::vs)
def evArgs (E:Env) (tk tn:List Nat):List (Arg×Option TI)→Nat→List V→List V→(List V→List V→Option R)→Option R
 | [],_,acc,σ,K=>K acc.reverse σ
 | (x,ty)::rest,j,acc,σ,K =>
  match argV E σ x with
  | .ref r p=>match kindOf ty with
   | .slice k _=>cond (tn.contains j)
     (match p,gt σ r with
      | [],.own _ _ _=>evArgs E tk tn rest (j+1) (.ref r []::acc) σ K
      | _,_=>none) <| cond (tk.contains j)
     (place k σ r p (fun n rows=>evArgs E tk tn rest (j+1) (.own n k rows::acc) (setPlace σ r p .ud) K) (fun f rows=>evArgs E tk tn rest (j+1) (.sl k f rows::acc) σ K))
     (share k σ (.ref r p) fun f rows σ'=>evArgs E tk tn rest (j+1) (.sl k f rows::acc) σ' K)
   | _=>none
  | .ptr r p=>match p,gt σ r with
   | [(0,0)],.obox _=>evArgs E tk tn rest (j+1) (.ptr r [(0,0)]::acc) σ K
   | [(0,0)],.lib ..=>evArgs E tk tn rest (j+1) (.ptr r [(0,0)]::acc) σ K
   | _,_=>none
  | .nilsl=>match kindOf ty with
   | .slice k _=>evArgs E tk tn rest (j+1) (cond (tk.contains j) (.own false k []) (.sl k true [])::acc) σ K
   | _=>none
  | .agg cs=>cond (goodCells cs) (evArgs E tk tn rest (j+1) (.agg cs::acc) σ K) none
  | v=>cond (simple v) (evArgs E tk tn rest (j+1) (v::acc) σ K) none
def lent:List V→List Nat
 | []=>[]
 | .ptr r _::xs=>r::lent xs
 | .ref r _::xs=>r::lent xs
 | _::xs=>lent xs
def distinct:List Nat→Bool
 | []=>true
 | x::xs=>!xs.contains x&&distinct xs
def heldIn (σ xs:List V):Bool:=xs.all fun x=>match x with
 | .ptr r _=>(match gt σ r with
  | .obox _ | .lib ..=>true
  | _=>false)
 | .ref r _=>(match gt σ r with
  | .own _ _ _=>true
  | _=>false)
 | _=>true
def lend (σ:List V) (xs:List V):List V:=xs.map fun x=>match x with
 | .ptr r _ | .ref r _=>gt σ r
 | v=>v
def restore:List V→List V→List V→Option (List V)
 | [],_,σ=>some σ
 | x::xs,outs,σ=>match outs with
  | []=>none
  | y::ys=>match x with
   | .ptr r _=>match y with
    | .obox cells=>restore xs ys ((stored true r 1 σ).set r (.obox cells))
    | .lib kd T e bs=>restore xs ys ((stored true r 1 σ).set r (.lib kd T e bs))
    | _=>none
   | .ref r _=>match y with
    | .own n k rows=>restore xs ys ((stored false r 0 σ).set r (.own n k rows))
    | _=>none
   | _=>restore xs ys σ
def flat1:V→Bool
 | .int _ _ | .bool _ | .str _ | .nilsl | .nilp=>true
 | _=>false
def flat2:V→Bool
 | .agg cs=>cs.all fun c=>flat1 c.strip
 | v=>flat1 v
def flatRows (rows:List (List V)):Bool:=rows.all fun r=>r.all flat1
def flatV:V→Bool
 | .tup vs=>vs.all flat2
 | .own n _ rows=>cond n false (flatRows rows)
 | v=>flat2 v
def callArgs (c:Call) (f:Operand) (n:Nat):List Arg:=c.args.toList.map .op++(List.range n).map (.cap f)
def evCall (E:Env) (f:Nat) (xs:List Arg) (tys:List (Option TI)) (dst:Option Nat) (σ:List V) (K:List V→Option R):Option R :=
 cond (E.flat f)
  ((readArgs E σ (xs.zip (tys++List.replicate (xs.length-tys.length) none))).bind fun args =>
   E.call f args fun res _=>cond (flatV res) (K (put dst res σ)) none)
  (evArgs E (E.takes f) (E.turns f) (xs.zip (tys++List.replicate (xs.length-tys.length) none)) 0 [] σ fun vals σ' =>
   cond (distinct (lent vals)&&heldIn σ' vals) (E.call f (lend σ' vals) fun res outs =>
    match restore vals outs σ' with
     | some σ''=>cond (resOk res) (K (put dst res σ'')) none
     | none=>none) none)
def minmax (mx:Bool):V→List V→Option V
 | .int k a,[]=>some (.int k a)
 | .int k a,.int k' b::rest=>if k=k' then minmax mx (.int k (cond mx (if b>a then b else a) (if b<a then b else a))) rest else none
 | _,_=>none
def appendSrc (k:Nat) (ez:List V) (nest:Bool) (ku:TK) (σ:List V) (y:V) (K:List (List V)→List V→Option R):Option R :=
 match ku with
 | .int _=>match y with
  | .int _ n=>if 0≤n∧n≤lim then K (List.replicate n.toNat ez) σ else none
  | _=>none
 | .str=>match y with
  | .str s=>if k=1 then K (bytesV s) σ else none
  | _=>none
 | .slice _ _=>cond nest
  (match y with
   | .ref r p=>match p with
    | []=>place k σ r [] (fun _ rows=>K rows (setPlace σ r [] .ud)) (fun _ rows=>K rows σ)
    | _::_=>reads k σ y fun rows=>K rows σ
   | y=>reads k σ y fun rows=>K rows σ)
  (reads k σ y fun rows=>K rows σ)
 | _=>none
def appendTo (k:Nat) (nest:Bool) (σ:List V) (x:V) (ys:List (List V)) (K:V→List V→Option R):Option R :=
 match x with
 | .ref r p=>place k σ r p
   (fun n rows=>if rows.length+ys.length≤lim then K (.own (n||nest) k (rows++ys)) (setPlace σ r p .ud) else none)
   (fun f rows=>cond f (if ys.length=0 then none else if rows.length+ys.length≤lim then K (.own nest k (rows++ys)) σ else none) none)
 | .sl k' f rows=>cond f (if k'=k then (if ys.length=0 then none else if rows.length+ys.length≤lim then K (.own nest k (rows++ys)) σ else none) else none) none
 | .nilsl=>if ys.length≤lim then K (.own nest k ys) σ else none
 | _=>none
def copyTo (σ:List V) (r o m:Nat) (cells cs:List V) (K:List V→Option R):Option R :=
 cond (goodCells cs) (if cs.length=m∧o+m≤cells.length then K ((stored (cs.any isSliceB) r 1 σ).set r (.obox (setRange cells o cs))) else none) none
def evBuiltin (E:Env) (b:Builtin) (ats:List Nat) (args:List Operand) (dst:Option Nat) (σ:List V) (K:List V→Option R):Option R :=
 match b,ats,args with
 | .len,t::_,[x]=>match kindOf (E.tys t) with
  | .arr n _ _=>K (put dst (.int .i64 n) σ)
  | .str=>(asStr (opnd E σ x)).bind fun s=>K (put dst (.int .i64 s.length) σ)
  | .slice k _=>slen k σ (opnd E σ x) fun n=>K (put dst (.int .i64 n) σ)
  | _=>none
 | .min,_,x::rest=>(minmax false (opnd E σ x) (rest.map (opnd E σ))).bind fun v=>K (put dst v σ)
 | .max,_,x::rest=>(minmax true (opnd E σ x) (rest.map (opnd E σ))).bind fun v=>K (put dst v σ)
 | .append,[t,u],[x,y]=>match E.tys t with
  | some i=>match i.kind with
   | .slice k b=>if b≤65536 then
     appendSrc k i.ez (flag E.nests dst) (kindOf (E.tys u)) σ (opnd E σ y) fun ys σ'=>appendTo k (flag E.nests dst) σ' (opnd E σ' x) ys fun v σ''=>K (put dst v σ'')
    else none
   | _=>none
  | none=>none
 | .copy,t::_,[x,y]=>match kindOf (E.tys t),opnd E σ x with
  | .slice k _,.bsl r p n=>if k=1 then (match p with
   | [(0,o)]=>match gt σ r with
    | .obox cells=>match opnd E σ y with
     | .bsl r' p' n'=>match p' with
      | [(0,o')]=>match gt σ r' with
       | .obox cells'=>copyTo σ r o (min n' n) cells ((cells'.drop o').take (min n' n)) fun σ'=>K (put dst (.int .i64 (min n' n:Nat)) σ')
       | _=>none
      | _=>none
     | v=>reads 1 σ v fun rows=>copyTo σ r o (min rows.length n) cells (rows.take (min rows.length n)).flatten fun σ'=>K (put dst (.int .i64 (min rows.length n:Nat)) σ')
    | _=>none
   | _=>none) else none
  | _,_=>none
 | _,_,_=>none
def bnd (v:Option V) (d:Int) (G:Int→Option R):Option R:=match v with
 | none=>G d
 | some v=>(idxOf v).bind G
def cutAt (k:Nat) (rows:List (List V)) (lo hi mx:Option V) (σ:List V) (K:V→List V→Option R):Option R :=
 bnd hi rows.length fun h=>bnd lo 0 fun l =>
  if 0≤h∧h≤rows.length then (if 0≤l∧l≤h then
   match mx with
   | none=>K (.sl k false ((rows.take h.toNat).drop l.toNat)) σ
   | some m=>match hi with
    | none=>none
    | some _=>(idxOf m).bind fun m=>if m=h then K (.sl k true ((rows.take h.toNat).drop l.toNat)) σ else none
  else none) else none
def evSlice (E:Env) (turns:Bool) (ty:Option TI) (x:V) (lo hi mx:Option V) (σ:List V) (K:V→List V→Option R):Option R :=
 match kindOf ty,x with
 | .str,.str s=>match mx with
  | some _=>none
  | none=>bnd hi s.length fun h=>bnd lo 0 fun l =>
   if 0≤h∧h≤s.length then (if 0≤l∧l≤h then K (.str ((s.take h.toNat).drop l.toNat)) σ else none) else none
 | .slice k _,x=>share k σ x fun _ rows σ'=>cutAt k rows lo hi mx σ' K
 | .arr n k _,.iptr cells off=>if off+n*k≤cells.length then cutAt k (chunks n k ((cells.drop off).take (n*k))) lo hi mx σ K else none
 | .arr n k _,.ptr r [(0,off)]=>match gt σ r with
  | .obox cells=>cond turns (match mx with
    | some _=>none
    | none=>bnd hi n fun h=>bnd lo 0 fun l =>
     if 0≤h∧h≤n then (if 0≤l∧l<h then (if k=1 then K (.bsl r [(0,off+l.toNat)] (h-l).toNat) σ else none) else none) else none) <|
   let cs:=shareCells cells
   cond (goodCells cs) (if off+n*k≤cells.length then cutAt k (chunks n k ((stripAll cs).drop off |>.take (n*k))) lo hi mx ((drop r 0 σ).set r (.iptr (stripAll cs) 0)) K else none) none
  | _=>none
 | _,_=>none
def evConvert (E:Env) (src dst:Nat) (σ:List V) (x:V) (K:V→List V→Option R):Option R :=
 match E.tys src with
 | none=>none
 | some _=>match kindOf (E.tys dst),x with
 | .slice k _,.ref r []=>cond (Nat.beq src dst&&E.u8s dst) (match gt σ r with
  | .own n k' rows=>match rows with
   | []=>none
   | _::_=>if k'=k then K (.own n k rows) (setPlace σ r [] .ud) else none
  | _=>none) none
 | .int k,.int _ n=>K (.int k (k.wrap n)) σ
 | .str,.str s=>K (.str s) σ
 | .str,.int _ n=>K (.str (Utf8.encode n).data.toList) σ
 | .slice _ _,.str s=>cond (E.u8s dst) (K (.own false 1 (bytesV s)) σ) none
 | .str,v=>cond (E.u8s src) (reads 1 σ v fun rows=>(asBytes rows).bind fun s=>K (.str s) σ) none
 | _,_=>none
def sharedBox (cells:List V):Option (List V):=let cs:=shareCells cells;cond (goodCells cs) (some (stripAll cs)) none
def evCaps (mutable:Bool):List V→List V→List V→(List V→List V→Option R)→Option R
 | [],acc,σ,K=>K acc.reverse σ
 | x::rest,acc,σ,K=>match x with
  | .iptr c o=>evCaps mutable rest (.iptr c o::acc) σ K
  | .ptr r [(0,0)]=>cond mutable (evCaps mutable rest (.ptr r [(0,0)]::acc) σ K)
   (match gt σ r with
    | .obox cells=>match sharedBox cells with
     | some cs=>evCaps mutable rest (.iptr cs 0::acc) ((drop r 0 σ).set r (.iptr cs 0)) K
     | none=>none
    | _=>none)
  | _=>none
def tupOf (σ:List V):Operand→Option (Nat×List V)
 | .tmp t=>match gt σ t with
  | .tup (v::vs)=>some (t,v::vs)
  | _=>none
 | _=>none
def evOp (E:Env) (o:Oper) (σ:List V) (K:List V→Option R):Option R :=
 cond (flag E.fixed o.dst) none <|
 match o.op with
 | .move x=>match tupOf σ x with
  | some (t,vs)=>K (put o.dst (.tup vs) (setPlace σ t [] .ud))
  | none=>K (put o.dst (nilTo (flag E.nests o.dst) (flag E.shares o.dst) (E.tys o.type) (opnd E σ x)) σ)
 | .assign x=>match opnd E σ x with
  | .ref r p=>match kindOf (E.tys o.type) with
   | .slice k _=>cond (flag E.shares o.dst)
     (share k σ (.ref r p) fun f rows σ'=>K (put o.dst (.sl k f rows) σ'))
     (place k σ r p (fun n rows=>K (put o.dst (.own n k rows) (setPlace σ r p .ud))) (fun f rows=>K (put o.dst (.sl k f rows) σ)))
   | _=>none
  | v=>K (put o.dst (nilTo (flag E.nests o.dst) (flag E.shares o.dst) (E.tys o.type) v) σ)
 | .pick c a b=>match opnd E σ c with
  | .bool x=>if x=true then K (put o.dst (opnd E σ a) σ) else K (put o.dst (opnd E σ b) σ)
  | _=>none
 | .alloc t=>match E.lib t with
  | some (kd,e)=>K (put o.dst (.lib kd t e []) σ)
  | none=>match E.tys t with
   | some i=>K (put o.dst (.obox (boxed i.sk i.zero)) σ)
   | none=>none
 | .box t x=>match E.tys t with
  | some i=>cond i.kind.isAgg
    (match opnd E σ x with
     | .agg cs=>cond (goodCells cs) (if cs.length=i.size then K (put o.dst (.obox (boxed i.sk cs)) σ) else none) none
     | _=>none)
    (cellVal true i.kind σ (opnd E σ x) fun c σ'=>K (put o.dst (.obox [c]) σ'))
  | none=>none
 | .build t parts=>match E.tys t with
  | some i=>match i.kind with
   | .struct fs=>fillCells (fun j=>(fs[j]?).map fun f=>(f.1,f.2.2)) false E parts.toList i.zero σ fun cs σ'=>K (put o.dst (.agg (canonB (flag E.nests o.dst) i.sk cs)) σ')
   | .arr n k _=>fillCells (fun j=>some (j*k,k)) false E parts.toList i.zero σ fun cs σ'=>K (put o.dst (.agg (canonB (flag E.nests o.dst) i.sk cs)) σ')
   | _=>none
  | none=>none
 | .buildSlice t len parts=>match E.tys t with
  | some i=>match i.kind with
   | .slice k _=>if len*k≤65536 then
     fillCells (fun j=>some (j*k,k)) (flag E.nests o.dst) E parts.toList ((List.range (len*k)).map fun j=>i.ez.getD (j % k) .ud) σ fun cs σ' =>
      K (put o.dst (.own (flag E.nests o.dst) k (chunks len k (stripAll cs))) σ')
    else none
   | _=>none
  | none=>none
 | .load t a=>load (E.tys t) σ (opnd E σ a) fun v σ'=>K (put o.dst v σ')
 | .store t a x=>store (E.tys t) σ (fun σ=>opnd E σ a) (opnd E σ x) fun σ'=>K (put o.dst (.tup []) σ')
 | .nilCheck x=>match opnd E σ x with
  | .iptr c i=>K (put o.dst (.iptr c i) σ)
  | .ptr r p=>K (put o.dst (.ptr r p) σ)
  | .fn f c=>K (put o.dst (.fn f c) σ)
  | _=>none
 | .binOp op t x y _=>evBin E op t (opnd E σ x) (opnd E σ y) fun v=>K (put o.dst v σ)
 | .unOp op _ x=>match op,opnd E σ x with
  | .not,.bool b=>K (put o.dst (.bool (!b)) σ)
  | .neg,.int k n=>K (put o.dst (.int k (k.wrap (0-n))) σ)
  | .xor,.int k n=>K (put o.dst (.int k (bitsOf .xor k (if k.signed then -1 else k.max) n)) σ)
  | _,_=>none
 | .convert s d x=>evConvert E s d σ (opnd E σ x) fun v σ'=>K (put o.dst v σ')
 | .makeFunc f first caps=>match f with
  | .func g=>if first.size=0 then evCaps (flag E.nests o.dst) (caps.toList.map (opnd E σ)) [] σ fun cs σ'=>K (put o.dst (.fn g cs) σ') else none
  | _=>none
 | .makeSlice t l c=>match E.tys t,opnd E σ l,opnd E σ c with
  | some i,.int _ a,.int _ b=>match i.kind with
   | .slice k y=>if 0≤a∧a≤b∧b≤lim∧y≤65536 then K (put o.dst (.own (flag E.nests o.dst) k (List.replicate a.toNat i.ez)) σ) else none
   | _=>none
  | _,_,_=>none
 | .slice t x lo hi mx=>evSlice E (flag E.nests o.dst) (E.tys t) (opnd E σ x) (lo.map (opnd E σ)) (hi.map (opnd E σ)) (mx.map (opnd E σ)) σ fun v σ'=>K (put o.dst v σ')
 | .fieldAddr t x f=>match kindOf (E.tys t) with
  | .struct fs=>match fs[f]?,opnd E σ x with
   | some (off,_,size),.ptr r p=>if size=0 then none else K (put o.dst (.ptr r (bump p off)) σ)
   | some (off,_,size),.iptr c i=>if size=0 then none else K (put o.dst (.iptr c (i+off)) σ)
   | _,_=>none
  | _=>none
 | .field t x f=>match kindOf (E.tys t),opnd E σ x with
  | .struct fs,.agg cs=>match fs[f]? with
   | some (off,ft,size)=>cond (kindOf (E.tys ft)).isAgg (K (put o.dst (.agg ((cs.drop off).take size)) σ))
     (match cs.getD off .ud with
      | .cl x=>coerce (kindOf (E.tys ft)) x fun v=>K (put o.dst v σ)
      | c=>coerce (kindOf (E.tys ft)) c fun v=>K (put o.dst v σ))
   | none=>none
  | _,_=>none
 | .indexAddr t x ix=>match idxOf (opnd E σ ix) with
  | none=>none
  | some i=>match kindOf (E.tys t),opnd E σ x with
   | .arr n k _,.ptr r p=>if 0≤i∧i<n then K (put o.dst (.ptr r (bump p (i.toNat*k))) σ) else none
   | .arr n k _,.iptr c j=>if 0≤i∧i<n then K (put o.dst (.iptr c (j+i.toNat*k)) σ) else none
   | .slice k _,.sl k' _ rows=>if k'=k then (if 0≤i∧i<rows.length then K (put o.dst (.iptr (rows.getD i.toNat []) 0) σ) else none) else none
   | .slice k _,.ref r p=>place k σ r p
     (fun _ rows=>if 0≤i∧i<rows.length then K (put o.dst (.ptr r (p++[(i.toNat,0)])) σ) else none)
     (fun _ rows=>if 0≤i∧i<rows.length then K (put o.dst (.iptr (rows.getD i.toNat []) 0) σ) else none)
   | _,_=>none
 | .index t x ix=>match idxOf (opnd E σ ix) with
  | none=>none
  | some i=>match kindOf (E.tys t),opnd E σ x with
   | .str,.str s=>if 0≤i∧i<s.length then K (put o.dst (.int .u8 (s.getD i.toNat 0).toNat) σ) else none
   | .arr n k e,.agg cs=>if 0≤i∧i<n then
     cond (kindOf (E.tys e)).isAgg (K (put o.dst (.agg ((cs.drop (i.toNat*k)).take k)) σ))
      (match cs.getD i.toNat .ud with
       | .cl x=>coerce (kindOf (E.tys e)) x fun v=>K (put o.dst v σ)
       | c=>coerce (kindOf (E.tys e)) c fun v=>K (put o.dst v σ))
    else none
   | _,_=>none
 | .extract x i=>match x with
  | .tmp t=>match gt σ t with
   | .tup vs=>match vs.getD i .ud with
    | .own n k rows=>K (put o.dst (.own n k rows) (σ.set t (.tup (vs.set i .ud))))
    | v=>cond (simple v) (K (put o.dst v σ)) none
   | _=>none
  | _=>none
 | .call c=>match c.callee with
  | .builtin b=>evBuiltin E b c.argTypes.toList c.args.toList o.dst σ K
  | .value f=>match opnd E σ f with
   | .fn g caps=>evCall E g (callArgs c f caps.length) (c.argTypes.toList.map E.tys) o.dst σ K
   | _=>none
  | .invoke _ _=>none
 | _=>none
def ev_move (E:Env) (o:Oper) (σ:List V) (K:List V→Option R) (x:Operand):Option R :=
 match tupOf σ x with
  | some (t,vs)=>K (put o.dst (.tup vs) (setPlace σ t [] .ud))
  | none=>K (put o.dst (nilTo (flag E.nests o.dst) (flag E.shares o.dst) (E.tys o.type) (opnd E σ x)) σ)
def ev_assign (E:Env) (o:Oper) (σ:List V) (K:List V→Option R) (x:Operand):Option R :=
 match opnd E σ x with
  | .ref r p=>match kindOf (E.tys o.type) with
   | .slice k _=>cond (flag E.shares o.dst)
     (share k σ (.ref r p) fun f rows σ'=>K (put o.dst (.sl k f rows) σ'))
     (place k σ r p (fun n rows=>K (put o.dst (.own n k rows) (setPlace σ r p .ud))) (fun f rows=>K (put o.dst (.sl k f rows) σ)))
   | _=>none
  | v=>K (put o.dst (nilTo (flag E.nests o.dst) (flag E.shares o.dst) (E.tys o.type) v) σ)
def ev_pick (E:Env) (o:Oper) (σ:List V) (K:List V→Option R) (c:Operand) (a:Operand) (b:Operand):Option R :=
 match opnd E σ c with
  | .bool x=>if x=true then K (put o.dst (opnd E σ a) σ) else K (put o.dst (opnd E σ b) σ)
  | _=>none
def ev_alloc (E:Env) (o:Oper) (σ:List V) (K:List V→Option R) (t:Nat):Option R :=
 match E.lib t with
  | some (kd,e)=>K (put o.dst (.lib kd t e []) σ)
  | none=>match E.tys t with
   | some i=>K (put o.dst (.obox (boxed i.sk i.zero)) σ)
   | none=>none
def ev_box (E:Env) (o:Oper) (σ:List V) (K:List V→Option R) (t:Nat) (x:Operand):Option R :=
 match E.tys t with
  | some i=>cond i.kind.isAgg
    (match opnd E σ x with
     | .agg cs=>cond (goodCells cs) (if cs.length=i.size then K (put o.dst (.obox (boxed i.sk cs)) σ) else none) none
     | _=>none)
    (cellVal true i.kind σ (opnd E σ x) fun c σ'=>K (put o.dst (.obox [c]) σ'))
  | none=>none
def ev_build (E:Env) (o:Oper) (σ:List V) (K:List V→Option R) (t:Nat) (parts:Array (Nat×Operand)):Option R :=
 match E.tys t with
  | some i=>match i.kind with
   | .struct fs=>fillCells (fun j=>(fs[j]?).map fun f=>(f.1,f.2.2)) false E parts.toList i.zero σ fun cs σ'=>K (put o.dst (.agg (canonB (flag E.nests o.dst) i.sk cs)) σ')
   | .arr n k _=>fillCells (fun j=>some (j*k,k)) false E parts.toList i.zero σ fun cs σ'=>K (put o.dst (.agg (canonB (flag E.nests o.dst) i.sk cs)) σ')
   | _=>none
  | none=>none
def ev_buildSlice (E:Env) (o:Oper) (σ:List V) (K:List V→Option R) (t:Nat) (len:Nat) (parts:Array (Nat×Operand)):Option R :=
 match E.tys t with
  | some i=>match i.kind with
   | .slice k _=>if len*k≤65536 then
     fillCells (fun j=>some (j*k,k)) (flag E.nests o.dst) E parts.toList ((List.range (len*k)).map fun j=>i.ez.getD (j % k) .ud) σ fun cs σ' =>
      K (put o.dst (.own (flag E.nests o.dst) k (chunks len k (stripAll cs))) σ')
    else none
   | _=>none
  | none=>none
def ev_load (E:Env) (o:Oper) (σ:List V) (K:List V→Option R) (t:Nat) (a:Operand):Option R :=
 load (E.tys t) σ (opnd E σ a) fun v σ'=>K (put o.dst v σ')
def ev_store (E:Env) (o:Oper) (σ:List V) (K:List V→Option R) (t:Nat) (a:Operand) (x:Operand):Option R :=
 store (E.tys t) σ (fun σ=>opnd E σ a) (opnd E σ x) fun σ'=>K (put o.dst (.tup []) σ')
def ev_nilCheck (E:Env) (o:Oper) (σ:List V) (K:List V→Option R) (x:Operand):Option R :=
 match opnd E σ x with
  | .iptr c i=>K (put o.dst (.iptr c i) σ)
  | .ptr r p=>K (put o.dst (.ptr r p) σ)
  | .fn f c=>K (put o.dst (.fn f c) σ)
  | _=>none
def ev_binOp (E:Env) (o:Oper) (σ:List V) (K:List V→Option R) (op:BinOp) (t:Nat) (x:Operand) (y:Operand):Option R :=
 evBin E op t (opnd E σ x) (opnd E σ y) fun v=>K (put o.dst v σ)
def ev_unOp (E:Env) (o:Oper) (σ:List V) (K:List V→Option R) (op:UnOp) (x:Operand):Option R :=
 match op,opnd E σ x with
  | .not,.bool b=>K (put o.dst (.bool (!b)) σ)
  | .neg,.int k n=>K (put o.dst (.int k (k.wrap (0-n))) σ)
  | .xor,.int k n=>K (put o.dst (.int k (bitsOf .xor k (if k.signed then -1 else k.max) n)) σ)
  | _,_=>none
def ev_convert (E:Env) (o:Oper) (σ:List V) (K:List V→Option R) (s:Nat) (d:Nat) (x:Operand):Option R :=
 evConvert E s d σ (opnd E σ x) fun v σ'=>K (put o.dst v σ')
def ev_makeFunc (E:Env) (o:Oper) (σ:List V) (K:List V→Option R) (f:Fn) (first:Array Operand) (caps:Array Operand):Option R :=
 match f with
  | .func g=>if first.size=0 then evCaps (flag E.nests o.dst) (caps.toList.map (opnd E σ)) [] σ fun cs σ'=>K (put o.dst (.fn g cs) σ') else none
  | _=>none
def ev_makeSlice (E:Env) (o:Oper) (σ:List V) (K:List V→Option R) (t:Nat) (l:Operand) (c:Operand):Option R :=
 match E.tys t,opnd E σ l,opnd E σ c with
  | some i,.int _ a,.int _ b=>match i.kind with
   | .slice k y=>if 0≤a∧a≤b∧b≤lim∧y≤65536 then K (put o.dst (.own (flag E.nests o.dst) k (List.replicate a.toNat i.ez)) σ) else none
   | _=>none
  | _,_,_=>none
def ev_slice (E:Env) (o:Oper) (σ:List V) (K:List V→Option R) (t:Nat) (x:Operand) (lo:Option Operand) (hi:Option Operand) (mx:Option Operand):Option R :=
 evSlice E (flag E.nests o.dst) (E.tys t) (opnd E σ x) (lo.map (opnd E σ)) (hi.map (opnd E σ)) (mx.map (opnd E σ)) σ fun v σ'=>K (put o.dst v σ')
def ev_fieldAddr (E:Env) (o:Oper) (σ:List V) (K:List V→Option R) (t:Nat) (x:Operand) (f:Nat):Option R :=
 match kindOf (E.tys t) with
  | .struct fs=>match fs[f]?,opnd E σ x with
   | some (off,_,size),.ptr r p=>if size=0 then none else K (put o.dst (.ptr r (bump p off)) σ)
   | some (off,_,size),.iptr c i=>if size=0 then none else K (put o.dst (.iptr c (i+off)) σ)
   | _,_=>none
  | _=>none
def ev_field (E:Env) (o:Oper) (σ:List V) (K:List V→Option R) (t:Nat) (x:Operand) (f:Nat):Option R :=
 match kindOf (E.tys t),opnd E σ x with
  | .struct fs,.agg cs=>match fs[f]? with
   | some (off,ft,size)=>cond (kindOf (E.tys ft)).isAgg (K (put o.dst (.agg ((cs.drop off).take size)) σ))
     (match cs.getD off .ud with
      | .cl x=>coerce (kindOf (E.tys ft)) x fun v=>K (put o.dst v σ)
      | c=>coerce (kindOf (E.tys ft)) c fun v=>K (put o.dst v σ))
   | none=>none
  | _,_=>none
def ev_indexAddr (E:Env) (o:Oper) (σ:List V) (K:List V→Option R) (t:Nat) (x:Operand) (ix:Operand):Option R :=
 match idxOf (opnd E σ ix) with
  | none=>none
  | some i=>match kindOf (E.tys t),opnd E σ x with
   | .arr n k _,.ptr r p=>if 0≤i∧i<n then K (put o.dst (.ptr r (bump p (i.toNat*k))) σ) else none
   | .arr n k _,.iptr c j=>if 0≤i∧i<n then K (put o.dst (.iptr c (j+i.toNat*k)) σ) else none
   | .slice k _,.sl k' _ rows=>if k'=k then (if 0≤i∧i<rows.length then K (put o.dst (.iptr (rows.getD i.toNat []) 0) σ) else none) else none
   | .slice k _,.ref r p=>place k σ r p
     (fun _ rows=>if 0≤i∧i<rows.length then K (put o.dst (.ptr r (p++[(i.toNat,0)])) σ) else none)
     (fun _ rows=>if 0≤i∧i<rows.length then K (put o.dst (.iptr (rows.getD i.toNat []) 0) σ) else none)
   | _,_=>none
def ev_index (E:Env) (o:Oper) (σ:List V) (K:List V→Option R) (t:Nat) (x:Operand) (ix:Operand):Option R :=
 match idxOf (opnd E σ ix) with
  | none=>none
  | some i=>match kindOf (E.tys t),opnd E σ x with
   | .str,.str s=>if 0≤i∧i<s.length then K (put o.dst (.int .u8 (s.getD i.toNat 0).toNat) σ) else none
   | .arr n k e,.agg cs=>if 0≤i∧i<n then
     cond (kindOf (E.tys e)).isAgg (K (put o.dst (.agg ((cs.drop (i.toNat*k)).take k)) σ))
      (match cs.getD i.toNat .ud with
       | .cl x=>coerce (kindOf (E.tys e)) x fun v=>K (put o.dst v σ)
       | c=>coerce (kindOf (E.tys e)) c fun v=>K (put o.dst v σ))
    else none
   | _,_=>none
def ev_extract (E:Env) (o:Oper) (σ:List V) (K:List V→Option R) (x:Operand) (i:Nat):Option R :=
 match x with
  | .tmp t=>match gt σ t with
   | .tup vs=>match vs.getD i .ud with
    | .own n k rows=>K (put o.dst (.own n k rows) (σ.set t (.tup (vs.set i .ud))))
    | v=>cond (simple v) (K (put o.dst v σ)) none
   | _=>none
  | _=>none
def ev_call (E:Env) (o:Oper) (σ:List V) (K:List V→Option R) (c:Call):Option R :=
 match c.callee with
  | .builtin b=>evBuiltin E b c.argTypes.toList c.args.toList o.dst σ K
  | .value f=>match opnd E σ f with
   | .fn g caps=>evCall E g (callArgs c f caps.length) (c.argTypes.toList.map E.tys) o.dst σ K
   | _=>none
  | .invoke _ _=>none
def evOpF (E:Env) (o:Oper) (σ:List V) (K:List V→Option R):Option R :=
 cond (flag E.fixed o.dst) none <|
 match o.op with
 | .move x=>ev_move E o σ K x
 | .assign x=>ev_assign E o σ K x
 | .pick c a b=>ev_pick E o σ K c a b
 | .alloc t=>ev_alloc E o σ K t
 | .box t x=>ev_box E o σ K t x
 | .build t parts=>ev_build E o σ K t parts
 | .buildSlice t len parts=>ev_buildSlice E o σ K t len parts
 | .load t a=>ev_load E o σ K t a
 | .store t a x=>ev_store E o σ K t a x
 | .nilCheck x=>ev_nilCheck E o σ K x
 | .binOp op t x y _=>ev_binOp E o σ K op t x y
 | .unOp op _ x=>ev_unOp E o σ K op x
 | .convert s d x=>ev_convert E o σ K s d x
 | .makeFunc f first caps=>ev_makeFunc E o σ K f first caps
 | .makeSlice t l c=>ev_makeSlice E o σ K t l c
 | .slice t x lo hi mx=>ev_slice E o σ K t x lo hi mx
 | .fieldAddr t x f=>ev_fieldAddr E o σ K t x f
 | .field t x f=>ev_field E o σ K t x f
 | .indexAddr t x ix=>ev_indexAddr E o σ K t x ix
 | .index t x ix=>ev_index E o σ K t x ix
 | .extract x i=>ev_extract E o σ K x i
 | .call c=>ev_call E o σ K c
 | _=>none
theorem evOpF_eq {E:Env} {o:Oper} {σ:List V} {K:List V→Option R}:evOpF E o σ K=evOp E o σ K:=by
 unfold evOpF evOp
 cases o.op <;> rfl
def gstep (E:Env) (all:Array Oper) (o:Oper) (σ:List V) (K:List V→Option R):Option R :=
 cond (flag E.fixed o.dst) none <|
 match o.guard with
 | none=>evOpF E o σ K
 | some (j,want)=>match (all[j]?).bind (·.dst) with
  | none=>none
  | some d=>match gt σ d with
   | .bool b=>if b=true
    then cond want (evOpF E o (σ.set d (.bool true)) K) (K (put o.dst (.tup []) (σ.set d (.bool true))))
    else cond want (K (put o.dst (.tup []) (σ.set d (.bool false)))) (evOpF E o (σ.set d (.bool false)) K)
   | .tup []=>K (put o.dst (.tup []) σ)
   | _=>none
def forceV (v:V) (K:V→Option R):Option R :=
 match v with
 | .ud=>K .ud
 | .nilsl=>K .nilsl
 | .nilp=>K .nilp
 | .int k n=>(match n with
  | .ofNat 0=>K (.int k 0)
  | .ofNat (m+1)=>K (.int k (.ofNat (m+1)))
  | .negSucc m=>K (.int k (.negSucc m)))
 | .bool b=>cond b (K (.bool true)) (K (.bool false))
 | .str s=>K (.str s)
 | .agg cs=>K (.agg cs)
 | .tup vs=>K (.tup vs)
 | .cl x=>K (.cl x)
 | .sl k f rows=>K (.sl k f rows)
 | .own n k rows=>K (.own n k rows)
 | .obox cells=>K (.obox cells)
 | .lib kd T e bs=>K (.lib kd T e bs)
 | .ptr r p=>K (.ptr r p)
 | .ref r p=>K (.ref r p)
 | .iptr cells off=>K (.iptr cells off)
 | .bsl r p n=>K (.bsl r p n)
 | .fn f caps=>K (.fn f caps)
def forceAll:List V→(List V→Option R)→Option R
 | [],K=>K []
 | x::xs,K=>forceV x fun x=>forceAll xs fun ys=>K (x::ys)
theorem forceV_eq {v:V} {K:V→Option R}:forceV v K=K v:=by
 unfold forceV
 split <;> first | rfl | skip
 ·
  rename_i k n
  split <;> rfl
 ·
  rename_i b;cases b <;> rfl
theorem forceAll_eq:∀ {σ:List V} {K:List V→Option R},forceAll σ K=K σ
 | [],K=>rfl
 | x::xs,K=>by simp only[forceAll,forceV_eq,forceAll_eq]
def runOps (E:Env) (all:Array Oper):List Oper→List V→(List V→Option R)→Option R
 | [],σ,K=>K σ
 | o::rest,σ,K=>gstep E all o σ fun σ'=>runOps E all rest σ' K
def forceL:List V→(List V→Option R)→Option R
 | [],K=>K []
 | x::xs,K=>forceL xs fun ys=>K (x::ys)
def runIdx (E:Env) (ops:Array Oper):List Nat→List V→(List V→Option R)→Option R
 | [],σ,K=>K σ
 | i::rest,σ,K=>match ops[i]? with
  | none=>none
  | some o=>gstep E ops o σ fun σ'=>runIdx E ops rest σ' K
end
inductive XE where
 | normal | exit (id:Nat) | ret
def rootIn1 (ks:List Nat):V→Bool
 | .ptr r _ | .ref r _ | .bsl r _ _=>ks.contains r
 | _=>true
def rootIn (ks:List Nat):V→Bool
 | .fn _ caps=>caps.all (rootIn1 ks)
 | v=>rootIn1 ks v
def mask (ks:List Nat) (v:V):V:=cond (rootIn ks v) v .ud
def hits1 (ks:List Nat):V→Bool
 | .ptr r _ | .ref r _ | .bsl r _ _=>ks.contains r
 | _=>false
def hits (ks:List Nat):V→Bool
 | .fn _ caps=>caps.any (hits1 ks)
 | v=>hits1 ks v
def keepGo (ks:List Nat):Nat→List V→List V
 | _,[]=>[]
 | i,x::xs=>cond (ks.contains i) (mask ks x) .ud::keepGo ks (i+1) xs
def keepOnly (ks:List Nat) (σ:List V):List V:=keepGo ks 0 σ
def overGo (M W:List Nat):Nat→List V→List V→List V
 | _,[],_=>[]
 | i,x::xs,ys=>cond (W.contains i) (mask M (ys.headD .ud)) (cond (hits W x) .ud x)::overGo M W (i+1) xs ys.tail
def over (M W:List Nat) (σ σ':List V):List V:=overGo M W 0 σ σ'
def plainV:V→Bool
 | .own _ _ _ | .obox _ | .tup (_::_) | .lib ..=>false
 | _=>true
def isRefV:V→Bool
 | .ref _ _=>true
 | _=>false
def putB (E:Env) (o:Oper) (σ:List V):Bool :=
 match o.op with
 | .pick .. | .nilCheck _ | .unOp .. | .fieldAddr .. | .field .. | .indexAddr .. | .index .. | .binOp ..=>true
 | .move x=>(match tupOf σ x with
  | some _=>false
  | none=>true)
 | .assign x=>!isRefV (opnd E σ x)
 | .load t x=>(match E.tys t with
  | some i=>!i.kind.isAgg||(match opnd E σ x with
   | .ptr r p=>(match p.getLast?,getP (gt σ r) p.dropLast with
    | some (_,o),.obox cells=>!hasOwn ((cells.drop o).take i.size)
    | _,_=>true)
   | _=>true)
  | none=>true)
 | .extract x i=>(match x with
  | .tmp t=>(match gt σ t with
   | .tup vs=>(match vs.getD i .ud with
    | .own _ _ _=>false
    | _=>true)
   | _=>true)
  | _=>true)
 | .slice _ x _ _ _=>(match opnd E σ x with
  | .ref _ _ | .ptr _ _=>false
  | _=>true)
 | .build _ parts=>parts.toList.all fun p=>!isRefV (opnd E σ p.2)
 | .convert _ d _=>(match kindOf (E.tys d) with
  | .str=>true
  | _=>false)
 | .call c=>(match c.callee with
  | .builtin .len=>true
  | .value f=>(match opnd E σ f with
   | .fn g _=>E.flat g
   | _=>false)
  | _=>false)
 | _=>false
def stepF (E:Env) (ops:Array Oper) (s:PStep) (σ:List V):Option (List V) :=
 match ops[s.i]? with
 | none=>none
 | some o=>cond (cond s.quiet (putB E o (keepOnly (s.rd++s.wr) σ)) (s.rd.all fun t=>plainV (gt σ t)))
   ((gstep E ops o (keepOnly (s.rd++s.wr) σ) some).bind fun σ'=>forceL (over (cond s.quiet (s.rd++s.wr) s.wr) s.wr σ σ') some) none
def runSteps (E:Env) (ops:Array Oper):List PStep→List V→Option (List V)
 | [],σ=>some σ
 | s::rest,σ=>(stepF E ops s σ).bind fun σ'=>runSteps E ops rest σ'
section
variable {R:Type}
def runC (E:Env) (L:Code→List V→(XE→List V→Option R)→Option R):Code→List V→(XE→List V→Option R)→Option R
 | .skip,σ,K=>K .normal σ
 | .region id ops _,σ,K=>match E.plan id with
  | some pl=>forceL (match E.keep id with
   | some ks=>keepOnly ks σ
   | none=>σ) fun σ=>runIdx E ops pl.first σ fun σ1=>(runSteps E ops pl.steps σ1).bind fun σ2=>runIdx E ops pl.tail σ2 (K .normal)
  | none=>match E.keep id with
   | some ks=>forceL (keepOnly ks σ) fun σ=>runOps E ops ops.toList σ (K .normal)
   | none=>runOps E ops ops.toList σ (K .normal)
 | .seq a b,σ,K=>runC E L a σ fun e σ'=>match e with
  | .normal=>runC E L b σ' K
  | e=>K e σ'
 | .cond c x y,σ,K=>match opnd E σ c with
  | .bool b=>if b=true then runC E L x σ K else runC E L y σ K
  | _=>none
 | .block id x,σ,K=>runC E L x σ fun e σ'=>match e with
  | .exit i=>if i=id then K .normal σ' else K (.exit i) σ'
  | e=>K e σ'
 | .loop x,σ,K=>L x σ K
 | .exit id,σ,K=>K (.exit id) σ
 | .scope x,σ,K=>runC E L x σ K
 | .label _,σ,K=>K .normal σ
 | .ret,σ,K=>K .ret σ
 | _,_,_=>none
def loopR (E:Env):Nat→Code→List V→(XE→List V→Option R)→Option R
 | 0,_,_,_=>none
 | n+1,x,σ,K=>runC E (loopR E n) x σ fun e σ'=>match e with
  | .normal=>loopR E n x σ' K
  | e=>K e σ'
def run (E:Env) (n:Nat):Code→List V→(XE→List V→Option R)→Option R:=runC E (loopR E n)
def resOne (E:Env) (σ:List V) (r:ResultVar) (K:V→List V→Option R):Option R :=
 match r with
 | .tmp t=>match gt σ t with
  | .own n k rows=>K (.own n k rows) (setPlace σ t [] .ud)
  | v=>cond (simple v) (K v σ) none
 | .cell a t=>load (E.tys t) σ (opnd E σ (.tmp a)) fun v σ'=>match v with
  | .ref r p=>match kindOf (E.tys t) with
   | .slice k _=>place k σ' r p (fun n rows=>K (.own n k rows) (setPlace σ' r p .ud)) (fun f rows=>K (.sl k f rows) σ')
   | _=>none
  | v=>cond (simple v) (K v σ') none
def resAll (E:Env):List ResultVar→List V→List V→(List V→List V→Option R)→Option R
 | [],acc,σ,K=>K acc.reverse σ
 | r::rest,acc,σ,K=>resOne E σ r fun v σ'=>resAll E rest (v::acc) σ' K
def maskOuts (fixed:List Nat) (σ:List V):List V:=σ.zipIdx.map fun x=>cond (fixed.contains x.2) x.1 .ud
def pack (vs:List V):V:=match vs with
 | [v]=>v
 | vs=>.tup vs
def runBody (E:Env) (n:Nat) (fn:Func) (c:Code) (args:List V):Option (V×List V) :=
 cond (args.all linkFree) (run E n c (args++List.replicate (fn.ntmps-args.length) .ud) fun e σ=>match e with
  | .exit _=>none
  | _=>resAll E fn.results.toList [] σ fun vs σ'=>some (pack vs,maskOuts E.fixed (σ'.take args.length))) none
end
end Go.Zv
namespace Go.Zv
open Go
def OpenRow (k:Nat) (w:World) (b n:Nat):Prop :=
 ∃ cs e lo hi,w.heap[b]?=some (.cells cs e (lo,hi))∧n≤cs.size∧(lo=hi∨(k=1∧cs.size≤lo))
def LibRow (w:World) (e b:Nat) (v:Value) (bs:List UInt8) (O:List Nat):Prop :=
 (v=.slice none 0 0∧bs=[]∧O=[]) ∨
 ∃ g cap cur,bs≠[]∧v=.slice (some ⟨g,0,none⟩) bs.length cap∧O=[g]∧g≠b∧w.heap[g]?=some (.cells cur e (0,0))∧bs.length≤cap∧cap≤maxLen∧cur.size=cap∧cur.toList.take bs.length=bs.map fun c=>Value.int .u8 c.toNat
def LibBox (w:World) (kd T e b:Nat) (bs:List UInt8) (O:List Nat):Prop :=
 (kd=0∧∃ p v,w.heap[b]?=some (.cells #[p,v] T (0,0))∧(p=.pointer none∨p=.pointer (some ⟨b,0,none⟩))∧LibRow w e b v bs O) ∨
 (kd=1∧∃ v lr,w.heap[b]?=some (.cells #[v,.int .i64 0,.int .i8 lr] T (0,0))∧LibRow w e b v bs O) ∨
 (kd=2∧O=[]∧∃ cs,w.heap[b]?=some (.cells cs T (0,0)))
theorem LibRow.of_heap {w w':World} {e b:Nat} {v:Value} {bs:List UInt8} {O:List Nat} (h:LibRow w e b v bs O) (ho:∀ y∈O,w'.heap[y]?=w.heap[y]?):LibRow w' e b v bs O:=by
 rcases h with h | ⟨g,cap,cur,h0,h1,rfl,h2,h3,h4⟩
 ·
  exact .inl h
 ·
  exact .inr ⟨g,cap,cur,h0,h1,rfl,h2,by rw[ho g (by simp)];exact h3,h4⟩
theorem LibBox.of_heap {w w':World} {kd T e b:Nat} {bs:List UInt8} {O:List Nat} (h:LibBox w kd T e b bs O) (hb:w'.heap[b]?=w.heap[b]?) (ho:∀ y∈O,w'.heap[y]?=w.heap[y]?):LibBox w' kd T e b bs O:=by
 rcases h with ⟨h0,p,v,h1,h2,h3⟩ | ⟨h0,v,lr,h1,h3⟩ | ⟨h0,rfl,cs,h1⟩
 ·
  exact .inl ⟨h0,p,v,by rw[hb];exact h1,h2,h3.of_heap ho⟩
 ·
  exact .inr (.inl ⟨h0,v,lr,by rw[hb];exact h1,h3.of_heap ho⟩)
 ·
  exact .inr (.inr ⟨h0,rfl,cs,by rw[hb];exact h1⟩)
theorem LibBox.lt {w:World} {kd T e b:Nat} {bs:List UInt8} {O:List Nat} (h:LibBox w kd T e b bs O):∀ y∈b::O,y<w.heap.size:=by
 have key:∀ {y:Nat} {o:Obj},w.heap[y]?=some o→y<w.heap.size:=fun {y o} h=>by
  rcases Nat.lt_or_ge y w.heap.size with h' | h'
  ·
   exact h'
  ·
   rw[Array.getElem?_eq_none h'] at h;cases h
 have row:∀ {v:Value},LibRow w e b v bs O→∀ y∈O,y<w.heap.size:=by
  rintro v (⟨_,_,rfl⟩ | ⟨g,cap,cur,_,_,rfl,_,h,_⟩) y hy
  ·
   cases hy
  ·
   rw[List.mem_singleton.1 hy];exact key h
 intro y hy
 rcases h with ⟨_,p,v,h1,_,h3⟩ | ⟨_,v,lr,h1,h3⟩ | ⟨_,rfl,cs,h1⟩ <;> rcases List.mem_cons.1 hy with rfl | hy
 ·
  exact key h1
 ·
  exact row h3 y hy
 ·
  exact key h1
 ·
  exact row h3 y hy
 ·
  exact key h1
 ·
  cases hy
mutual
inductive Rep (S:Nat→Prop) (w:World):Value→V→List Nat→Prop
 | ud (v:Value):Rep S w v .ud []
 | int (k:IntKind) (n:Int):Rep S w (.int k n) (.int k n) []
 | bool (b:Bool):Rep S w (.bool b) (.bool b) []
 | str (s:ByteArray):Rep S w (.string s) (.str s.data.toList) []
 | nilsl (a:Option Addr):Rep S w (.slice a 0 0) .nilsl []
 | nilp:Rep S w (.pointer none) .nilp []
 | agg {cs:Array Value} {vs:List V}:(∀ c∈cs.toList,c.oneCell'=true)→Reps S w cs.toList vs []→Rep S w (.agg cs) (.agg vs) []
 | tup {cs:Array Value} {vs:List V} {O:List Nat}:Reps S w cs.toList vs O→Rep S w (.tuple cs) (.tup vs) O
 | cl {v:Value} {x:V}:Rep S w v x []→Rep S w v (.cl x) []
 | sl0 (a:Option Addr) (c k:Nat) (f:Bool):(f=true→c=0)→Rep S w (.slice a 0 c) (.sl k f []) []
 | sl {b o c k:Nat} {f:Bool} {rows:List (List V)}:0<k→rows≠[]→(∀ r∈rows,r.length=k)→S b→(rows.length≤c∧(f=true→c=rows.length)) →
   Mem S w b o rows.flatten []→Rep S w (.slice (some ⟨b,o,none⟩) rows.length c) (.sl k f rows) []
 | own0 (a:Option Addr) (n:Bool) (k:Nat):Rep S w (.slice a 0 0) (.own n k []) []
 | own {b o c k:Nat} {n:Bool} {rows:List (List V)} {O:List Nat}:0<k→(∀ r∈rows,r.length=k)→OpenRow k w b (o+c*k)→rows.length≤c →
   (n=false→O=[])→Mem S w b o rows.flatten O→Rep S w (.slice (some ⟨b,o,none⟩) rows.length c) (.own n k rows) (b::O)
 | obox {b:Nat} {cells:List V} {O:List Nat}:OpenRow 1 w b cells.length→Mem S w b 0 cells O→Rep S w (.pointer (some ⟨b,0,none⟩)) (.obox cells) (b::O)
 | ptr (v:Value) (r:Nat) (p:Path):Rep S w v (.ptr r p) []
 | ref (v:Value) (r:Nat) (p:Path):Rep S w v (.ref r p) []
 | bsl (v:Value) (r:Nat) (p:Path) (n:Nat):Rep S w v (.bsl r p n) []
 | iptr {b o off a:Nat} {cells:List V}:S b→a=o+off→Mem S w b o cells []→Rep S w (.pointer (some ⟨b,a,none⟩)) (.iptr cells off) []
 | fn {f:Nat} {caps:Array Value} {vs:List V}:Reps S w caps.toList vs []→Rep S w (.func (.func f) #[] caps) (.fn f vs) []
 | lib {b kd T e:Nat} {bs:List UInt8} {O:List Nat}:LibBox w kd T e b bs O→Rep S w (.pointer (some ⟨b,0,none⟩)) (.lib kd T e bs) (b::O)
inductive Reps (S:Nat→Prop) (w:World):List Value→List V→List Nat→Prop
 | nil:Reps S w [] [] []
 | cons {v:Value} {x:V} {vs:List Value} {xs:List V} {O1 O2:List Nat}:Rep S w v x O1→Reps S w vs xs O2→Reps S w (v::vs) (x::xs) (O1++O2)
inductive Mem (S:Nat→Prop) (w:World):Nat→Nat→List V→List Nat→Prop
 | nil (b o:Nat):Mem S w b o [] []
 | cons {b o:Nat} {v:Value} {x:V} {xs:List V} {O1 O2:List Nat}:w.cell? ⟨b,o,none⟩=some v→v.oneCell'=true→Rep S w v x O1→Mem S w b (o+1) xs O2→Mem S w b o (x::xs) (O1++O2)
end
theorem cell?_of_heap {w w':World} {b o:Nat} (h:w'.heap[b]?=w.heap[b]?):w'.cell? ⟨b,o,none⟩=w.cell? ⟨b,o,none⟩:=by
 simp[World.cell?,h]
theorem OpenRow.of_heap {k:Nat} {w w':World} {b n:Nat} (h:w'.heap[b]?=w.heap[b]?) (H:OpenRow k w b n):OpenRow k w' b n:=by
 obtain ⟨cs,e,lo,hi,h1,h2⟩:=H
 exact ⟨cs,e,lo,hi,by rw[h,h1],h2⟩
section
variable {S S':Nat→Prop} {w w':World}
mutual
theorem Rep.mono (hS:∀ b,S b→S' b) (hs:∀ b,S b→w'.heap[b]?=w.heap[b]?) :
  ∀ {v:Value} {x:V} {O:List Nat},Rep S w v x O→(∀ b∈O,w'.heap[b]?=w.heap[b]?)→Rep S' w' v x O
 | _,_,_,.ud v,_=>.ud v
 | _,_,_,.int k n,_=>.int k n
 | _,_,_,.bool b,_=>.bool b
 | _,_,_,.str s,_=>.str s
 | _,_,_,.nilsl a,_=>.nilsl a
 | _,_,_,.nilp,_=>.nilp
 | _,_,_,.agg h0 h,_=>.agg h0 (Reps.mono hS hs h (by simp))
 | _,_,_,.tup h,ho=>.tup (Reps.mono hS hs h ho)
 | _,_,_,.cl h,_=>.cl (Rep.mono hS hs h (by simp))
 | _,_,_,.sl0 a c k f h,_=>.sl0 a c k f h
 | _,_,_,.sl h1 h2 h3 h4 h5 h6,_=>.sl h1 h2 h3 (hS _ h4) h5 (Mem.mono hS hs h6 (.inl h4) (by simp))
 | _,_,_,.own0 a n k,_=>.own0 a n k
 | _,_,_,.own h1 h2 h3 h4 h5 h6,ho=>.own h1 h2 (h3.of_heap (ho _ (by simp))) h4 h5 (Mem.mono hS hs h6 (.inr (ho _ (by simp))) fun b hb=>ho b (by simp[hb]))
 | _,_,_,.obox h1 h2,ho=>.obox (h1.of_heap (ho _ (by simp))) (Mem.mono hS hs h2 (.inr (ho _ (by simp))) fun b hb=>ho b (by simp[hb]))
 | _,_,_,.ptr v r p,_=>.ptr v r p
 | _,_,_,.ref v r p,_=>.ref v r p
 | _,_,_,.bsl v r p n,_=>.bsl v r p n
 | _,_,_,.iptr h1 h0 h2,_=>.iptr (hS _ h1) h0 (Mem.mono hS hs h2 (.inl h1) (by simp))
 | _,_,_,.fn h,_=>.fn (Reps.mono hS hs h (by simp))
 | _,_,_,.lib h,ho=>.lib (h.of_heap (ho _ (by simp)) fun b hb=>ho b (by simp[hb]))
theorem Reps.mono (hS:∀ b,S b→S' b) (hs:∀ b,S b→w'.heap[b]?=w.heap[b]?) :
  ∀ {vs:List Value} {xs:List V} {O:List Nat},Reps S w vs xs O→(∀ b∈O,w'.heap[b]?=w.heap[b]?)→Reps S' w' vs xs O
 | _,_,_,.nil,_=>.nil
 | _,_,_,.cons h1 h2,ho=>.cons (Rep.mono hS hs h1 fun b hb=>ho b (by simp[hb])) (Reps.mono hS hs h2 fun b hb=>ho b (by simp[hb]))
theorem Mem.mono (hS:∀ b,S b→S' b) (hs:∀ b,S b→w'.heap[b]?=w.heap[b]?) :
  ∀ {b o:Nat} {xs:List V} {O:List Nat},Mem S w b o xs O→(S b∨w'.heap[b]?=w.heap[b]?)→(∀ b∈O,w'.heap[b]?=w.heap[b]?)→Mem S' w' b o xs O
 | _,_,_,_,.nil b o,_,_=>.nil b o
 | _,_,_,_,.cons h1 h0 h2 h3,hb,ho=>.cons (by rw[cell?_of_heap (hb.elim (hs _) id)];exact h1) h0 (Rep.mono hS hs h2 fun b hb=>ho b (by simp[hb])) (Mem.mono hS hs h3 hb fun b hb=>ho b (by simp[hb]))
end
end
theorem lt_of_some {w:World} {b:Nat} {o:Obj} (h:w.heap[b]?=some o):b<w.heap.size:=by
 rcases Nat.lt_or_ge b w.heap.size with h' | h'
 ·
  exact h'
 ·
  rw[Array.getElem?_eq_none h'] at h;cases h
mutual
theorem Rep.low {S:Nat→Prop} {w:World}:∀ {v:Value} {x:V} {O:List Nat},Rep S w v x O→∀ b∈O,b<w.heap.size
 | _,_,_,.ud v,_,h | _,_,_,.int k n,_,h | _,_,_,.bool _,_,h | _,_,_,.str s,_,h | _,_,_,.nilsl a,_,h | _,_,_,.nilp,_,h
 | _,_,_,.agg _ _,_,h | _,_,_,.cl _,_,h | _,_,_,.sl0 ..,_,h | _,_,_,.sl ..,_,h | _,_,_,.own0 ..,_,h | _,_,_,.ptr ..,_,h
 | _,_,_,.ref ..,_,h | _,_,_,.bsl ..,_,h | _,_,_,.iptr ..,_,h | _,_,_,.fn ..,_,h=>by cases h
 | _,_,_,.tup h,b,hb=>Reps.low h b hb
 | _,_,_,.own _ _ h3 _ _ h6,b,hb=>by
  rcases List.mem_cons.1 hb with rfl | hb
  ·
   obtain ⟨cs,e,lo,hi,h,_⟩:=h3;exact lt_of_some h
  ·
   exact Mem.low h6 b hb
 | _,_,_,.lib h,b,hb=>h.lt b hb
 | _,_,_,.obox h1 h2,b,hb=>by
  rcases List.mem_cons.1 hb with rfl | hb
  ·
   obtain ⟨cs,e,lo,hi,h,_⟩:=h1;exact lt_of_some h
  ·
   exact Mem.low h2 b hb
theorem Reps.low {S:Nat→Prop} {w:World}:∀ {vs:List Value} {xs:List V} {O:List Nat},Reps S w vs xs O→∀ b∈O,b<w.heap.size
 | _,_,_,.nil,_,h=>by cases h
 | _,_,_,.cons h1 h2,b,hb=>(List.mem_append.1 hb).elim (Rep.low h1 b) (Reps.low h2 b)
theorem Mem.low {S:Nat→Prop} {w:World}:∀ {b o:Nat} {xs:List V} {O:List Nat},Mem S w b o xs O→∀ b∈O,b<w.heap.size
 | _,_,_,_,.nil _ _,_,h=>by cases h
 | _,_,_,_,.cons _ _ h2 h3,b,hb=>(List.mem_append.1 hb).elim (Rep.low h2 b) (Mem.low h3 b)
end
theorem Mem.append {S:Nat→Prop} {w:World} {b:Nat}:∀ {xs ys:List V} {o:Nat} {O1 O2:List Nat},Mem S w b o xs O1→Mem S w b (o+xs.length) ys O2→Mem S w b o (xs++ys) (O1++O2)
 | _,_,_,_,_,.nil _ _,h=>by simpa using h
 | _,ys,o,_,O2,.cons (xs:=xs) h1 h0 h2 h3,h=>by
  have:=Mem.append (ys:=ys) h3 (by simpa[Nat.add_assoc,Nat.add_comm 1] using h)
  simpa using Mem.cons h1 h0 h2 this
theorem Mem.split {S:Nat→Prop} {w:World} {b:Nat}:∀ {xs ys:List V} {o:Nat} {O:List Nat},Mem S w b o (xs++ys) O →
  ∃ O1 O2,O=O1++O2∧Mem S w b o xs O1∧Mem S w b (o+xs.length) ys O2
 | [],_,_,O,h=>⟨[],O,rfl,.nil _ _,by simpa using h⟩
 | x::xs,ys,o,O,h=>by
  cases h with
  | cons h1 h0 h2 h3 =>
   rename_i v O1 O2
   obtain ⟨P1,P2,rfl,m1,m2⟩:=Mem.split h3
   refine ⟨O1++P1,P2,by simp,.cons h1 h0 h2 m1,?_⟩
   simpa[Nat.add_assoc,Nat.add_comm 1] using m2
theorem Mem.at {S:Nat→Prop} {w:World} {b:Nat} {xs:List V} {o:Nat} {O:List Nat} (h:Mem S w b o xs O) {j:Nat} (hj:j<xs.length) :
  ∃ O1 O2 O3 v,O=O1++O2++O3∧w.cell? ⟨b,o+j,none⟩=some v∧Rep S w v (xs.getD j .ud) O2 ∧
   Mem S w b o (xs.take j) O1∧Mem S w b (o+j+1) (xs.drop (j+1)) O3∧v.oneCell'=true:=by
 have e:xs=xs.take j++(xs.getD j .ud::xs.drop (j+1)):=by
  rw[List.getD_eq_getElem?_getD,List.getElem?_eq_getElem hj];simp
 rw[e] at h
 obtain ⟨O1,P,rfl,m1,m2⟩:=h.split
 have hl:(xs.take j).length=j:=by simp;omega
 rw[hl] at m2
 cases m2 with
 | cons h1 h0 h2 h3=>exact ⟨O1,_,_,_,by simp,h1,h2,m1,h3,h0⟩
theorem Rep.strip {S:Nat→Prop} {w:World} {v:Value} {x:V} {O:List Nat} (h:Rep S w v x O):Rep S w v x.strip O:=by
 cases x
 case cl x =>
  cases h with
  | cl h=>exact h
 case sl k f rows =>
  cases h with
  | sl0 a c _ _ _=>exact .sl0 a c k false (by simp)
  | sl h1 h2 h3 h4 h5 h6=>exact .sl h1 h2 h3 h4 ⟨h5.1,by simp⟩ h6
 all_goals exact h
theorem Rep.canon1 {S:Nat→Prop} {w:World} {v:Value} {x:V} (t:TK) (h:Rep S w v x []):Rep S w v (canon1 t x) []:=by
 have hsl:∀ {k:Nat} {f:Bool} {rows:List (List V)},Rep S w v (.sl k f rows) []→Rep S w v (.sl k false rows) []:=by
  intro k f rows h
  cases h with
  | sl0 a c _ _ _=>exact .sl0 a c k false (by simp)
  | sl h1 h2 h3 h4 h5 h6=>exact .sl h1 h2 h3 h4 ⟨h5.1,by simp⟩ h6
 have hnil:∀ {k:Nat},Rep S w v .nilsl []→Rep S w v (.sl k false []) []:=by
  intro k h
  cases h with
  | nilsl a=>exact .sl0 a 0 k false (by simp)
 have hcl:∀ {y:V},Rep S w v (.cl y) []→Rep S w v y []:=by
  intro y h
  cases h with
  | cl h=>exact h
 unfold Go.Zv.canon1
 split
 ·
  exact hnil h
 ·
  exact hsl h
 ·
  exact hnil (hcl h)
 ·
  exact hsl (hcl h)
 ·
  exact hcl h
 ·
  exact hcl h
 ·
  exact hcl h
 ·
  exact h
theorem Reps.canon {S:Nat→Prop} {w:World}:∀ {vs:List Value} {xs:List V} {O:List Nat} (ts:List TK),Reps S w vs xs O→O=[]→Reps S w vs (canon ts xs) []
 | _,_,_,[],h,e=>by subst e;simpa[Go.Zv.canon] using h
 | [],[],_,t::ts,h,e=>by simpa[Go.Zv.canon] using Reps.nil
 | _::_,_::_,_,t::ts,h,e=>by
  cases h with
  | cons h1 h2 =>
   obtain ⟨e1,e2⟩:=List.append_eq_nil_iff.1 e
   subst e1;subst e2
   exact .cons (h1.canon1 t) (Reps.canon ts h2 rfl)
theorem Reps.canonB {S:Nat→Prop} {w:World} {vs:List Value} {xs:List V} (raw:Bool) (ts:List TK) (h:Reps S w vs xs []):Reps S w vs (canonB raw ts xs) []:=by
 cases raw with
 | true=>exact h
 | false=>exact h.canon ts rfl
end Go.Zv
namespace Go.Zv
open Go
inductive Follow (w:World):Value→V→Path→Value→V→Prop
 | nil (v:Value) (x:V):Follow w v x [] v x
 | own {b o m c k i j:Nat} {n:Bool} {rows:List (List V)} {v' u:Value} {X:V} {p:Path}:i<rows.length→j<k →
   w.cell? ⟨b,o+(i*k+j),none⟩=some v'→Follow w v' ((rows.getD i []).getD j .ud) p u X →
   Follow w (.slice (some ⟨b,o,none⟩) m c) (.own n k rows) ((i,j)::p) u X
 | box {b j:Nat} {cells:List V} {v' u:Value} {X:V} {p:Path}:j<cells.length →
   w.cell? ⟨b,j,none⟩=some v'→Follow w v' (cells.getD j .ud) p u X →
   Follow w (.pointer (some ⟨b,0,none⟩)) (.obox cells) ((0,j)::p) u X
theorem Follow.get {w:World} {v u:Value} {x X:V} {p:Path} (h:Follow w v x p u X):X=getP x p:=by
 induction h with
 | nil=>rfl
 | own _ _ _ _ ih=>simpa[getP,cellAt] using ih
 | box _ _ _ ih=>simpa[getP,cellAt] using ih
theorem Follow.fun {w:World} {v u u':Value} {x X X':V} {p:Path} (h:Follow w v x p u X) (h':Follow w v x p u' X'):u=u'∧X=X':=by
 induction h with
 | nil=>cases h';exact ⟨rfl,rfl⟩
 | own _ _ hc _ ih =>
  cases h' with
  | own _ _ hc' h'=>rw[hc] at hc';cases hc';exact ih h'
 | box _ hc _ ih =>
  cases h' with
  | box _ hc' h'=>rw[hc] at hc';cases hc';exact ih h'
theorem flatten_length {k:Nat}:∀ {rows:List (List V)},(∀ r∈rows,r.length=k)→rows.flatten.length=rows.length*k
 | [],_=>by simp
 | r::rows,h=>by
  simp only[List.flatten_cons,List.length_append,List.length_cons]
  rw[flatten_length (fun r hr=>h r (by simp[hr])),h r (by simp),Nat.add_mul,Nat.one_mul,Nat.add_comm]
theorem flatten_getD {k:Nat}:∀ {rows:List (List V)} {i j:Nat},(∀ r∈rows,r.length=k)→i<rows.length→j<k →
  rows.flatten.getD (i*k+j) .ud=(rows.getD i []).getD j .ud
 | [],i,j,_,hi,_=>by simp at hi
 | r::rows,0,j,h,_,hj=>by
  have:r.length=k:=h r (by simp)
  simp[List.getD_eq_getElem?_getD,List.getElem?_append_left (show j<r.length by omega)]
 | r::rows,i+1,j,h,hi,hj=>by
  have hr:r.length=k:=h r (by simp)
  have e:(i+1)*k+j=r.length+(i*k+j):=by rw[hr,Nat.add_mul];omega
  have:=flatten_getD (rows:=rows) (i:=i) (j:=j) (fun r hr=>h r (by simp[hr])) (by simpa using hi) hj
  simp only[List.getD_eq_getElem?_getD] at this ⊢
  simp only[List.flatten_cons,List.getElem?_cons_succ]
  rw[e,List.getElem?_append_right (by omega),Nat.add_sub_cancel_left]
  exact this
theorem set_uniform {k:Nat} {rows:List (List V)} {i:Nat} {r:List V} (h:∀ r∈rows,r.length=k) (hr:i<rows.length→r.length=k) :
  ∀ r'∈rows.set i r,r'.length=k:=by
 intro r' h'
 rcases List.mem_or_eq_of_mem_set h' with h1 | h1
 ·
  exact h _ h1
 ·
  subst h1
  rcases Nat.lt_or_ge i rows.length with h2 | h2
  ·
   exact hr h2
  ·
   rw[List.set_eq_of_length_le h2] at h';exact h _ h'
theorem getD_mem {rows:List (List V)} {i:Nat} (h:i<rows.length):rows.getD i []∈rows:=by
 rw[List.getD_eq_getElem?_getD,List.getElem?_eq_getElem h];simp
theorem flatten_set {k:Nat}:∀ {rows:List (List V)} {i j:Nat} {c:V},(∀ r∈rows,r.length=k)→i<rows.length→j<k →
  (rows.set i ((rows.getD i []).set j c)).flatten=rows.flatten.set (i*k+j) c
 | [],i,j,c,_,hi,_=>by simp at hi
 | r::rows,0,j,c,h,_,hj=>by
  have:r.length=k:=h r (by simp)
  simp[List.set_append_left _ _ (show j<r.length by omega)]
 | r::rows,i+1,j,c,h,hi,hj=>by
  have hr:r.length=k:=h r (by simp)
  have e:(i+1)*k+j=r.length+(i*k+j):=by rw[hr,Nat.add_mul];omega
  have:=flatten_set (rows:=rows) (i:=i) (j:=j) (c:=c) (fun r hr=>h r (by simp[hr])) (by simpa using hi) hj
  simp only[List.getD_cons_succ,List.set_cons_succ,List.flatten_cons]
  rw[this,e,List.set_append_right _ _ (by omega),Nat.add_sub_cancel_left]
theorem flat_lt {k i j n:Nat} (hi:i<n) (hj:j<k):i*k+j<n*k:=by
 have:=Nat.mul_le_mul_right k (show i+1≤n by omega)
 rw[Nat.add_mul] at this
 omega
theorem Mem.put {S S':Nat→Prop} {w w':World} {b:Nat} {xs:List V} {o:Nat} {O1 O2 O3 O2':List Nat} {j:Nat} {v:Value} {c:V}
  (hj:j<xs.length) (m1:Mem S' w' b o (xs.take j) O1) (hc:w'.cell? ⟨b,o+j,none⟩=some v) (hv:v.oneCell'=true) (hr:Rep S' w' v c O2') (m3:Mem S' w' b (o+j+1) (xs.drop (j+1)) O3) :
  Mem S' w' b o (xs.set j c) (O1++O2'++O3):=by
 have e:xs.set j c=xs.take j++(c::xs.drop (j+1)):=by
  rw[List.set_eq_take_append_cons_drop,if_pos hj]
 rw[e,List.append_assoc]
 have hl:(xs.take j).length=j:=by simp;omega
 exact m1.append (.cons (by rw[hl];exact hc) hv hr (by rw[hl];exact m3))
theorem Follow.mono {S:Nat→Prop} {w w':World} {v u:Value} {x X:V} {p:Path} (hf:Follow w v x p u X) :
  ∀ {O:List Nat},Rep S w v x O→(∀ b∈O,w'.heap[b]?=w.heap[b]?)→Follow w' v x p u X:=by
 induction hf with
 | nil v x=>exact fun _ _=>.nil v x
 | @own b o m c k i j n rows v' u X p hi hj hc hf ih =>
  intro O h ho
  cases h with
  | own0=>simp at hi
  | @own _ _ _ _ _ _ O h1 h2 h3 h4 h5 h6 =>
  have hlt:i*k+j<rows.flatten.length:=by rw[flatten_length h2];exact flat_lt hi hj
  obtain ⟨O1,O2,O3,v1,e,hc1,hr,m1,m3,hv1⟩:=h6.at hlt
  rw[hc] at hc1;cases hc1
  rw[flatten_getD h2 hi hj] at hr
  exact .own hi hj (by rw[cell?_of_heap (ho b (by simp))];exact hc) (ih hr fun b hb=>ho b (by simp[e,hb]))
 | @box b j cells v' u X p hj hc hf ih =>
  intro O h ho
  cases h with
  | @obox _ _ O h1 h2 =>
  obtain ⟨O1,O2,O3,v1,e,hc1,hr,m1,m3,hv1⟩:=h2.at hj
  simp only[Nat.zero_add] at hc1
  rw[hc] at hc1;cases hc1
  exact .box hj (by rw[cell?_of_heap (ho b (by simp))];exact hc) (ih hr fun b hb=>ho b (by simp[e,hb]))
inductive Base:Value→V→Nat→Nat→Nat→Prop
 | own {b o m c k i:Nat} {n:Bool} {rows:List (List V)}:i<rows.length→Base (.slice (some ⟨b,o,none⟩) m c) (.own n k rows) i b (o+i*k)
 | box {b:Nat} {cells:List V}:Base (.pointer (some ⟨b,0,none⟩)) (.obox cells) 0 b 0
 | lib {b kd T e:Nat} {bs:List UInt8}:Base (.pointer (some ⟨b,0,none⟩)) (.lib kd T e bs) 0 b 0
def InR:V→Nat→Prop
 | .own _ k _,j=>j<k
 | .obox cells,j=>j<cells.length
 | _,_=>False
def isSlice:V→Prop
 | .own _ _ _ | .sl _ _ _ | .nilsl=>True
 | _=>False
def Like (X X':V):Prop:=X'=X∨∃ i j c,X'=setCellV X i j c∧(isSlice c→isSlice (cellAt X i j))
theorem isSlice_setCellV {x:V} {i j:Nat} {c:V} (h:isSlice (setCellV x i j c)):isSlice x:=by cases x <;> simp_all [setCellV,isSlice]
theorem isSlice_setP {x X':V} {p:Path} (h:isSlice (setP x p X')) (hp:p≠[]):isSlice x:=by
 cases p with
 | nil=>exact absurd rfl hp
 | cons a p=>exact isSlice_setCellV h
theorem Base.like {c:Value} {X X':V} {i b o:Nat} (h:Base c X i b o) (hl:Like X X'):Base c X' i b o:=by
 rcases hl with rfl | ⟨i0,j0,d,rfl,_⟩
 ·
  exact h
 ·
  cases h with
  | own h=>exact .own (by simpa using h)
  | box=>exact .box
  | lib=>exact .lib
theorem InR.like {X X':V} {j:Nat} (h:InR X j) (hl:Like X X'):InR X' j:=by
 rcases hl with rfl | ⟨i0,j0,d,rfl,_⟩
 ·
  exact h
 ·
  cases X <;> simp_all [InR,setCellV]
theorem Base.owned {S:Nat→Prop} {w:World} {c:Value} {X:V} {i b o:Nat} {O:List Nat} (h:Base c X i b o) (hr:Rep S w c X O):b∈O:=by
 cases h with
 | own hi=>cases hr with
  | own0=>simp at hi
  | own=>simp
 | box=>cases hr with
  | obox=>simp
 | lib=>cases hr with
  | lib=>simp
theorem getD_set_ne' {rows:List (List V)} {i j i2 j2 k:Nat} {c:V} (hu:∀ r∈rows,r.length=k) (hi:i<rows.length) (hi2:i2<rows.length) (hj:j<k) (hj2:j2<k)
  (hne:i2*k+j2≠i*k+j):((rows.set i ((rows.getD i []).set j c)).getD i2 []).getD j2 .ud=(rows.getD i2 []).getD j2 .ud:=by
 have h1:=flatten_getD (rows:=rows.set i ((rows.getD i []).set j c)) (i:=i2) (j:=j2) (set_uniform hu fun _=>by simpa using hu _ (getD_mem hi)) (by simpa using hi2) hj2
 have h2:=flatten_getD (i:=i2) (j:=j2) hu hi2 hj2
 rw[←h1,←h2,flatten_set hu hi hj]
 simp only[List.getD_eq_getElem?_getD]
 rw[List.getElem?_set_ne (Ne.symm hne)]
theorem getD_set_eq' {rows:List (List V)} {i j k:Nat} {c:V} (hu:∀ r∈rows,r.length=k) (hi:i<rows.length) (hj:j<k) :
  ((rows.set i ((rows.getD i []).set j c)).getD i []).getD j .ud=c:=by
 have hr:=hu _ (getD_mem hi)
 simp only[List.getD_eq_getElem?_getD] at hr ⊢
 rw[List.getElem?_set_self hi]
 simp[hr,hj]
theorem getD_take {xs:List V} {n m:Nat} (h:n<m):(xs.take m).getD n .ud=xs.getD n .ud:=by
 simp[List.getD_eq_getElem?_getD,List.getElem?_take_of_lt h]
theorem getD_drop {xs:List V} {n m:Nat}:(xs.drop m).getD n .ud=xs.getD (m+n) .ud:=by
 simp[List.getD_eq_getElem?_getD]
theorem Mem.beside {S:Nat→Prop} {w:World} {b:Nat} {xs:List V} {o:Nat} {O1 O3:List Nat} {j j2:Nat} (hj2:j2<xs.length) (hne:j2≠j)
  (m1:Mem S w b o (xs.take j) O1) (m3:Mem S w b (o+j+1) (xs.drop (j+1)) O3) :
  ∃ v O2,w.cell? ⟨b,o+j2,none⟩=some v∧Rep S w v (xs.getD j2 .ud) O2∧∀ c∈O2,c∈O1∨c∈O3:=by
 rcases Nat.lt_or_ge j2 j with h | h
 ·
  obtain ⟨P1,P2,P3,v,e,hc,hr,_,_,_⟩:=m1.at (j:=j2) (by simp;omega)
  exact ⟨v,P2,hc,by rwa [getD_take h] at hr,fun c hc=>.inl (by simp[e,hc])⟩
 ·
  obtain ⟨P1,P2,P3,v,e,hc,hr,_,_,_⟩:=m3.at (j:=j2-(j+1)) (by simp;omega)
  have e2:o+j+1+(j2-(j+1))=o+j2:=by omega
  have e3:j+1+(j2-(j+1))=j2:=by omega
  rw[e2] at hc
  rw[getD_drop,e3] at hr
  exact ⟨v,P2,hc,hr,fun c hc=>.inr (by simp[e,hc])⟩
theorem Rep.focusA {S:Nat→Prop} {w:World} {v u:Value} {x X:V} {p:Path} (hf:Follow w v x p u X) :
  ∀ {O:List Nat},Rep S w v x O→∃ A OX B,O=A++OX++B∧Rep S w u X OX∧True:=by
 induction hf with
 | nil v x=>exact fun {O} h=>⟨[],O,[],by simp,h,trivial⟩
 | @own b o m c k i j n rows v' u X p hi hj hc hf ih =>
  intro O h
  cases h with
  | own0=>simp at hi
  | @own _ _ _ _ _ _ O h1 h2 h3 h4 h5 h6 =>
  have hlt:i*k+j<rows.flatten.length:=by rw[flatten_length h2];exact flat_lt hi hj
  obtain ⟨O1,O2,O3,v1,e,hc1,hr,m1,m3,hv1⟩:=h6.at hlt
  rw[hc] at hc1;cases hc1
  rw[flatten_getD h2 hi hj] at hr
  obtain ⟨A,OX,B,e2,hX,_⟩:=ih hr
  exact ⟨b::(O1++A),OX,B++O3,by simp[e,e2],hX,trivial⟩
 | @box b j cells v' u X p hj hc hf ih =>
  intro O h
  cases h with
  | @obox _ _ O h1 h2 =>
  obtain ⟨O1,O2,O3,v1,e,hc1,hr,m1,m3,hv1⟩:=h2.at hj
  simp only[Nat.zero_add] at hc1
  rw[hc] at hc1;cases hc1
  obtain ⟨A,OX,B,e2,hX,_⟩:=ih hr
  exact ⟨b::(O1++A),OX,B++O3,by simp[e,e2],hX,trivial⟩
theorem Rep.focus {S:Nat→Prop} {w:World} {v u:Value} {x X:V} {p:Path} (hf:Follow w v x p u X) :
  ∀ {O:List Nat},Rep S w v x O→∃ A OX B,O=A++OX++B∧Rep S w u X OX ∧
   ∀ (S':Nat→Prop) (w':World) (X':V) (OX':List Nat),(∀ b,S b→S' b)→(∀ b,S b→w'.heap[b]?=w.heap[b]?)→(∀ b,b∈A∨b∈B→w'.heap[b]?=w.heap[b]?) →
    (Rep S' w' u X' OX'→(OX=[]→OX'=[])→Rep S' w' v (setP x p X') (A++OX'++B)) ∧
    ((isSlice X'→isSlice X)→∀ p2 u2 X2,Follow w v x p2 u2 X2→p2.length≤p.length→∃ X2',Follow w' v (setP x p X') p2 u2 X2' ∧
     ((Like X2 X2'∧∀ i b o,Base u2 X2 i b o→w'.heap[b]?=w.heap[b]?)∨(p2=p∧X2'=X'))):=by
 induction hf with
 | nil v x =>
  refine fun {O} h=>⟨[],O,[],by simp,h,fun S' w' X' OX' _ _ _=>⟨fun h' _=>by simpa[setP] using h',fun _ p2 u2 X2 h2 hl=>?_⟩⟩
  have:p2=[]:=by simpa using hl
  subst this
  cases h2
  exact ⟨X',by simpa[setP] using Follow.nil _ _,.inr ⟨rfl,rfl⟩⟩
 | @own b o m c k i j n rows v' u X p hi hj hc hf ih =>
  intro O h
  cases h with
  | own0=>simp at hi
  | @own _ _ _ _ _ _ O h1 h2 h3 h4 h5 h6 =>
  have h2':=h2
  have hlt:i*k+j<rows.flatten.length:=by rw[flatten_length h2];exact flat_lt hi hj
  obtain ⟨O1,O2,O3,v1,e,hc1,hr,m1,m3,hv1⟩:=h6.at hlt
  rw[hc] at hc1;cases hc1
  rw[flatten_getD h2 hi hj] at hr
  obtain ⟨A,OX,B,e2,hX,hput⟩:=ih hr
  refine ⟨b::(O1++A),OX,B++O3,by simp[e,e2],hX,fun S' w' X' OX' hS hs ho=>?_⟩
  have hb:w'.heap[b]?=w.heap[b]?:=ho b (by simp)
  obtain ⟨hput1,hkeep⟩:=hput S' w' X' OX' hS hs (fun b hb=>ho b (by rcases hb with h | h <;> simp[h]))
  have hcell:w'.cell? ⟨b,o+(i*k+j),none⟩=some v':=by rw[cell?_of_heap hb];exact hc
  refine ⟨fun hX' hne=>?_,fun hsl p2 u2 X2 h2 hl=>?_⟩
  case refine_2 =>
   cases h2 with
   | nil=>exact ⟨_,.nil _ _,.inl ⟨.inr ⟨i,j,setP (cellAt (.own n k rows) i j) p X',rfl,fun hs=>by
     by_cases hp:p=[]
     ·
      subst hp
      have hg:=hf.get
      simp only[getP] at hg
      simp only[cellAt]
      rw[←hg]
      exact hsl hs
     ·
      exact isSlice_setP hs hp⟩,fun i b' o h=>by cases h;exact hb⟩⟩
   | @own _ _ _ _ _ i2 j2 _ _ v2 _ _ p2 hi2 hj2 hc2 hf2 =>
    have hlen:(rows.set i ((rows.getD i []).set j (setP ((rows.getD i []).getD j V.ud) p X'))).length=rows.length:=by simp
    by_cases hij:i2*k+j2=i*k+j
    ·
     obtain ⟨rfl,rfl⟩:i2=i∧j2=j:=by
      have h1:(i2*k+j2) / k=i2:=by rw[Nat.mul_comm,Nat.mul_add_div (by omega),Nat.div_eq_of_lt hj2];simp
      have h2:(i*k+j) / k=i:=by rw[Nat.mul_comm,Nat.mul_add_div (by omega),Nat.div_eq_of_lt hj];simp
      rw[hij,h2] at h1
      exact ⟨h1.symm,by subst h1;omega⟩
     rw[hc] at hc2;cases hc2
     obtain ⟨X2',hf',hL⟩:=hkeep hsl p2 u2 X2 hf2 (by simpa using hl)
     refine ⟨X2',?_,hL.imp id fun ⟨h1,h2⟩=>⟨by rw[h1],h2⟩⟩
     simp only[setP,setCellV,cellAt]
     exact .own (by rw[hlen];exact hi) hj hcell (by rw[getD_set_eq' ‹_› hi hj];exact hf')
    ·
     obtain ⟨v3,O4,hc3,hr3,hsub⟩:=Mem.beside (j:=i*k+j) (j2:=i2*k+j2) (by rw[flatten_length h2'];exact flat_lt hi2 hj2) hij m1 m3
     rw[hc2] at hc3;cases hc3
     rw[flatten_getD h2' hi2 hj2] at hr3
     refine ⟨X2,?_,.inl ⟨.inl rfl,fun i b' o' h=>by
      obtain ⟨A',OX',B',e',hX',_⟩:=hr3.focusA hf2
      have:=h.owned hX'
      exact ho b' (by rcases hsub b' (by simp[e',this]) with h | h <;> simp[h])⟩⟩
     simp only[setP,setCellV,cellAt]
     refine .own (by rw[hlen];exact hi2) hj2 (by rw[cell?_of_heap hb];exact hc2) ?_
     rw[getD_set_ne' h2' hi hi2 hj hj2 hij]
     exact hf2.mono hr3 fun b hb=>ho b (by rcases hsub b hb with h | h <;> simp[h])
  have hnew:=hput1 hX' hne
  have:=Mem.put (S:=S) (w:=w) (O2:=O2) hlt (m1.mono hS hs (.inr hb) fun b hb=>ho b (by simp[hb])) hcell hv1 hnew (m3.mono hS hs (.inr hb) fun b hb=>ho b (by simp[hb]))
  rw[←flatten_set h2 hi hj] at this
  have hlen:(rows.set i ((rows.getD i []).set j (setP ((rows.getD i []).getD j V.ud) p X'))).length=rows.length:=by simp
  have:=Rep.own (S:=S') (n:=n) h1 (set_uniform h2 fun _=>by simpa using h2 _ (getD_mem hi)) (h3.of_heap hb) (by rw[hlen];exact h4) (fun hn=>by
   have h0:=h5 hn
   rw[e,e2] at h0
   have:O1=[]∧O3=[]∧A=[]∧B=[]∧OX=[]:=by simp at h0;simp[h0]
   obtain ⟨rfl,rfl,rfl,rfl,h⟩:=this
   simp[hne h]) this
  rw[hlen] at this
  simpa[setP,setCellV,cellAt] using this
 | @box b j cells v' u X p hj hc hf ih =>
  intro O h
  cases h with
  | @obox _ _ O h1 h2 =>
  obtain ⟨O1,O2,O3,v1,e,hc1,hr,m1,m3,hv1⟩:=h2.at hj
  simp only[Nat.zero_add] at hc1
  rw[hc] at hc1;cases hc1
  obtain ⟨A,OX,B,e2,hX,hput⟩:=ih hr
  refine ⟨b::(O1++A),OX,B++O3,by simp[e,e2],hX,fun S' w' X' OX' hS hs ho=>?_⟩
  have hb:w'.heap[b]?=w.heap[b]?:=ho b (by simp)
  obtain ⟨hput1,hkeep⟩:=hput S' w' X' OX' hS hs (fun b hb=>ho b (by rcases hb with h | h <;> simp[h]))
  have hcell:w'.cell? ⟨b,0+j,none⟩=some v':=by rw[Nat.zero_add,cell?_of_heap hb];exact hc
  refine ⟨fun hX' hne=>?_,fun hsl p2 u2 X2 h2 hl=>?_⟩
  case refine_2 =>
   cases h2 with
   | nil=>exact ⟨_,.nil _ _,.inl ⟨.inr ⟨0,j,setP (cellAt (.obox cells) 0 j) p X',rfl,fun hs=>by
     by_cases hp:p=[]
     ·
      subst hp
      have hg:=hf.get
      simp only[getP] at hg
      simp only[cellAt]
      rw[←hg]
      exact hsl hs
     ·
      exact isSlice_setP hs hp⟩,fun i b' o h=>by cases h;exact hb⟩⟩
   | @box _ j2 _ v2 _ _ p2 hj2 hc2 hf2 =>
    by_cases hij:j2=j
    ·
     subst hij
     rw[hc] at hc2;cases hc2
     obtain ⟨X2',hf',hL⟩:=hkeep hsl p2 u2 X2 hf2 (by simpa using hl)
     ·
      refine ⟨X2',?_,hL.imp id fun ⟨h1,h2⟩=>⟨by rw[h1],h2⟩⟩
      simp only[setP,setCellV,cellAt]
      refine .box (by simpa using hj) (by rw[Nat.zero_add] at hcell;exact hcell) ?_
      rw[show (cells.set j2 (setP (cells.getD j2 V.ud) p X')).getD j2 V.ud=setP (cells.getD j2 V.ud) p X' by simp[List.getD_eq_getElem?_getD,hj]]
      exact hf'
    ·
     obtain ⟨v3,O4,hc3,hr3,hsub⟩:=Mem.beside (j:=j) (j2:=j2) hj2 hij m1 m3
     rw[Nat.zero_add,hc2] at hc3;cases hc3
     refine ⟨X2,?_,.inl ⟨.inl rfl,fun i b' o' h=>by
      obtain ⟨A',OX',B',e',hX',_⟩:=hr3.focusA hf2
      have:=h.owned hX'
      exact ho b' (by rcases hsub b' (by simp[e',this]) with h | h <;> simp[h])⟩⟩
     simp only[setP,setCellV,cellAt]
     refine .box (by simpa using hj2) (by rw[cell?_of_heap hb];exact hc2) ?_
     rw[show (cells.set j (setP (cells.getD j V.ud) p X')).getD j2 V.ud=cells.getD j2 V.ud by simp[List.getD_eq_getElem?_getD,List.getElem?_set_ne (Ne.symm hij)]]
     exact hf2.mono hr3 fun b hb=>ho b (by rcases hsub b hb with h | h <;> simp[h])
  have hnew:=hput1 hX' hne
  have:=Mem.put (S:=S) (w:=w) (O2:=O2) hj (m1.mono hS hs (.inr hb) fun b hb=>ho b (by simp[hb])) hcell hv1 hnew (m3.mono hS hs (.inr hb) fun b hb=>ho b (by simp[hb]))
  have:=Rep.obox (S:=S') (by simpa using h1.of_heap hb) this
  simpa[setP,setCellV,cellAt] using this
end Go.Zv
namespace Go.Zv
open Go
def Link1 (w:World) (tm:Array Value) (σ:List V) (u:Value):V→Prop
 | .ptr r p=>∃ q i j c X b o,p=q++[(i,j)]∧Follow w (tm.getD r undef) (gt σ r) q c X∧Base c X i b o∧u=.pointer (some ⟨b,o+j,none⟩)
 | .ref r p=>(p=[]∧(isSlice (gt σ r)→u=tm.getD r undef)) ∨
   ∃ q i j c X b o,p=q++[(i,j)]∧Follow w (tm.getD r undef) (gt σ r) q c X∧Base c X i b o∧InR X j∧(isSlice (cellAt X i j)→w.cell? ⟨b,o+j,none⟩=some u)
 | .bsl r p n=>∃ q i j c X b o m,p=q++[(i,j)]∧Follow w (tm.getD r undef) (gt σ r) q c X∧Base c X i b o∧u=.slice (some ⟨b,o+j,none⟩) n m
 | _=>True
def Link (w:World) (tm:Array Value) (σ:List V) (u:Value):V→Prop
 | .fn f caps=>∃ cs:Array Value,u=.func (.func f) #[] cs∧cs.size=caps.length∧∀ i,Link1 w tm σ (cs.getD i undef) (caps.getD i .ud)
 | x=>Link1 w tm σ u x
structure GlobAt (S:Nat→Prop) (w:World) (g:Nat) (cs:List V):Prop where
 inS:S g
 mem:Mem S w g 0 cs []
 size:∀ c t z,w.heap[g]?=some (.cells c t z)→c.size=cs.length
theorem GlobAt.mono {S S':Nat→Prop} {w w':World} {g:Nat} {cs:List V} (h:GlobAt S w g cs) (hS:∀ b,S b→S' b) (hs:∀ b,S b→w'.heap[b]?=w.heap[b]?):GlobAt S' w' g cs :=
 ⟨hS _ h.inS,h.mem.mono hS hs (.inl h.inS) (by simp),fun c t z e=>h.size c t z (by rw[←hs g h.inS];exact e)⟩
structure Rel (E:Env) (S:Nat→Prop) (who:Nat→Option Nat) (w:World) (tm:Array Value) (σ:List V):Prop where
 size:tm.size=σ.length
 rep:∀ i,∃ O,Rep S w (tm.getD i undef) (gt σ i) O∧O.Nodup∧∀ b∈O,who b=some i
 sep:∀ b,S b→who b=none
 low:∀ b,S b→b<w.heap.size
 lowO:∀ b i,who b=some i→b<w.heap.size
 link:∀ i,Link w tm σ (tm.getD i undef) (gt σ i)
 glob:∀ g cs,E.glob g=some cs→GlobAt S w g cs
structure Same (w w':World):Prop where
 os:w'.os=w.os
 tape:w'.tape=w.tape
 output:w'.output=w.output
theorem Same.refl (w:World):Same w w:=⟨rfl,rfl,rfl⟩
theorem Same.trans {w w1 w2:World} (h:Same w w1) (h':Same w1 w2):Same w w2:=⟨h'.os.trans h.os,h'.tape.trans h.tape,h'.output.trans h.output⟩
structure Step (S:Nat→Prop) (who:Nat→Option Nat) (w:World) (S':Nat→Prop) (who':Nat→Option Nat) (w':World):Prop where
 size:w.heap.size≤w'.heap.size
 keep:∀ b,b<w.heap.size→who b=none→w'.heap[b]?=w.heap[b]?
 sub:∀ b,S b→S' b
 new:∀ b,S' b→S b∨who b≠none∨w.heap.size≤b
 own:∀ b,who' b≠none→who b≠none∨w.heap.size≤b
 out:Same w w'
theorem Step.refl (S:Nat→Prop) (who:Nat→Option Nat) (w:World):Step S who w S who w :=
 ⟨Nat.le_refl _,fun _ _ _=>rfl,fun _ h=>h,fun _ h=>.inl h,fun _ h=>.inl h,Same.refl _⟩
theorem Step.trans {S S1 S2:Nat→Prop} {who who1 who2:Nat→Option Nat} {w w1 w2:World} (h:Step S who w S1 who1 w1) (h':Step S1 who1 w1 S2 who2 w2):Step S who w S2 who2 w2:=by
 refine ⟨Nat.le_trans h.size h'.size,fun b hb hn=>?_,fun b hb=>h'.sub b (h.sub b hb),fun b hb=>?_,fun b hb=>?_,h.out.trans h'.out⟩
 ·
  have h1:who1 b=none:=by
   cases e:who1 b with
   | none=>rfl
   | some x => rcases h.own b (by simp [e]) with h2 | h2
               ·
                exact absurd hn h2
               ·
                omega
  rw[h'.keep b (Nat.lt_of_lt_of_le hb h.size) h1,h.keep b hb hn]
 ·
  rcases h'.new b hb with h1 | h1 | h1
  ·
   exact h.new b h1
  ·
   rcases h.own b h1 with h2 | h2
   ·
    exact .inr (.inl h2)
   ·
    exact .inr (.inr h2)
  ·
   exact .inr (.inr (Nat.le_trans h.size h1))
 ·
  rcases h'.own b hb with h1 | h1
  ·
   exact h.own b h1
  ·
   exact .inr (Nat.le_trans h.size h1)
theorem gt_set {σ:List V} {d i:Nat} {v:V}:gt (σ.set d v) i=if d=i∧i<σ.length then v else gt σ i:=by
 unfold gt
 simp only[List.getD_eq_getElem?_getD]
 by_cases h:d=i
 ·
  subst h
  by_cases h2:d<σ.length
  ·
   simp[h2]
  ·
   simp[h2,List.getElem?_eq_none (Nat.le_of_not_lt h2)]
 ·
  simp[h,List.getElem?_set_ne h]
theorem gt_map {σ:List V} {i:Nat} {f:V→V} (hf:f .ud=.ud):gt (σ.map f) i=f (gt σ i):=by
 unfold gt
 simp only[List.getD_eq_getElem?_getD,List.getElem?_map]
 cases h:σ[i]? <;> simp[hf]
theorem getD_setIfInBounds {tm:Array Value} {d i:Nat} {v:Value}:(tm.setIfInBounds d v).getD i undef=if d=i∧i<tm.size then v else tm.getD i undef:=by
 simp only[Array.getD_eq_getD_getElem?]
 by_cases h:d=i
 ·
  subst h
  by_cases h2:d<tm.size
  ·
   simp[h2,Array.getElem?_setIfInBounds_self_of_lt h2]
  ·
   simp[h2]
 ·
  simp[h,Array.getElem?_setIfInBounds_ne h]
theorem gt_len {σ:List V} {i:Nat} (h:σ.length≤i):gt σ i=.ud:=by
 unfold gt;simp[List.getD_eq_getElem?_getD,List.getElem?_eq_none h]
theorem gt_dropRoot {σ:List V} {d i:Nat}:gt (dropRoot d σ) i=cond (into d (gt σ i)) .ud (gt σ i):=by
 unfold dropRoot;rw[gt_map (by rfl)]
theorem gt_drop {σ:List V} {r d i:Nat}:gt (drop r d σ) i=cond (stale r d (gt σ i)) .ud (gt σ i):=by
 unfold drop;rw[gt_map (by rfl)]
theorem Follow.stop {w:World} {v u:Value} {x X:V} {p:Path} (h:Follow w v x p u X) (h1:∀ n k rows,x≠.own n k rows) (h2:∀ cells,x≠.obox cells):p=[]∧u=v∧X=x:=by
 cases h with
 | nil=>exact ⟨rfl,rfl,rfl⟩
 | own=>exact absurd rfl (h1 _ _ _)
 | box=>exact absurd rfl (h2 _)
def Cont:V→Bool
 | .own _ _ _ | .obox _ | .lib ..=>true
 | _=>false
theorem Follow.stop' {w:World} {v u:Value} {x X:V} {p:Path} (h:Follow w v x p u X) (h1:Cont x=false):p=[]∧u=v∧X=x :=
 h.stop (fun n k rows e=>by subst e;cases h1) (fun c e=>by subst e;cases h1)
theorem Base.cont {c:Value} {X:V} {i b o:Nat} (h:Base c X i b o):Cont X=true:=by cases h <;> rfl
def SameRoot (tm tm':Array Value) (σ σ':List V) (r:Nat):Prop :=
 tm'.getD r undef=tm.getD r undef∧(gt σ' r=gt σ r∨¬isSlice (gt σ' r)∧Cont (gt σ r)=false)
theorem Follow.congr {w:World} {tm tm':Array Value} {σ σ':List V} {r:Nat} {q:Path} {c:Value} {X:V} (hr:SameRoot tm tm' σ σ' r)
  (h:Follow w (tm.getD r undef) (gt σ r) q c X) (hX:Cont X=true):Follow w (tm'.getD r undef) (gt σ' r) q c X:=by
 obtain ⟨h1,h2 | ⟨h2,h3⟩⟩:=hr
 ·
  rw[h1,h2];exact h
 ·
  obtain ⟨rfl,rfl,rfl⟩:=h.stop' h3
  rw[h3] at hX;cases hX
theorem Link1.congr {w:World} {tm tm':Array Value} {σ σ':List V} {u:Value} {x:V} (h:Link1 w tm σ u x) (hr:∀ r,into1 r x=true→SameRoot tm tm' σ σ' r) :
  Link1 w tm' σ' u x:=by
 cases x <;> try trivial
 case ptr r p =>
  obtain ⟨q,i,j,c,X,b,o,e,hf,hb,hu⟩:=h
  exact ⟨q,i,j,c,X,b,o,e,hf.congr (hr r (by simp[into1])) hb.cont,hb,hu⟩
 case bsl r p n =>
  obtain ⟨q,i,j,c,X,b,o,m,e,hf,hb,hu⟩:=h
  exact ⟨q,i,j,c,X,b,o,m,e,hf.congr (hr r (by simp[into1])) hb.cont,hb,hu⟩
 case ref r p =>
  have hs:=hr r (by simp[into1])
  rcases h with ⟨e,h⟩ | ⟨q,i,j,c,X,b,o,e,hf,hb,hj,hu⟩
  ·
   refine .inl ⟨e,?_⟩
   obtain ⟨h1,h2 | ⟨h2,h3⟩⟩:=hs
   ·
    rw[h1,h2];exact h
   ·
    exact fun h=>(h2 h).elim
  ·
   exact .inr ⟨q,i,j,c,X,b,o,e,hf.congr hs hb.cont,hb,hj,hu⟩
theorem into_fn {r f:Nat} {caps:List V}:into r (.fn f caps)=caps.any (into1 r):=rfl
theorem getD_any {caps:List V} {i:Nat} {g:V→Bool} (hg:g .ud=false) (h:g (caps.getD i .ud)=true):caps.any g=true:=by
 rw[List.getD_eq_getElem?_getD] at h
 cases e:caps[i]? with
 | none=>rw[e] at h;simp[hg] at h
 | some x=>rw[e] at h;exact List.any_eq_true.2 ⟨x,List.mem_of_getElem? e,by simpa using h⟩
theorem Link.congr {w:World} {tm tm':Array Value} {σ σ':List V} {u:Value} {x:V} (h:Link w tm σ u x) (hr:∀ r,into r x=true→SameRoot tm tm' σ σ' r) :
  Link w tm' σ' u x:=by
 cases x
 case fn f caps =>
  obtain ⟨cs,h1,h2,h3⟩:=h
  exact ⟨cs,h1,h2,fun i=>(h3 i).congr fun r hr'=>hr r (by rw[into_fn];exact getD_any (by rfl) hr')⟩
 all_goals (simp only[Link] at h ⊢;exact Link1.congr h hr)
theorem link_undef (w:World) (tm:Array Value) (σ:List V) (u:Value):Link w tm σ u .ud:=trivial
theorem Link1.world {S:Nat→Prop} {who:Nat→Option Nat} {w w':World} {tm:Array Value} {σ:List V} {u:Value} {x:V}
  (hrep:∀ i,∃ O,Rep S w (tm.getD i undef) (gt σ i) O∧O.Nodup∧∀ b∈O,who b=some i) (hw:∀ b,who b≠none→w'.heap[b]?=w.heap[b]?) (h:Link1 w tm σ u x):Link1 w' tm σ u x:=by
 cases x <;> try trivial
 case ptr r p =>
  obtain ⟨q,i,j,c,X,b,o,e,hf,hb,hu⟩:=h
  obtain ⟨O,hO,_,ho⟩:=hrep r
  exact ⟨q,i,j,c,X,b,o,e,hf.mono hO fun b hb=>hw b (by rw[ho b hb];simp),hb,hu⟩
 case bsl r p n =>
  obtain ⟨q,i,j,c,X,b,o,m,e,hf,hb,hu⟩:=h
  obtain ⟨O,hO,_,ho⟩:=hrep r
  exact ⟨q,i,j,c,X,b,o,m,e,hf.mono hO fun b hb=>hw b (by rw[ho b hb];simp),hb,hu⟩
 case ref r p =>
  rcases h with h | ⟨q,i,j,c,X,b,o,e,hf,hb,hj,hu⟩
  ·
   exact .inl h
  ·
   obtain ⟨O,hO,_,ho⟩:=hrep r
   have hall:∀ b∈O,w'.heap[b]?=w.heap[b]?:=fun b hb=>hw b (by rw[ho b hb];simp)
   refine .inr ⟨q,i,j,c,X,b,o,e,hf.mono hO hall,hb,hj,fun hs=>?_⟩
   obtain ⟨A,OX,B,eO,hX,_⟩:=hO.focus hf
   have hbO:b∈O:=by
    rw[eO]
    cases hb with
    | own hi=>cases hX with
     | own0=>simp at hi
     | own=>simp
    | box=>cases hX with
     | obox=>simp
    | lib=>cases hX with
     | lib=>simp
   rw[cell?_of_heap (hall b hbO)]
   exact hu hs
theorem Link.world {S:Nat→Prop} {who:Nat→Option Nat} {w w':World} {tm:Array Value} {σ:List V} {u:Value} {x:V}
  (hrep:∀ i,∃ O,Rep S w (tm.getD i undef) (gt σ i) O∧O.Nodup∧∀ b∈O,who b=some i) (hw:∀ b,who b≠none→w'.heap[b]?=w.heap[b]?) (h:Link w tm σ u x):Link w' tm σ u x:=by
 cases x
 case fn f caps =>
  obtain ⟨cs,h1,h2,h3⟩:=h
  exact ⟨cs,h1,h2,fun i=>(h3 i).world hrep hw⟩
 all_goals (simp only[Link] at h ⊢;exact Link1.world hrep hw h)
theorem Rel.world {E:Env} {S S':Nat→Prop} {who:Nat→Option Nat} {w w':World} {tm:Array Value} {σ:List V} (h:Rel E S who w tm σ)
  (hs:∀ b,S b→w'.heap[b]?=w.heap[b]?) (hw:∀ b,who b≠none→w'.heap[b]?=w.heap[b]?) (hsz:w.heap.size≤w'.heap.size)
  (hS:∀ b,S b→S' b) (hsep:∀ b,S' b→who b=none) (hlow:∀ b,S' b→b<w'.heap.size):Rel E S' who w' tm σ where
 size:=h.size
 rep i:=by
  obtain ⟨O,hO,hn,ho⟩:=h.rep i
  exact ⟨O,hO.mono hS hs fun b hb=>hw b (by rw[ho b hb];simp),hn,ho⟩
 sep:=hsep
 low:=hlow
 lowO b i hb:=Nat.lt_of_lt_of_le (h.lowO b i hb) hsz
 link i:=(h.link i).world h.rep hw
 glob g cs hg:=(h.glob g cs hg).mono hS hs
theorem Rel.put {E:Env} {S:Nat→Prop} {who:Nat→Option Nat} {w:World} {tm:Array Value} {σ:List V} (h:Rel E S who w tm σ) {d:Nat} {u:Value} {v:V} {O:List Nat}
  (hr:Rep S w u v O) (hn:O.Nodup) (hO:∀ b∈O,who b=none∧¬S b) (hl:Link w tm σ u v) :
  ∃ who',Rel E S who' w (tm.setIfInBounds d u) (setT σ d v)∧∀ b,who' b≠none→who b≠none∨b∈O:=by
 have hlen:(dropRoot d σ).length=σ.length:=by simp[dropRoot]
 have hgt:∀ i,gt (setT σ d v) i=if d=i∧i<σ.length then cond (into d v) .ud v else cond (into d (gt σ i)) .ud (gt σ i):=fun i=>by
  unfold setT;rw[gt_set,hlen,gt_dropRoot]
 have hroot:∀ r,r≠d→SameRoot tm (tm.setIfInBounds d u) σ (setT σ d v) r:=fun r hrd=>by
  refine ⟨by rw[getD_setIfInBounds,if_neg (fun e=>hrd e.1.symm)],?_⟩
  rw[hgt,if_neg (fun e=>hrd e.1.symm)]
  cases e:into d (gt σ r) with
  | false=>exact .inl rfl
  | true=>exact .inr ⟨fun h=>h.elim,by cases e2:gt σ r <;> rw[e2] at e <;> first | rfl | cases e⟩
 have hroots:∀ x,into d x=false→∀ r,into r x=true→SameRoot tm (tm.setIfInBounds d u) σ (setT σ d v) r:=fun x hx r hr=>hroot r fun e=>by rw[e] at hr;rw[hr] at hx;cases hx
 refine ⟨fun b=>if b∈O then (if d<σ.length then some d else none) else if who b=some d then none else who b,?_,?_⟩
 ·
  refine ⟨by simp[setT,hlen,h.size],fun i=>?_,fun b hb=>?_,h.low,fun b i hb=>?_,fun i=>?_,h.glob⟩
  ·
   rw[getD_setIfInBounds,hgt,h.size]
   by_cases hi:d=i∧i<σ.length
   ·
    rw[if_pos hi,if_pos hi]
    obtain ⟨rfl,hi⟩:=hi
    cases into d v with
    | true=>exact ⟨[],.ud _,by simp,by simp⟩
    | false=>exact ⟨O,hr,hn,fun b hb=>by simp[hb,hi]⟩
   ·
    rw[if_neg hi,if_neg hi]
    cases e:into d (gt σ i) with
    | true=>exact ⟨[],.ud _,by simp,by simp⟩
    | false =>
     obtain ⟨P,hP,hnP,hoP⟩:=h.rep i
     by_cases hdi:d=i
     ·
      subst hdi
      rw[gt_len (by omega)] at hP ⊢
      exact ⟨[],.ud _,by simp,by simp⟩
     ·
      refine ⟨P,hP,hnP,fun b hb=>?_⟩
      have h1:=hoP b hb
      have h2:b ∉ O:=fun hc=>by rw[(hO b hc).1] at h1;cases h1
      simp[h2,h1,Ne.symm hdi]
  ·
   have h1:=h.sep b hb
   have h2:b ∉ O:=fun hc=>(hO b hc).2 hb
   simp[h2,h1]
  ·
   by_cases h2:b∈O
   ·
    exact hr.low b h2
   ·
    simp only[h2,if_false] at hb
    split at hb
    ·
     cases hb
    ·
     exact h.lowO b i hb
  ·
   rw[getD_setIfInBounds,hgt,h.size]
   by_cases hi:d=i∧i<σ.length
   ·
    rw[if_pos hi,if_pos hi]
    cases e:into d v with
    | true=>exact link_undef ..
    | false=>exact hl.congr (hroots v e)
   ·
    rw[if_neg hi,if_neg hi]
    cases e:into d (gt σ i) with
    | true=>exact link_undef ..
    | false=>exact (h.link i).congr (hroots _ e)
 ·
  intro b hb
  by_cases h2:b∈O
  ·
   exact .inr h2
  ·
   simp only[h2,if_false] at hb
   split at hb
   ·
    exact absurd rfl hb
   ·
    exact .inl hb
end Go.Zv
