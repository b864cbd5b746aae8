/- The symbolic executor: values, labels, states, one operation's step. -/
import Derived.Orders
import Derived.Tactics
import Derived.KernelRfl
import Derived.Laws.AppendOwn
import Derived.Laws.MakeOwn
import Derived.ChangeKeysEq
import Derived.Laws.Strings
import Derived.Laws.Concat
import Derived.Lib.Strings
import Derived.Lib.SmallJoins
import Derived.Lib.Split
import Derived.Laws.Cover1
import Derived.Deep.DeepAppendWide
set_option linter.unusedVariables false
set_option linter.unusedSimpArgs false
namespace Go.Fm
inductive T where
 |int (k:IntKind) (n:Int)|bool (b:Bool)|str (s:List UInt8)
 |slice (es:List T)|agg (cs:List T)|nilp|ptr (id:Nat)|fn (g:FuncId) (cs:List T)|nofn
 deriving Inhabited
def T.cells:T→List T
 |.agg cs=>cs
 |t=>[t]
inductive Lab where
 |loc (d j:Nat)|arg (i:Nat)|obj (id:Nat)|fld (id j:Nat)|res (j:Nat)
 deriving DecidableEq,Inhabited
def Lab.isObj:Lab→Bool|.obj _|.arg _=>true|_=>false
def Lab.pool:Lab→Bool
 |.obj _|.fld _ _|.arg _=>true
 |_=>false
inductive AV where
 |und|t (t:T)|nil|sl (l:Lab) (ver off len:Nat)|ep (l:Lab) (ver i j:Nat)|tp (cs:List T)|bp (l:Lab) (j:Nat)|mp (l:Lab)|sb (l:Lab) (n:Nat)
 |agg (cs:List AV)|tup (vs:List AV)
 deriving Inhabited
inductive Obj where
 |arr (size:Nat) (es:List T) (ver frz:Nat)|box (cs:List AV)|dead|map (kvs:List (Int×Int))
 deriving Inhabited
def upd {α β:Type} [DecidableEq α] (f:α→β) (a:α) (b:β):α→β:=fun x=>if x=a then b else f x
theorem upd_same {α β:Type} [DecidableEq α] (f:α→β) (a:α) (b:β):upd f a b a=b:=by simp[upd]
theorem upd_ne {α β:Type} [DecidableEq α] (f:α→β) (a:α) (b:β) (x:α) (h:x≠a):upd f a b x=f x:=by simp[upd,h]
abbrev Heap:=Lab→Option Obj
structure St where
 f:Nat→AV
 h:Heap
 nxt:Nat
inductive Rd (α:Type) where
 |ret (a:α)|ask (l:Lab) (k:Option Obj→Rd α)|fail
namespace Rd
def bind {α β:Type}:Rd α→(α→Rd β)→Rd β
 |.ret a,f=>f a
 |.ask l k,f=>.ask l fun o=>(k o).bind f
 |.fail,_=>.fail
def run {α:Type}:Rd α→Heap→Option (α×List Lab)
 |.ret a,_=>some (a,[])
 |.ask l k,h=>((k (h l)).run h).map fun r=>(r.1,l::r.2)
 |.fail,_=>none
def ofOpt {α:Type}:Option α→Rd α
 |some a=>.ret a
 |none=>.fail
end Rd
structure Dl where
 v:AV
 w:List (Lab×Obj):=[]
 nx:Nat:=0
structure TI where
 d:TypeDesc
 size:Nat
 bytes:Nat
 zero:List Value
 cmp:Bool:=false
def tiOf (P:Program) (t:TypeId):TI:=
 match P.info? t,P.underlying t with
 |some _,some .invalid=>{d:=.invalid,size:=0,bytes:=0,zero:=[]}
 |some i,some d=>{d,size:=i.size,bytes:=i.bytes,zero:=(i.zero.map fun v=>v.cells.toList).getD [],cmp:= !P.eqGuardType P.depth t}
 |_,_=>{d:=.invalid,size:=0,bytes:=0,zero:=[]}
def TI.isAgg (ti:TI):Bool:=match ti.d with|.struct _|.array _ _=>true|_=>false
def const1:Value→AV
 |.int k n=>.t (.int k n)
 |.bool b=>.t (.bool b)
 |.string s=>.t (.str s.data.toList)
 |.pointer none=>.t .nilp
 |.slice none 0 0=>.nil
 |.nilFunc=>.t .nofn
 |_=>.und
def scalB:Value→Bool
 |.agg _|.tuple _=>false
 |_=>true
def constAV:Value→AV
 |.agg cs=>if cs.toList.all scalB then .agg (cs.toList.map const1) else .und
 |v=>const1 v
def evA (f:Nat→AV):Operand→AV
 |.tmp t=>f t
 |.const v=>constAV v
 |_=>.und
def reify1:AV→Rd (T×List (Lab×Obj))
 |.t t=>.ret (t,[])
 |.nil=>.ret (.slice [],[])
 |.bp (.obj id) 0=>.ret (.ptr id,[])
 | .sl l ver off len => .ask l fun
   |some (.arr size es v frz)=>if ver=v then .ret (.slice ((es.drop off).take len),[(l,.arr size es v es.length)]) else .fail
   |_=>.fail
 |_=>.fail
def reifyL:List AV→Rd (List T×List (Lab×Obj))
 |[]=>.ret ([],[])
 |a::r=>(reify1 a).bind fun x=>(reifyL r).bind fun y=>.ret (x.1::y.1,x.2++y.2)
def reify:AV→Rd (T×List (Lab×Obj))
 |.agg cs=>(reifyL cs).bind fun x=>.ret (.agg x.1,x.2)
 |a=>reify1 a
def reifyE:List AV→Rd (List T×List (Lab×Obj))
 |[]=>.ret ([],[])
 |a::r=>(reify a).bind fun x=>(reifyE r).bind fun y=>.ret (x.1::y.1,x.2++y.2)
def cellsA:AV→List AV
 |.agg cs=>cs
 |.t (.agg cs)=>cs.map .t
 |a=>[a]
def okPart:AV→Bool
 |.und|.tup _=>false
 |_=>true
def isAggA:AV→Bool|.agg _|.t (.agg _)=>true|_=>false
def isTupA:AV→Bool|.tup _=>true|_=>false
def capA:AV→Option T
 |.t (.agg _)=>none
 |.t t=>some t
 |.bp (.obj id) 0=>some (.ptr id)
 |_=>none
def capL:List AV→Option (List T)
 |[]=>some []
 | a :: r => match capA a, capL r with
   |some t,some l=>some (t::l)
   |_,_=>none
def intBin (op:BinOp) (k:IntKind) (a b:Int):Option T:=
 match op with
 |.add=>some (.int k (k.wrap (a+b)))
 |.sub=>some (.int k (k.wrap (a-b)))
 |.mul=>some (.int k (k.wrap (a*b)))
 |.quo=>if b=0 then none else some (.int k (k.wrap (a.tdiv b)))
 |.rem=>if b=0 then none else some (.int k (a.tmod b))
 |.and=>some (.int k (k.wrap (BitVec.ofInt k.bits a&&&BitVec.ofInt k.bits b).toNat))
 |.or=>some (.int k (k.wrap (BitVec.ofInt k.bits a|||BitVec.ofInt k.bits b).toNat))
 |.xor=>some (.int k (k.wrap (BitVec.ofInt k.bits a^^^BitVec.ofInt k.bits b).toNat))
 |.andNot=>some (.int k (k.wrap (BitVec.ofInt k.bits a&&& ~~~ (BitVec.ofInt k.bits b)).toNat))
 |.eql=>some (.bool (decide (a=b)))
 |.neq=>some (.bool (decide (a≠b)))
 |.lss=>some (.bool (decide (a<b)))
 |.leq=>some (.bool (decide (a≤b)))
 |.gtr=>some (.bool (decide (b<a)))
 |.geq=>some (.bool (decide (b≤a)))
 |_=>none
def shiftA (op:BinOp) (k:IntKind) (a b:Int):Option T:=
 if b<0 then none else
 match op with
 |.shl=>some (.int k (k.wrap (a*2^(min b.toNat k.bits))))
 |.shr=>some (.int k (a.fdiv (2^(min b.toNat k.bits))))
 |_=>none
def strBin (op:BinOp) (a b:List UInt8):Option T:=
 match op with
 |.add=>if a.length+b.length<1099511627776 then some (.str (a++b)) else none
 |.eql=>some (.bool (decide (a=b)))
 |.neq=>some (.bool (decide (a≠b)))
 |_=>none
def nilBin (op:BinOp) (same:Bool):Option T:=
 match op with
 |.eql=>some (.bool same)
 |.neq=>some (.bool !same)
 |_=>none
def binA (op:BinOp) (ti:TI):AV→AV→Option T
 | .t (.int k a), .t (.int k' b) => match op with
   |.shl|.shr=>shiftA op k a b
   |_=>if k=k' then intBin op k a b else none
 | .t (.bool a), .t (.bool b) => match ti.d with
   |.bool=>nilBin op (decide (a=b))
   |_=>none
 |.t (.str a),.t (.str b)=>strBin op a b
 |.bp _ _,.t .nilp=>match ti.d with|.pointer _=>nilBin op false|_=>none
 |.t (.ptr _),.t .nilp=>match ti.d with|.pointer _=>nilBin op false|_=>none
 |.t .nilp,.t .nilp=>match ti.d with|.pointer _=>nilBin op true|_=>none
 |.t (.fn _ _),.t .nofn=>match ti.d with|.func _ _ _=>nilBin op false|_=>none
 |.t .nofn,.t .nofn=>match ti.d with|.func _ _ _=>nilBin op true|_=>none
 |_,_=>none
def intsK (k:IntKind):List AV→Option (List Int)
 |[]=>some []
 |.t (.int k' n)::r=>if k'=k then (intsK k r).map (n:: ·) else none
 |_=>none
def aggB (ty : TypeId → TI) (op : BinOp) (t : TypeId) (x y : AV) : Option T :=
 match (ty t).d with
 | .array n e => match (ty e).d with
   |.int k=>if (ty t).cmp=true∧(ty e).size=1 then match intsK k (cellsA x),intsK k (cellsA y) with
    |some l,some m=>if l.length=n∧m.length=n then nilBin op (decide (l=m)) else none
    |_,_=>none else none
   |_=>none
 |_=>none
def binB (ty:TypeId→TI) (op:BinOp) (t:TypeId) (x y:AV):Option T:=
 match isAggA x&&isAggA y with
 |true=>aggB ty op t x y
 |false=>binA op (ty t) x y
def lenA (ti:TI) (x:AV):Rd T:=
 match ti.d with
 | .slice _ => match x with
   |.t (.slice es)=>.ret (.int .i64 es.length)
   | .sl l v _ n => .ask l fun
     |some (.arr _ _ v' _)=>if v=v' then .ret (.int .i64 n) else .fail
     |_=>.fail
   |.nil=>.ret (.int .i64 0)
   |.sb _ n=>.ret (.int .i64 n)
   |_=>.fail
 | .string => match x with
   |.t (.str s)=>.ret (.int .i64 s.length)
   |_=>.fail
 |_=>.fail
def intOf:AV→Option Int
 |.t (.int _ i)=>some i
 |_=>none
def indexAddrA (ti:TI) (sz:Nat) (x i:AV):Rd AV:=
 if sz=0 then .fail else
 match intOf i with
 |none=>.fail
 | some i => if i < 0 then .fail else match ti.d with
   | .slice _ => match x with
     | .t (.slice es) => match es[i.toNat]? with
       |some e=>if e.cells.length=sz then .ret (.tp e.cells) else .fail
       |none=>.fail
     | .sl l v off n => .ask l fun
       |some (.arr size _ v' _)=>if v=v'∧size=sz∧i<n then .ret (.ep l v (off+i.toNat) 0) else .fail
       |_=>.fail
     |.sb l n=>if sz=1∧i<n then .ret (.bp l i.toNat) else .fail
     |_=>.fail
   | .array n _ => match x with
     |.bp l j=>if i<n then .ret (.bp l (j+i.toNat*sz)) else .fail
     |.tp cs=>if i<n then .ret (.tp (cs.drop (i.toNat*sz))) else .fail
     |_=>.fail
   |_=>.fail
def cutT (ti:TI) (cs:List T) (j:Nat):Option T:=
 if ti.isAgg then (if j+ti.size≤cs.length∧ti.size≠0 then some (.agg ((cs.drop j).take ti.size)) else none)
 else if ti.size=1 then cs[j]? else none
def cutA (ti:TI) (cs:List AV) (j:Nat):Option AV:=
 if ti.isAgg then (if j+ti.size≤cs.length∧ti.size≠0 then some (.agg ((cs.drop j).take ti.size)) else none)
 else if ti.size=1 then cs[j]? else none
def loadA (ti : TI) : AV → Rd AV
 |.tp cs=>Rd.ofOpt ((cutT ti cs 0).map .t)
 | .ep l v i j => .ask l fun
   |some (.arr _ es v' _)=>if v=v' then match es[i]? with
    |some e=>Rd.ofOpt ((cutT ti e.cells j).map .t)
    |none=>.fail else .fail
   |_=>.fail
 | .bp l j => .ask l fun
   |some (.box cs)=>Rd.ofOpt (cutA ti cs j)
   |_=>.fail
 | .t (.ptr id) => .ask (.obj id) fun
   |some (.box cs)=>Rd.ofOpt (cutA ti cs 0)
   |_=>.fail
 |_=>.fail
def setCells {α:Type} (cs:List α) (j:Nat):List α→List α
 |[]=>cs
 |x::r=>setCells (cs.set j x) (j+1) r
def toCell (l:Lab) (j:Nat) (x:AV):Rd (AV×List (Lab×Obj)):=
 match l with
 | .obj id => match x with
   | .sl (.loc d k) v off n => if off = 0 then .ask (.loc d k) fun
     |some (.arr size es v' frz)=>if v=v'∧n=es.length∧frz=0 then .ask (.fld id j) fun
      |none=>.ret (.sl (.fld id j) 0 0 n,[(.loc d k,.dead),(.fld id j,.arr size es 0 0)])
      |some (.arr _ _ v'' _)=>.ret (.sl (.fld id j) (v''+1) 0 n,[(.loc d k,.dead),(.fld id j,.arr size es (v''+1) 0)])
      |some _=>.fail else .fail
     |_=>.fail else .fail
   |.sl l' v off n=>if l'=.fld id j then .ret (.sl l' v off n,[]) else .fail
   |.t t=>if isAggA (.t t)=false then .ret (.t t,[]) else .fail
   |.nil=>.ret (.nil,[])
   |.bp (.obj k) 0=>.ret (.t (.ptr k),[])
   |_=>.fail
 |.fld _ _|.arg _=>.fail
 |_=>if okPart x=true∧isAggA x=false then .ret (x,[]) else .fail
def plainL:List AV→Bool
 |[]=>true
 |.t _::r=>plainL r
 |.nil::r=>plainL r
 |_=>false
def storeA (ti : TI) (p x : AV) : Rd Dl :=
 if ti.size=0 then .fail else
 match p with
 | .ep l v i j => (reify x).bind fun t => .ask l fun
   |some (.arr sz es v' frz)=>if v=v'∧frz≤i∧t.1.cells.length=ti.size∧j+ti.size≤sz∧t.2.all (fun q=>decide (q.1≠l))=true then
    match es[i]? with
    |some e=>.ret {v:=.und,w:=t.2++[(l,.arr sz (es.set i (if sz=1 then t.1 else .agg (setCells e.cells j t.1.cells))) v' frz)]}
    |none=>.fail
    else .fail
   |_=>.fail
 |.bp l j=>if isAggA x=true then (if (Lab.pool l=false∨plainL (cellsA x)=true)∧okPart x=true then .ask l fun
     |some (.box cs)=>if j+ti.size≤cs.length∧(cellsA x).length=ti.size then .ret {v:=.und,w:=[(l,.box (setCells cs j (cellsA x)))]} else .fail
     |_=>.fail else .fail)
  else (toCell l j x).bind fun c=>.ask l fun
  |some (.box cs)=>if j<cs.length∧ti.size=1 then .ret {v:=.und,w:=c.2++[(l,.box (cs.set j c.1))]} else .fail
  |_=>.fail
 |_=>.fail
def fresh (d:Option Tmp) (size:Nat) (es:List T) (n:Nat) (w:List (Lab×Obj)):Rd Dl:=
 match d with
 | some d => .ask (.loc d 0) fun
   |none=>.ret {v:=.sl (.loc d 0) 0 0 n,w:=w++[(.loc d 0,.arr size es 0 0)]}
   |some _=>.fail
 |none=>.fail
def freshB (d:Option Tmp) (cs:List AV) (n:Nat):Rd Dl:=
 match d with
 | some d => .ask (.loc d 0) fun
   |none=>.ret {v:=.sb (.loc d 0) n,w:=[(.loc d 0,.box cs)]}
   |some _=>.fail
 |none=>.fail
def zero1 (v:Value):Option T:=
 match const1 v with
 |.t t=>some t
 |.nil=>some (.slice [])
 |_=>none
def zerosT:List Value→Option (List T)
 |[]=>some []
 | v :: r => match zero1 v, zerosT r with
   |some t,some ts=>some (t::ts)
   |_,_=>none
def zeroT (ti:TI):Option T:=
 match zerosT ti.zero with
 |some cs=>if cs.length=ti.size∧ti.size≠0∧(ti.isAgg=true∨ti.size=1) then some (if ti.isAgg then .agg cs else cs.headD .nilp) else none
 |none=>none
def elemsOf:AV→Rd (List T)
 |.nil=>.ret []
 |.t (.slice es)=>.ret es
 | .sl l v off n => .ask l fun
   |some (.arr _ es v' _)=>if v=v' then .ret ((es.drop off).take n) else .fail
   |_=>.fail
 |_=>.fail
def big:Nat:=2199023255552
def appendA (d:Option Tmp) (sz bytes:Nat) (s x:AV):Rd Dl:=
 (elemsOf x).bind fun ys=>
 if bytes≤100∧ys.all (fun e=>e.cells.length==sz) then
 match s with
 |.nil=>if ys.length<big then fresh d sz ys ys.length [] else .fail
 | .sl l v off n => .ask l fun
   | some (.arr size es v' frz) =>
     if v=v'∧off=0∧n=es.length∧size=sz∧n+ys.length<big∧l.isObj=false then
      .ret {v:=.sl l (v+1) 0 (n+ys.length),w:=[(l,.arr size (es++ys) (v+1) (if frz=0 then 0 else es.length+ys.length))]}
     else .fail
   |_=>.fail
 |_=>.fail
 else .fail
def sliceT (sz:Nat) (es:List T) (l h:Int):Rd Dl:=
 if 0≤l∧l≤h∧h≤es.length∧sz≠0∧es.all (fun e=>e.cells.length==sz)=true then .ret {v:=.t (.slice ((es.take h.toNat).drop l.toNat))} else .fail
def sliceA (ti:TI) (sz:Nat) (x:AV) (lo hi mx:Option AV):Rd Dl:=
 match ti.d with
 | .string => match x, mx with
   | .t (.str s), none => match (lo.map intOf).getD (some 0), (hi.map intOf).getD (some s.length) with
     |some l,some h=>if 0≤l∧l≤h∧h≤s.length then .ret {v:=.t (.str ((s.take h.toNat).drop l.toNat))} else .fail
     |_,_=>.fail
   |_,_=>.fail
 | .slice _ => match x, mx with
   | .t (.slice es), none => match (lo.map intOf).getD (some 0), (hi.map intOf).getD (some es.length) with
     |some l,some h=>sliceT sz es l h
     |_,_=>.fail
   | .sl lb v off n, none => .ask lb fun
     | some (.arr size _ v' _) => match (lo.map intOf).getD (some 0), (hi.map intOf).getD (some n) with
       |some l,some h=>if v=v'∧size=sz∧0≤l∧l≤h∧h≤n then .ret {v:=.sl lb v (off+l.toNat) (h.toNat-l.toNat)} else .fail
       |_,_=>.fail
     |_=>.fail
   | .sl lb v off n, some m => .ask lb fun
     | some (.arr size es v' frz) => match lo, hi.bind intOf with
       |none,some h=>if v=v'∧size=sz∧off=0∧0≤h∧h≤n∧intOf m=some h∧n=es.length∧frz≤h.toNat then .ret {v:=.sl lb (v+1) 0 h.toNat,w:=[(lb,.arr size (es.take h.toNat) (v+1) frz)]} else .fail
       |_,_=>.fail
     |_=>.fail
   | .nil, some m => match lo, hi.bind intOf with
     |none,some h=>if h=0∧sz≠0∧intOf m=some h then .ret {v:=.nil} else .fail
     |_,_=>.fail
   |_,_=>.fail
 |_=>.fail
abbrev Sites:=Nat→Bool
def siteB (pool:Sites):Option Tmp→Bool
 |some d=>pool d
 |none=>false
def boxA (pool : Sites) (nxt : Nat) (d : Option Tmp) (cs : List AV) : Rd Dl :=
 match d with
 |none=>.fail
 | some d =>
   if pool d then
    .ask (.obj nxt) fun
     |none=>if cs.all (fun|.t _|.nil=>true|_=>false) then .ret {v:=.bp (.obj nxt) 0,w:=[(.obj nxt,.box cs)],nx:=1} else .fail
     |some _=>.fail
   else .ask (.loc d 0) fun
    |none=>.ret {v:=.bp (.loc d 0) 0,w:=[(.loc d 0,.box cs)]}
    |some _=>.fail
def fillA (fs:List (Nat×Nat)) (cs:List AV):List (Nat×AV)→Option (List AV)
 |[]=>some cs
 | (i, x) :: r => match fs[i]? with
   |some (off,size)=>if (cellsA x).length=size∧off+size≤cs.length∧okPart x=true then fillA fs (setCells cs off (cellsA x)) r else none
   |none=>none
def buildA (ti:TI) (sizes:TypeId→Nat) (parts:List (Nat×AV)):Option AV:=
 match ti.d with
 |.struct fields=>if ti.zero.length=ti.size∧ti.size≠0∧ti.zero.all scalB=true∧fields.toList.all (fun f=>sizes f.type !=0)=true then (fillA (fields.toList.map fun f=>(f.offset,sizes f.type)) (ti.zero.map const1) parts).map .agg else none
 |.array n e=>if ti.zero.length=ti.size∧ti.size≠0∧ti.zero.all scalB=true∧sizes e≠0 then (fillA ((List.range n).map fun i=>(i*sizes e,sizes e)) (ti.zero.map const1) parts).map .agg else none
 |_=>none
def convA (src dst:TI):AV→Option T
 | .t (.int _ n) => match dst.d with
   | .int k => match src.d with
     |.int _=>some (.int k (k.wrap n))
     |_=>none
   |_=>none
 |_=>none
def midx (kvs:List (Int×Int)) (k:Int):Option Nat:=kvs.findIdx? fun p=>p.1==k
def mput (kvs:List (Int×Int)) (k x:Int):List (Int×Int):=
 match midx kvs k with
 |some i=>kvs.modify i fun p=>(p.1,x)
 |none=>kvs++[(k,x)]
def mget (kvs:List (Int×Int)) (k:Int):Int:=
 match midx kvs k with
 |some i=>(kvs.getD i (0,0)).2
 |none=>0
def i64T (ti:TI):Bool:=match ti.d with|.int .i64=>true|_=>false
def selA (b:Bool) (x y:AV):AV:=match b with|true=>x|false=>y
def valR (x:Option AV):Rd Dl:=match x with|some x=>.ret {v:=x}|none=>.fail
def stepR (ty : TypeId → TI) (pool : Sites) (nxt : Nat) (ρ : Operand → AV) (o : Oper) : Rd Dl :=
 match o.op with
 |.move x|.assign x=>.ret {v:=ρ x}
 | .pick c a b => match ρ c with
   |.t (.bool c)=>.ret {v:=selA c (ρ a) (ρ b)}
   |_=>.fail
 |.binOp op t x y _=>valR ((binB ty op t (ρ x) (ρ y)).map .t)
 |.unOp .not _ x=>match ρ x with|.t (.bool b)=>.ret {v:=.t (.bool !b)}|_=>.fail
 |.unOp .neg _ x=>match ρ x with|.t (.int k n)=>.ret {v:=.t (.int k (k.wrap (0-n)))}|_=>.fail
 |.unOp .xor _ x=>match ρ x with|.t (.int k n)=>valR ((intBin .xor k (if k.signed then-1 else k.max) n).map .t)|_=>.fail
 | .nilCheck x => match ρ x with
   |.bp l j=>.ret {v:=.bp l j}
   |.t (.ptr id)=>.ask (.obj id) fun|some (.box _)=>.ret {v:=.bp (.obj id) 0}|_=>.fail
   |.tp cs=>.ret {v:=.tp cs}
   |_=>.fail
 | .fieldAddr st x i => match (ty st).d with
   | .struct fs => match fs.toList[i]? with
     | some f => if (ty f.type).size = 0 then .fail else match ρ x with
       |.bp l j=>.ret {v:=.bp l (j+f.offset)}
       |.ep l a i j=>.ask l fun|some (.arr _ _ a' _)=>if a=a' then .ret {v:=.ep l a i (j+f.offset)} else .fail|_=>.fail
       |.tp cs=>.ret {v:=.tp (cs.drop f.offset)}
       |.t (.ptr id)=>.ask (.obj id) fun|some (.box _)=>.ret {v:=.bp (.obj id) f.offset}|_=>.fail
       |_=>.fail
     |none=>.fail
   |_=>.fail
 | .field st x i => match (ty st).d with
   | .struct fs => match fs.toList[i]? with
     |some f=>if isAggA (ρ x) then valR (cutA (ty f.type) (cellsA (ρ x)) f.offset) else .fail
     |none=>.fail
   |_=>.fail
 | .indexAddr t x i => match (ty t).d with
   |.slice e|.array _ e=>(indexAddrA (ty t) (ty e).size (ρ x) (ρ i)).bind fun y=>.ret {v:=y}
   |_=>.fail
 | .index t x i => match (ty t).d, ρ x, intOf (ρ i) with
   |.string,.t (.str s),some i=>if 0≤i then match s[i.toNat]? with|some b=>.ret {v:=.t (.int .u8 b.toNat)}|none=>.fail else .fail
   |.array n e,x,some i=>if 0≤i∧i<n∧isAggA x=true then valR (cutA (ty e) (cellsA x) (i.toNat*(ty e).size)) else .fail
   |_,_,_=>.fail
 |.load t x=>(loadA (ty t) (ρ x)).bind fun y=>.ret {v:=y}
 |.store t p x=>storeA (ty t) (ρ p) (ρ x)
 |.slice t x lo hi mx=>sliceA (ty t) (match (ty t).d with|.slice e=>(ty e).size|_=>1) (ρ x) (lo.map ρ) (hi.map ρ) (mx.map ρ)
 | .makeSlice t n c => match (ty t).d, ρ n, ρ c with
   | .slice e, .t (.int _ n), .t (.int _ c) => match zeroT (ty e) with
     |some z=>if 0≤n∧n≤c∧c.toNat<big∧(ty e).bytes≤100 then (match siteB pool o.dst with
         |true=>if n=c∧(ty e).size=1∧(ty e).zero.all scalB=true then freshB o.dst (List.replicate n.toNat (((ty e).zero.map const1).headD .und)) n.toNat else .fail
         |false=>fresh o.dst (ty e).size (List.replicate n.toNat z) n.toNat []) else .fail
     |none=>.fail
   |_,_,_=>.fail
 | .buildSlice t n ps => match (ty t).d with
   |.slice e=>(reifyE (ps.toList.map fun p=>ρ p.2)).bind fun r=>
    if ps.toList.map (·.1)=List.range n∧r.1.all (fun x=>x.cells.length==(ty e).size)=true∧n*(ty e).size≤16777216∧(ty e).zero.length=(ty e).size∧(ty e).size≠0 then fresh o.dst (ty e).size r.1 n r.2 else .fail
   |_=>.fail
 |.build t ps=>valR (buildA (ty t) (fun t=>(ty t).size) (ps.toList.map fun p=>(p.1,ρ p.2)))
 |.box t x=>if okPart (ρ x)=true then boxA pool nxt o.dst (cellsA (ρ x)) else .fail
 |.alloc t=>if (ty t).zero.length=(ty t).size∧(ty t).size≠0∧(ty t).zero.all scalB=true then boxA pool nxt o.dst ((ty t).zero.map const1) else .fail
 |.makeFunc (.func g) first caps=>if first.size=0 then valR ((capL (caps.toList.map ρ)).map fun l=>.t (.fn g l)) else .fail
 | .makeMap t none => match o.dst, (ty t).d with
   | some d, .map _ _ => .ask (.loc d 0) fun
     |none=>.ret {v:=.mp (.loc d 0),w:=[(.loc d 0,.map [])]}
     |some _=>.fail
   |_,_=>.fail
 | .mapUpdate t m k x => match (ty t).d with
   | .map kt _ => if i64T (ty kt) = true then match ρ m, ρ k, ρ x with
     | .mp l, .t (.int .i64 k), .t (.int .i64 x) => .ask l fun
       |some (.map kvs)=>.ret {v:=.und,w:=[(l,.map (mput kvs k x))]}
       |_=>.fail
     |_,_,_=>.fail else .fail
   |_=>.fail
 | .lookup t m k false => match (ty t).d with
   | .map kt _ => if i64T (ty kt) = true then match ρ m, ρ k with
     | .mp l, .t (.int .i64 k) => .ask l fun
       |some (.map kvs)=>if (midx kvs k).isSome=true then .ret {v:=.t (.int .i64 (mget kvs k))} else .fail
       |_=>.fail
     |_,_=>.fail else .fail
   |_=>.fail
 |.convert s d x=>valR ((convA (ty s) (ty d) (ρ x)).map .t)
 | .extract x i => match ρ x with
   |.tup vs=>valR vs[i]?
   |_=>.fail
 | .call { callee := .builtin b, args := xs, argTypes := ts } => match b with
   | .len => match xs.toList, ts.toList with
     |[x],[t]=>(lenA (ty t) (ρ x)).bind fun y=>.ret {v:=.t y}
     |_,_=>.fail
   | .append => match xs.toList, ts.toList with
     | [s, x], [t, t'] => if t ≠ t' then .fail else match (ty t).d with
       |.slice e=>if (ty e).zero.length=(ty e).size∧(ty e).size≠0 then appendA o.dst (ty e).size (ty e).bytes (ρ s) (ρ x) else .fail
       |_=>.fail
     |_,_=>.fail
   | .min => match xs.toList.map ρ with
     |[.t (.int k a),.t (.int _ b)]=>.ret {v:=.t (.int k (if b<a then b else a))}
     |_=>.fail
   | .max => match xs.toList.map ρ with
     |[.t (.int k a),.t (.int _ b)]=>.ret {v:=.t (.int k (if a<b then b else a))}
     |_=>.fail
   |_=>.fail
 |_=>.fail
def writes (h:Heap):List (Lab×Obj)→Heap
 |[]=>h
 |(l,o)::r=>writes (upd h l (some o)) r
def St.put (s:St) (d:Option Tmp) (v:AV):St:=
 match d with
 |some d=>{s with f:=upd s.f d v}
 |none=>s
def St.app (s:St) (d:Option Tmp) (x:Dl):St:=
 {(s.put d x.v) with h:=writes s.h x.w,nxt:=s.nxt+x.nx}
def _root_.Go.Value.scal:Value→Prop
 |.agg _|.tuple _=>False
 |_=>True
def T.scal:T→Prop
 |.agg _=>False
 |_=>True
inductive RepT (O:Nat→Option Nat) (w:World) (S:Addr→Prop):T→Value→Prop
 |int (k:IntKind) (n:Int):RepT O w S (.int k n) (.int k n)
 |bool (b:Bool):RepT O w S (.bool b) (.bool b)
 |str (l:List UInt8) (s:ByteArray) (h:s.data.toList=l):RepT O w S (.str l) (.string s)
 |nilp:RepT O w S .nilp (.pointer none)
 |ptr (id b:Nat) (h:O id=some b):RepT O w S (.ptr id) (.pointer (some ⟨b,0,none⟩))
 | slice (es : List T) (a : Option Addr) (ad : Addr) (cap size : Nat) (u : Nat → Nat → Value)
   (hcap:es.length≤cap) (ha:es≠[]→a=some ad∧ad.spot=none)
   (hsz:∀e∈es,e.cells.length=size) (hsc:∀e∈es,∀c∈e.cells,c.scal)
   (hc:∀(i j:Nat) (e c:T),es[i]?=some e→e.cells[j]?=some c→w.cell? ⟨ad.block,ad.off+i*size+j,none⟩=some (u i j)∧S ⟨ad.block,ad.off+i*size+j,none⟩)
   (hr:∀(i j:Nat) (e c:T),es[i]?=some e→e.cells[j]?=some c→RepT O w S c (u i j)):
   RepT O w S (.slice es) (.slice a es.length cap)
 | agg (cs : List T) (vs : Array Value) (hn : vs.size = cs.length) (hsc : ∀ c ∈ cs, c.scal)
   (hr:∀(j:Nat) (c:T) (v:Value),cs[j]?=some c→vs[j]?=some v→RepT O w S c v):RepT O w S (.agg cs) (.agg vs)
 | fn (g : FuncId) (cs : List T) (vs : Array Value) (hn : vs.size = cs.length)
   (hr:∀(j:Nat) (c:T) (v:Value),cs[j]?=some c→vs[j]?=some v→RepT O w S c v):RepT O w S (.fn g cs) (.func (.func g) #[] vs)
 |nofn:RepT O w S .nofn .nilFunc
theorem RepT.mono {O O':Nat→Option Nat} {w w':World} {S S':Addr→Prop} {t:T} {v:Value} (h:RepT O w S t v)
  (hO:∀id b,O id=some b→O' id=some b) (hS:∀a,S a→S' a) (hw:∀a u,S a→w.cell? a=some u→w'.cell? a=some u):RepT O' w' S' t v:=by
 induction h with
 |int k n=>exact .int k n
 |bool b=>exact .bool b
 |str l s h=>exact .str l s h
 |nilp=>exact .nilp
 |ptr id b h=>exact .ptr id b (hO _ _ h)
 | slice es a ad cap size u hcap ha hsz hsc hc hr ih =>
   exact .slice es a ad cap size u hcap ha hsz hsc (fun i j e c h1 h2=>⟨hw _ _ (hc i j e c h1 h2).2 (hc i j e c h1 h2).1,hS _ (hc i j e c h1 h2).2⟩) ih
 |agg cs vs hn hsc hr ih=>exact .agg cs vs hn hsc ih
 |fn g cs vs hn hr ih=>exact .fn g cs vs hn ih
 |nofn=>exact .nofn
theorem RepT.scal {O:Nat→Option Nat} {w:World} {S:Addr→Prop} {t:T} {v:Value} (h:RepT O w S t v) (hs:t.scal):v.scal:=by
 cases h<;>first|exact trivial|exact hs.elim
theorem Value.scal_cells {v:Value} (h:v.scal):v.cells= #[v]:=by cases v<;>first|rfl|exact h.elim
abbrev Inj:=Lab→Option Nat
abbrev Inj.objs (φ:Inj):Nat→Option Nat:=fun id=>φ (.obj id)
def Hdr (φ:Inj) (w:World) (l:Lab) (size:Nat) (n0:Nat) (off len:Nat) (v:Value):Prop:=
 off+len≤n0∧∃ad cap,v=.slice ad len cap∧len≤cap∧(φ l=none→ad=none∧cap=0)∧
  ∀b,φ l=some b→(off=0∨0<len)→ad=some ⟨b,off*size,none⟩∧
   ∃cs ty fr,w.heap[b]?=some (.cells cs ty fr)∧(off+cap)*size≤cs.size
inductive RepA (φ:Inj) (H:Heap) (w:World) (S:Addr→Prop):AV→Value→Prop
 |und (v:Value):RepA φ H w S .und v
 |t (t:T) (v:Value) (h:RepT φ.objs w S t v):RepA φ H w S (.t t) v
 |nil:RepA φ H w S .nil (.slice none 0 0)
 | sl (l : Lab) (ver off len : Nat) (v : Value) (o : Obj) (ho : H l = some o) (hv : v.scal)
   (h:∀size es v' frz,o=.arr size es v' frz→ver≤v'∧(ver=v'→Hdr φ w l size es.length off len v)):RepA φ H w S (.sl l ver off len) v
 | ep (l : Lab) (ver i j : Nat) (v : Value) (o : Obj) (ho : H l = some o) (hv : v.scal)
   (h:∀size es v' frz,o=.arr size es v' frz→ver≤v'∧(ver=v'→i<es.length∧∃b,φ l=some b∧v=.pointer (some ⟨b,i*size+j,none⟩))):RepA φ H w S (.ep l ver i j) v
 | tp (cs : List T) (ad : Addr) (u : Nat → Value) (ha : ad.spot = none) (hsc : ∀ c ∈ cs, c.scal)
   (hc:∀(j:Nat) (c:T),cs[j]?=some c→w.cell? ⟨ad.block,ad.off+j,none⟩=some (u j)∧S ⟨ad.block,ad.off+j,none⟩∧RepT φ.objs w S c (u j)):RepA φ H w S (.tp cs) (.pointer (some ad))
 |bp (l:Lab) (j b:Nat) (cs:List AV) (ho:H l=some (.box cs)) (hb:φ l=some b):RepA φ H w S (.bp l j) (.pointer (some ⟨b,j,none⟩))
 |mp (l:Lab) (b:Nat) (kvs:List (Int×Int)) (ho:H l=some (.map kvs)) (hb:φ l=some b):RepA φ H w S (.mp l) (.map (some b))
 |sb (l:Lab) (n b cap:Nat) (cs:List AV) (ho:H l=some (.box cs)) (hb:φ l=some b) (hn:n≤cap):RepA φ H w S (.sb l n) (.slice (some ⟨b,0,none⟩) n cap)
 | agg (cs : List AV) (vs : Array Value) (hn : vs.size = cs.length) (hsc : ∀ v ∈ vs, v.scal)
   (hr:∀(j:Nat) (c:AV) (v:Value),cs[j]?=some c→vs[j]?=some v→RepA φ H w S c v):RepA φ H w S (.agg cs) (.agg vs)
 | tup (cs : List AV) (vs : Array Value) (hn : vs.size = cs.length)
   (hr:∀(j:Nat) (c:AV) (v:Value),cs[j]?=some c→vs[j]?=some v→RepA φ H w S c v):RepA φ H w S (.tup cs) (.tuple vs)
def LStep (φ φ':Inj) (w w':World) (l:Lab):Obj→Obj→Prop
 |.box _,.box _=>φ' l=φ l
 |.arr size es v _,.arr size' es' v' _=>v≤v'∧(v=v'→size'=size∧es.length≤es'.length∧φ' l=φ l∧
     ∀b cs ty fr,φ l=some b→w.heap[b]?=some (.cells cs ty fr)→∃cs' ty' fr',w'.heap[b]?=some (.cells cs' ty' fr')∧cs.size≤cs'.size)
 |.arr ..,.dead=>True
 |.dead,.dead=>True
 |.map _,.map _=>φ' l=φ l
 |_,_=>False
theorem RepA.mono {φ φ':Inj} {H H':Heap} {w w':World} {S S':Addr→Prop} {x:AV} {v:Value} (h:RepA φ H w S x v)
  (hO:∀id b,φ (.obj id)=some b→φ' (.obj id)=some b) (hS:∀a,S a→S' a) (hw:∀a u,S a→w.cell? a=some u→w'.cell? a=some u)
  (hl:∀l o,H l=some o→∃o',H' l=some o'∧LStep φ φ' w w' l o o'):RepA φ' H' w' S' x v:=by
 induction h with
 |und v=>exact .und v
 |t t v h=>exact .t t v (h.mono hO hS hw)
 |nil=>exact .nil
 | sl l ver off len v o ho hv h =>
   obtain⟨o',ho',hs⟩:=hl l o ho
   refine .sl l ver off len v o' ho' hv fun size es v' frz e=> ?_
   subst e
   cases o with
   |box cs=>exact hs.elim
   |dead=>exact hs.elim
   |map=>exact hs.elim
   | arr size0 es0 v0 frz0 =>
     obtain⟨h1,h2⟩:=hs
     obtain⟨h3,h4⟩:=h _ _ _ _ rfl
     refine⟨Nat.le_trans h3 h1,fun e=> ?_⟩
     have e1:v0=v':=by omega
     obtain⟨g1,g2,g3,g4⟩:=h2 e1
     obtain⟨k1,ad,cap,k2,k3,k4,k5⟩:=h4 (by omega)
     refine⟨by omega,ad,cap,k2,k3,by rw[g3];exact k4,fun b hb hc=> ?_⟩
     rw[g3]at hb
     obtain⟨m1,cs,ty,fr,m2,m3⟩:=k5 b hb hc
     obtain⟨cs',ty',fr',n1,n2⟩:=g4 b cs ty fr hb m2
     rw[g1]
     exact⟨m1,cs',ty',fr',n1,Nat.le_trans m3 n2⟩
 | ep l ver i j v o ho hv h =>
   obtain⟨o',ho',hs⟩:=hl l o ho
   refine .ep l ver i j v o' ho' hv fun size es v' frz e=> ?_
   subst e
   cases o with
   |box cs=>exact hs.elim
   |dead=>exact hs.elim
   |map=>exact hs.elim
   | arr size0 es0 v0 frz0 =>
     obtain⟨h1,h2⟩:=hs
     obtain⟨h3,h4⟩:=h _ _ _ _ rfl
     refine⟨Nat.le_trans h3 h1,fun e=> ?_⟩
     have e1:v0=v':=by omega
     obtain⟨g1,g2,g3,g4⟩:=h2 e1
     obtain⟨k1,b,k2,k3⟩:=h4 (by omega)
     exact⟨by omega,b,by rw[g3];exact k2,by rw[g1];exact k3⟩
 | tp cs ad u ha hsc hc =>
   exact .tp cs ad u ha hsc fun j c hj=>⟨hw _ _ (hc j c hj).2.1 (hc j c hj).1,hS _ (hc j c hj).2.1,(hc j c hj).2.2.mono hO hS hw⟩
 | bp l j b cs ho hb =>
   obtain⟨o',ho',hs⟩:=hl l _ ho
   cases o' with
   |box cs'=>exact .bp l j b cs' ho' (by rw[show φ' l=φ l from hs];exact hb)
   |arr=>exact hs.elim
   |dead=>exact hs.elim
   |map=>exact hs.elim
 | sb l n b cap cs ho hb hn =>
   obtain⟨o',ho',hs⟩:=hl l _ ho
   cases o' with
   |box cs'=>exact .sb l n b cap cs' ho' (by rw[show φ' l=φ l from hs];exact hb) hn
   |arr=>exact hs.elim
   |dead=>exact hs.elim
   |map=>exact hs.elim
 | mp l b kvs ho hb =>
   obtain⟨o',ho',hs⟩:=hl l _ ho
   cases o' with
   |map cs'=>exact .mp l b cs' ho' (by rw[show φ' l=φ l from hs];exact hb)
   |arr=>exact hs.elim
   |dead=>exact hs.elim
   |box=>exact hs.elim
 |agg cs vs hn hsc hr ih=>exact .agg cs vs hn hsc ih
 |tup cs vs hn hr ih=>exact .tup cs vs hn ih
theorem RepA.sl_step {φ φ':Inj} {H':Heap} {w w':World} {S':Addr→Prop} {l:Lab} {ver off len:Nat} {v:Value} {o o':Obj} (hv:v.scal)
  (h:∀size es v' frz,o=.arr size es v' frz→ver≤v'∧(ver=v'→Hdr φ w l size es.length off len v)) (ho':H' l=some o') (hs:LStep φ φ' w w' l o o'):RepA φ' H' w' S' (.sl l ver off len) v:=by
 refine .sl l ver off len v o' ho' hv fun size es v' frz e=> ?_
 subst e
 cases o with
 |box cs=>exact hs.elim
 |dead=>exact hs.elim
 |map=>exact hs.elim
 | arr size0 es0 v0 frz0 =>
   obtain⟨h1,h2⟩:=hs
   obtain⟨h3,h4⟩:=h _ _ _ _ rfl
   refine⟨Nat.le_trans h3 h1,fun e=> ?_⟩
   have e1:v0=v':=by omega
   obtain⟨g1,g2,g3,g4⟩:=h2 e1
   obtain⟨k1,ad,cap,k2,k3,k4,k5⟩:=h4 (by omega)
   refine⟨by omega,ad,cap,k2,k3,by rw[g3];exact k4,fun b hb hc=> ?_⟩
   rw[g3]at hb
   obtain⟨m1,cs,ty,fr,m2,m3⟩:=k5 b hb hc
   obtain⟨cs',ty',fr',n1,n2⟩:=g4 b cs ty fr hb m2
   rw[g1]
   exact⟨m1,cs',ty',fr',n1,Nat.le_trans m3 n2⟩
theorem RepA.ep_step {φ φ':Inj} {H':Heap} {w w':World} {S':Addr→Prop} {l:Lab} {ver i j:Nat} {v:Value} {o o':Obj} (hv:v.scal)
  (h:∀size es v' frz,o=.arr size es v' frz→ver≤v'∧(ver=v'→i<es.length∧∃b,φ l=some b∧v=.pointer (some ⟨b,i*size+j,none⟩))) (ho':H' l=some o') (hs:LStep φ φ' w w' l o o'):RepA φ' H' w' S' (.ep l ver i j) v:=by
 refine .ep l ver i j v o' ho' hv fun size es v' frz e=> ?_
 subst e
 cases o with
 |box cs=>exact hs.elim
 |dead=>exact hs.elim
 |map=>exact hs.elim
 | arr size0 es0 v0 frz0 =>
   obtain⟨h1,h2⟩:=hs
   obtain⟨h3,h4⟩:=h _ _ _ _ rfl
   refine⟨Nat.le_trans h3 h1,fun e=> ?_⟩
   have e1:v0=v':=by omega
   obtain⟨g1,g2,g3,g4⟩:=h2 e1
   obtain⟨k1,b,k2,k3⟩:=h4 (by omega)
   exact⟨by omega,b,by rw[g3];exact k2,by rw[g1];exact k3⟩
def poolCell:AV→Prop
 |.t _|.nil|.und=>True
 |.sl (.fld _ _) _ _ _=>True
 |_=>False
def ObjRep (φ : Inj) (H : Heap) (w : World) (S : Addr → Prop) (l : Lab) : Obj → Prop
 | .arr size es _ frz => size ≠ 0 ∧ (∀ e ∈ es, e.cells.length = size) ∧ (∀ e ∈ es, ∀ c ∈ e.cells, c.scal) ∧ frz ≤ es.length ∧ (φ l = none → es = []) ∧
   ∀b,φ l=some b→∃cs ty,w.heap[b]?=some (.cells cs ty (0,0))∧es.length*size≤cs.size∧
    (∀(i j:Nat) (e c:T),es[i]?=some e→e.cells[j]?=some c→∃u,cs[i*size+j]?=some u∧RepT φ.objs w S c u)∧
    (∀i j,i<frz→j<size→S ⟨b,i*size+j,none⟩)
 | .box cs => ∃ b vs ty, φ l = some b ∧ w.heap[b]? = some (.cells vs ty (0, 0)) ∧ vs.size = cs.length ∧ (∀ v ∈ vs, v.scal) ∧ (l.pool = true → ∀ c ∈ cs, poolCell c) ∧
   ∀(j:Nat) (c:AV) (v:Value),cs[j]?=some c→vs[j]?=some v→RepA φ H w S c v
 |.dead=>φ l=none
 | .map kvs => l.pool = false ∧ ∃ b es clock, φ l = some b ∧ w.heap[b]? = some (.map es clock) ∧
   es.toList.map (fun e=>(e.key,e.val))=kvs.map fun p=>(Value.int .i64 p.1,Value.int .i64 p.2)
theorem ObjRep.mono {φ φ':Inj} {H H':Heap} {w w':World} {S S':Addr→Prop} {l:Lab} {o:Obj} (h:ObjRep φ H w S l o)
  (hO:∀id b,φ (.obj id)=some b→φ' (.obj id)=some b) (hS:∀a,S a→S' a) (hw:∀a u,S a→w.cell? a=some u→w'.cell? a=some u)
  (hl:∀l o,H l=some o→∃o',H' l=some o'∧LStep φ φ' w w' l o o')
  (hφ:φ' l=φ l) (hb:∀b,φ l=some b→w'.heap[b]?=w.heap[b]?):ObjRep φ' H' w' S' l o:=by
 cases o with
 |dead=>exact hφ.trans h
 | map kvs =>
   obtain⟨h0,b,es,c,h1,h2,h3⟩:=h
   exact⟨h0,b,es,c,hφ.trans h1,(hb b h1).trans h2,h3⟩
 | box cs =>
   obtain⟨b,vs,ty,h1,h2,h3,h4,hpc,h5⟩:=h
   exact⟨b,vs,ty,hφ.trans h1,(hb b h1).trans h2,h3,h4,hpc,fun j c v hj hv=>(h5 j c v hj hv).mono hO hS hw hl⟩
 | arr size es v frz =>
   obtain⟨h1,h2,h3,h4,h5,h6⟩:=h
   refine⟨h1,h2,h3,h4,fun e=>h5 (hφ▸e),fun b e=> ?_⟩
   have e':=hφ.symm.trans e
   obtain⟨cs,ty,g1,g2,g3,g4⟩:=h6 b e'
   exact⟨cs,ty,(hb b e').trans g1,g2,fun i j e c he hc=>let ⟨u,k1,k2⟩:=g3 i j e c he hc;⟨u,k1,k2.mono hO hS hw⟩,fun i j hi hj=>hS _ (g4 i j hi hj)⟩
def Obj.opn (a:Addr):Obj→Prop
 |.arr size _ _ frz=>frz*size≤a.off
 |_=>True
def Mut (φ:Inj) (H:Heap) (a:Addr):Prop:=
 ∃l o,H l=some o∧φ l=some a.block∧o.opn a
structure Kap where
 w0:World
 φ0:Inj
 S0:Addr→Prop
 H0:Heap
def Kept (w w':World) (b:Nat):Prop:=∀cs ty fr,w.heap[b]?=some (.cells cs ty fr)→∃cs' ty' fr',w'.heap[b]?=some (.cells cs' ty' fr')∧cs.size≤cs'.size
theorem Kept.refl (w:World) (b:Nat):Kept w w b:=fun cs ty fr h=>⟨cs,ty,fr,h,Nat.le_refl _⟩
theorem Kept.trans {w w' w'':World} {b:Nat} (h:Kept w w' b) (k:Kept w' w'' b):Kept w w'' b:=fun cs ty fr hc=>by
 obtain⟨cs',ty',fr',h1,h2⟩:=h cs ty fr hc
 obtain⟨cs2,ty2,fr2,k1,k2⟩:=k cs' ty' fr' h1
 exact⟨cs2,ty2,fr2,k1,Nat.le_trans h2 k2⟩
theorem Kept.same {w w':World} {b:Nat} (h:w'.heap[b]?=w.heap[b]?):Kept w w' b:=fun cs ty fr hc=>⟨cs,ty,fr,h.trans hc,Nat.le_refl _⟩
theorem LStep.trans {φ φ' φ'':Inj} {w w' w'':World} {l:Lab} {o o' o'':Obj} (h:LStep φ φ' w w' l o o') (k:LStep φ' φ'' w' w'' l o' o''):LStep φ φ'' w w'' l o o'':=by
 cases o with
 | box => cases o' with
   | box => cases o'' with
     |box=>exact Eq.trans (show φ'' l=φ' l from k) (show φ' l=φ l from h)
     |arr=>exact k.elim
     |dead=>exact k.elim
     |map=>exact k.elim
   |arr=>exact h.elim
   |dead=>exact h.elim
   |map=>exact h.elim
 | map => cases o' with
   | map => cases o'' with
     |map=>exact Eq.trans (show φ'' l=φ' l from k) (show φ' l=φ l from h)
     |arr=>exact k.elim
     |dead=>exact k.elim
     |box=>exact k.elim
   |arr=>exact h.elim
   |dead=>exact h.elim
   |box=>exact h.elim
 | dead => cases o' with
   | dead => cases o'' with
     |dead=>exact trivial
     |arr=>exact k.elim
     |map=>exact k.elim
     |box=>exact k.elim
   |arr=>exact h.elim
   |map=>exact h.elim
   |box=>exact h.elim
 | arr size es v frz => cases o' with
   |box=>exact h.elim
   |map=>exact h.elim
   | dead => cases o'' with
     |dead=>exact trivial
     |arr=>exact k.elim
     |map=>exact k.elim
     |box=>exact k.elim
   | arr size' es' v' frz' => cases o'' with
     |box=>exact k.elim
     |map=>exact k.elim
     |dead=>exact trivial
     | arr size'' es'' v'' frz'' =>
       obtain⟨h1,h2⟩:=h
       obtain⟨k1,k2⟩:=k
       refine⟨Nat.le_trans h1 k1,fun e=> ?_⟩
       have e1:v=v':=by omega
       obtain⟨a1,a2,a3,a4⟩:=h2 e1
       obtain⟨b1,b2,b3,b4⟩:=k2 (by omega)
       refine⟨b1.trans a1,Nat.le_trans a2 b2,b3.trans a3,fun b cs ty fr hb hc=> ?_⟩
       obtain⟨cs',ty',fr',c1,c2⟩:=a4 b cs ty fr hb hc
       obtain⟨cs2,ty2,fr2,d1,d2⟩:=b4 b cs' ty' fr' (by rw[a3];exact hb) c1
       exact⟨cs2,ty2,fr2,d1,Nat.le_trans c2 d2⟩
def Lab.isFld:Lab→Bool
 |.fld _ _=>true
 |_=>false
def FldK (H0:Heap) (φ0:Inj) (w0:World) (φ:Inj) (H:Heap) (w:World):Prop:=
 ∀l o,Lab.isFld l=true→H0 l=some o→∃o',H l=some o'∧LStep φ0 φ w0 w l o o'
theorem FldK.step {H0:Heap} {φ0:Inj} {w0:World} {φ φ':Inj} {H H':Heap} {w w':World} (h:FldK H0 φ0 w0 φ H w) (hs:∀l o,H l=some o→∃o',H' l=some o'∧LStep φ φ' w w' l o o'):FldK H0 φ0 w0 φ' H' w':=fun l o hl ho=>by
 obtain⟨o1,h1,h2⟩:=h l o hl ho
 obtain⟨o2,k1,k2⟩:=hs l o1 h1
 exact⟨o2,k1,h2.trans k2⟩
theorem FldK.same {H0:Heap} {φ0:Inj} {w0:World} {φ φ':Inj} {H H':Heap} {w:World} (h:FldK H0 φ0 w0 φ H w) (hs:∀l,Lab.isFld l=true→H' l=H l∧φ' l=φ l):FldK H0 φ0 w0 φ' H' w:=fun l o hl ho=>by
 obtain⟨o1,h1,h2⟩:=h l o hl ho
 refine⟨o1,(hs l hl).1.trans h1,?_⟩
 have e:=(hs l hl).2
 cases o<;>cases o1<;>first|exact h2.elim|exact trivial|exact e.trans h2|skip
 exact⟨h2.1,fun e'=>let ⟨a,b,c,d⟩:=h2.2 e';⟨a,b,e.trans c,d⟩⟩
theorem FldK.rfl (H0:Heap) (φ0:Inj) (w0:World):FldK H0 φ0 w0 φ0 H0 w0:=fun l o _ ho=>⟨o,ho,by
  cases o with
  |arr=>exact⟨Nat.le_refl _,fun _=>⟨Eq.refl _,Nat.le_refl _,Eq.refl _,fun b cs ty fr _ h=>⟨cs,ty,fr,h,Nat.le_refl _⟩⟩⟩
  |box=>exact Eq.refl _
  |dead=>exact trivial
  |map=>exact Eq.refl _⟩
structure Mem (κ:Kap) (φ:Inj) (S:Addr→Prop) (H:Heap) (nxt:Nat) (w:World):Prop where
 inj:∀l l' b,φ l=some b→φ l'=some b→l=l'
 dom:∀l,H l=none→φ l=none
 lt:∀l b,φ l=some b→b<w.heap.size
 objs:∀l o,H l=some o→ObjRep φ H w S l o
 stab:∀a,S a→¬Mut φ H a
 slt:∀a,S a→a.block<w.heap.size∧a.spot=none
 nx:∀id,nxt≤id→H (.obj id)=none
 sub:∀a,κ.S0 a→S a
 sup:∀a,S a→κ.S0 a∨κ.w0.heap.size≤a.block∨∃l,κ.φ0 l=some a.block
 grow:κ.w0.heap.size≤w.heap.size
 os:w.os=κ.w0.os
 tape:w.tape=κ.w0.tape
 output:w.output=κ.w0.output
 keep:∀b,b<κ.w0.heap.size→(∀l,κ.φ0 l≠some b)→w.heap[b]?=κ.w0.heap[b]?
 keepS:∀a u,κ.S0 a→κ.w0.cell? a=some u→w.cell? a=some u
 old:∀l b,φ l=some b→b<κ.w0.heap.size→κ.φ0 l=some b
 loc0:∀d k,κ.φ0 (.loc d k)=none
 objk:∀l b,Lab.isObj l=true→κ.φ0 l=some b→φ l=some b∧Kept κ.w0 w b
 fldk:FldK κ.H0 κ.φ0 κ.w0 φ H w
def Slots (φ:Inj) (H:Heap) (w:World) (S:Addr→Prop) (a:Act) (f:Nat→AV):Prop:=
 ∀t,RepA φ H w S (f t) (a.tmps.getD t undef)
def Conc (κ:Kap) (n:Nat) (s:St) (a:Act) (w:World):Prop:=
 a.defers=[]∧a.tmps.size=n∧∃φ S,Mem κ φ S s.h s.nxt w∧Slots φ s.h w S a s.f
theorem LStep.refl {φ:Inj} {w w':World} {l:Lab} (o:Obj)
  (h:∀b cs ty fr,φ l=some b→w.heap[b]?=some (.cells cs ty fr)→∃cs' ty' fr',w'.heap[b]?=some (.cells cs' ty' fr')∧cs.size≤cs'.size):LStep φ φ w w' l o o:=by
 cases o with
 |arr=>exact⟨Nat.le_refl _,fun _=>⟨rfl,Nat.le_refl _,rfl,h⟩⟩
 |box=>exact rfl
 |dead=>exact trivial
 |map=>exact rfl
theorem cell?_of_block {w w':World} {b:Nat} (h:w'.heap[b]?=w.heap[b]?) (a:Addr) (ha:a.block=b):w'.cell? a=w.cell? a:=by
 unfold World.cell?;rw[ha,h]
theorem cell?_eq {w:World} {b:Nat} {cs:Array Value} {ty:TypeId} {fr:Nat×Nat} (h:w.heap[b]?=some (.cells cs ty fr)) (o:Nat):w.cell? ⟨b,o,none⟩=cs[o]?:=by
 unfold World.cell?;simp[h]
theorem cell?_lt {w:World} {a:Addr} {u:Value} (h:w.cell? a=some u):a.block<w.heap.size:=by
 unfold World.cell? at h
 rcases Nat.lt_or_ge a.block w.heap.size with g|g
 ·exact g
 ·rw[Array.getElem?_eq_none g]at h;cases h
namespace Rd
theorem run_bind_some {α β:Type} {m:Rd α} {f:α→Rd β} {h:Heap} {x:β} {acc:List Lab} (e:(m.bind f).run h=some (x,acc)):
  ∃a l l',m.run h=some (a,l)∧(f a).run h=some (x,l')∧acc=l++l':=by
 induction m generalizing acc with
 |ret a=>exact⟨a,[],acc,rfl,e,rfl⟩
 |fail=>simp[bind,run]at e
 | ask l k ih =>
   simp only[bind,run,Option.map_eq_some_iff,Prod.mk.injEq]at e
   obtain⟨⟨a1,l1⟩,h1,rfl,rfl⟩:=e
   obtain⟨a,l2,l3,h2,h3,h4⟩:=ih (h l) h1
   exact⟨a,l::l2,l3,by simp[run,h2],h3,by simp[h4]⟩
theorem run_ask_some {α:Type} {l:Lab} {k:Option Obj→Rd α} {h:Heap} {x:α} {acc:List Lab} (e:(ask l k).run h=some (x,acc)):
  ∃acc',(k (h l)).run h=some (x,acc')∧acc=l::acc':=by
 simp only[run,Option.map_eq_some_iff,Prod.mk.injEq]at e
 obtain⟨⟨a1,l1⟩,h1,rfl,rfl⟩:=e
 exact⟨_,h1,rfl⟩
theorem run_ret_some {α:Type} {a x:α} {h:Heap} {acc:List Lab} (e:(ret a).run h=some (x,acc)):a=x∧acc=[]:=by
 simp only[run,Option.some.injEq,Prod.mk.injEq]at e
 exact⟨e.1,e.2.symm⟩
theorem run_fail_some {α:Type} {x:α} {h:Heap} {acc:List Lab} (e:(fail:Rd α).run h=some (x,acc)):False:=by
 simp[run]at e
theorem run_local {α:Type} {m:Rd α} {h h':Heap} {x:α} {acc:List Lab} (e:m.run h=some (x,acc)) (hl:∀l∈acc,h' l=h l):m.run h'=some (x,acc):=by
 induction m generalizing acc with
 |ret a=>exact e
 |fail=>exact e
 | ask l k ih =>
   obtain⟨acc',h1,rfl⟩:=run_ask_some e
   simp only[run,hl l (by simp)]
   rw[ih (h l) h1 fun l' hl'=>hl l' (by simp[hl'])]
   rfl
end Rd
theorem writes_nil (h:Heap):writes h []=h:=rfl
theorem writes_cons (h:Heap) (l:Lab) (o:Obj) (r:List (Lab×Obj)):writes h ((l,o)::r)=writes (upd h l (some o)) r:=rfl
theorem writes_append (h:Heap) (a b:List (Lab×Obj)):writes h (a++b)=writes (writes h a) b:=by
 induction a generalizing h with
 |nil=>rfl
 |cons x r ih=>exact ih _
structure Chg (κ:Kap) (φ:Inj) (S:Addr→Prop) (H:Heap) (w:World) (φ':Inj) (S':Addr→Prop) (H':Heap) (nxt':Nat) (w':World):Prop where
 mem:Mem κ φ' S' H' nxt' w'
 av:∀y v,RepA φ H w S y v→RepA φ' H' w' S' y v
 tv:∀t v,RepT φ.objs w S t v→RepT φ'.objs w' S' t v
theorem Chg.refl {κ:Kap} {φ:Inj} {S:Addr→Prop} {H:Heap} {n:Nat} {w:World} (M:Mem κ φ S H n w):Chg κ φ S H w φ S H n w:=⟨M,fun _ _ h=>h,fun _ _ h=>h⟩
theorem Chg.trans {κ:Kap} {φ φ' φ'':Inj} {S S' S'':Addr→Prop} {H H' H'':Heap} {n n':Nat} {w w' w'':World}
  (h:Chg κ φ S H w φ' S' H' n w') (k:Chg κ φ' S' H' w' φ'' S'' H'' n' w''):Chg κ φ S H w φ'' S'' H'' n' w'':=
 ⟨k.mem,fun y v e=>k.av y v (h.av y v e),fun t v e=>k.tv t v (h.tv t v e)⟩
theorem Mem.blk_ne {κ:Kap} {φ:Inj} {S:Addr→Prop} {H:Heap} {n:Nat} {w:World} (M:Mem κ φ S H n w) {l:Lab} {b:Nat} (h:φ l=some b):H l≠none:=fun e=>by
 rw[M.dom l e]at h;cases h
section
variable {κ:Kap} {φ:Inj} {S:Addr→Prop} {H:Heap} {n:Nat} {w:World}
theorem Mem.freeze (M:Mem κ φ S H n w) {l:Lab} {size:Nat} {es:List T} {v frz:Nat} (hl:H l=some (.arr size es v frz)):
  Chg κ φ S H w φ (fun a=>S a∨(φ l=some a.block∧a.spot=none∧a.off<es.length*size)) (upd H l (some (.arr size es v es.length))) n w:=by
 have hstep:∀l' o,H l'=some o→∃o',upd H l (some (.arr size es v es.length)) l'=some o'∧LStep φ φ w w l' o o':=by
  intro l' o ho
  by_cases e:l'=l
  ·subst e
   rw[hl]at ho
   cases ho
   exact⟨_,upd_same _ _ _,Nat.le_refl _,fun _=>⟨rfl,Nat.le_refl _,rfl,fun b cs ty fr _ h=>⟨cs,ty,fr,h,Nat.le_refl _⟩⟩⟩
  ·exact⟨o,by rw[upd_ne _ _ _ _ e];exact ho,LStep.refl o fun b cs ty fr _ h=>⟨cs,ty,fr,h,Nat.le_refl _⟩⟩
 have hS:∀a,S a→S a∨(φ l=some a.block∧a.spot=none∧a.off<es.length*size):=fun a h=>.inl h
 obtain⟨o1,o2,o3,o4,o5,o6⟩:=M.objs l _ hl
 refine⟨?_,fun y u h=>h.mono (fun _ _ h=>h) hS (fun _ _ _ h=>h) hstep,fun t u h=>h.mono (fun _ _ h=>h) hS fun _ _ _ h=>h⟩
 refine { inj := M.inj, dom := fun l' e => ?_, lt := M.lt, objs := fun l' o ho => ?_, stab := ?_, slt := ?_, nx := fun id hid => ?_, sub := fun a h => .inl (M.sub a h), sup := ?_,
          grow:=M.grow,os:=M.os,tape:=M.tape,output:=M.output,keep:=M.keep,keepS:=M.keepS,old:=M.old,loc0:=M.loc0,fldk:=M.fldk.step hstep,objk:=M.objk}
 ·by_cases h:l'=l
  ·subst h;rw[upd_same]at e;cases e
  ·rw[upd_ne _ _ _ _ h]at e;exact M.dom l' e
 ·by_cases h:l'=l
  ·subst h
   rw[upd_same]at ho
   cases ho
   refine⟨o1,o2,o3,Nat.le_refl _,o5,fun b hb=> ?_⟩
   obtain⟨cs,ty,g1,g2,g3,_⟩:=o6 b hb
   refine⟨cs,ty,g1,g2,fun i j e c he hc=> ?_,fun i j hi hj=>.inr ⟨hb,rfl,?_⟩⟩
   ·obtain⟨u,k1,k2⟩:=g3 i j e c he hc
    exact⟨u,k1,k2.mono (fun _ _ h=>h) hS fun _ _ _ h=>h⟩
   ·exact Nat.lt_of_lt_of_le (Nat.add_lt_add_left hj _) (by rw[←Nat.succ_mul];exact Nat.mul_le_mul_right _ hi)
  ·rw[upd_ne _ _ _ _ h]at ho
   exact(M.objs l' o ho).mono (fun _ _ h=>h) hS (fun _ _ _ h=>h) hstep rfl fun _ _=>rfl
 ·rintro a (h|⟨h1,h2,h3⟩) ⟨l',o,ho,hφ,hm⟩
  ·by_cases e:l'=l
   ·subst e
    rw[upd_same]at ho
    cases ho
    exact M.stab a h ⟨l',_,hl,hφ,Nat.le_trans (Nat.mul_le_mul_right _ o4) hm⟩
   ·rw[upd_ne _ _ _ _ e]at ho
    exact M.stab a h ⟨l',o,ho,hφ,hm⟩
  ·obtain rfl:=M.inj _ _ _ h1 hφ
   rw[upd_same]at ho
   cases ho
   exact absurd h3 (Nat.not_lt.mpr hm)
 ·rintro a (h|⟨h1,h2,_⟩)
  ·exact M.slt a h
  ·exact⟨M.lt _ _ h1,h2⟩
 ·by_cases e:Lab.obj id=l
  ·rw[←e,M.nx id hid]at hl;cases hl
  ·rw[upd_ne _ _ _ _ e];exact M.nx id hid
 ·rintro a (h|⟨h1,_,_⟩)
  ·exact M.sup a h
  ·rcases Nat.lt_or_ge a.block κ.w0.heap.size with g|g
   ·exact .inr (.inr ⟨l,M.old l _ h1 g⟩)
   ·exact .inr (.inl g)
theorem repT_of_hdr (M:Mem κ φ S H n w) {l:Lab} {size:Nat} {es:List T} {v frz off len:Nat} {u:Value} (hl:H l=some (.arr size es v frz)) (hf:es.length≤frz)
  (hh:Hdr φ w l size es.length off len u):RepT φ.objs w S (.slice ((es.drop off).take len)) u:=by
 obtain⟨o1,o2,o3,o4,o5,o6⟩:=M.objs l _ hl
 obtain⟨h1,ad,cap,rfl,h2,h3,h4⟩:=hh
 have hlen:((es.drop off).take len).length=len:=by simp;omega
 have hget:∀i e,((es.drop off).take len)[i]?=some e→i<len∧es[off+i]?=some e:=by
  intro i e h
  rw[List.getElem?_take]at h
  split at h
  ·rw[List.getElem?_drop]at h;exact⟨by assumption,h⟩
  ·cases h
 rw[show(Value.slice ad len cap)=.slice ad ((es.drop off).take len).length cap by rw[hlen]]
 by_cases hz:len=0
 ·subst hz
  have:((es.drop off).take 0)=[]:=by simp
  rw[this]
  exact .slice [] ad ⟨0,0,none⟩ cap 0 (fun _ _=>undef) (by simp) (fun h=>(h rfl).elim) (by simp) (by simp) (by simp) (by simp)
 ·cases hφ:φ l with
  | none =>
    have:=o5 hφ
    subst this
    simp at h1;omega
  | some b =>
    obtain⟨rfl,cs0,ty0,fr0,m1,m2⟩:=h4 b hφ (.inr (by omega))
    obtain⟨cs,ty,g1,g2,g3,g4⟩:=o6 b hφ
    have hcell:∀i j e c,((es.drop off).take len)[i]?=some e→e.cells[j]?=some c→
     w.cell? ⟨b,off*size+i*size+j,none⟩=some (cs.getD (off*size+i*size+j) undef)∧S ⟨b,off*size+i*size+j,none⟩∧RepT φ.objs w S c (cs.getD (off*size+i*size+j) undef):=by
     intro i j e c he hc
     obtain⟨hi,he'⟩:=hget i e he
     obtain⟨x,k1,k2⟩:=g3 (off+i) j e c he' hc
     have hj:j<size:=by
      have:=o2 e (List.mem_of_getElem? he')
      have h5:=(List.getElem?_eq_some_iff.1 hc).1
      omega
     have hk:=g4 (off+i) j (by omega) hj
     have ea:(off+i)*size+j=off*size+i*size+j:=by rw[Nat.add_mul]
     rw[ea]at k1 hk
     refine⟨?_,hk,?_⟩
     ·rw[cell?_eq g1,k1];simp[k1]
     ·simpa [k1] using k2
    exact .slice _ _ ⟨b,off*size,none⟩ cap size (fun i j=>cs.getD (off*size+i*size+j) undef) (by rw[hlen];exact h2) (fun _=>⟨rfl,rfl⟩)
     (fun e he=>o2 e (List.mem_of_mem_drop (List.mem_of_mem_take he))) (fun e he=>o3 e (List.mem_of_mem_drop (List.mem_of_mem_take he)))
     (fun i j e c he hc=>⟨(hcell i j e c he hc).1,(hcell i j e c he hc).2.1⟩) (fun i j e c he hc=>(hcell i j e c he hc).2.2)
theorem Mem.newAny (M:Mem κ φ S H n w) {l:Lab} {o':Obj} {ob:Go.Obj} {w':World} {n':Nat}
  (hw:w'.heap=w.heap.push ob) (hos:w'.os=w.os) (htape:w'.tape=w.tape) (hout:w'.output=w.output)
  (hl:H l=none∨∃size es v frz size' es' v' frz',H l=some (.arr size es v frz)∧o'=.arr size' es' v' frz'∧v<v')
  (hobj:∀id,l=.obj id→H l=none∧id<n') (hfix:l.isObj=true→H l=none) (hn:n≤n')
  (ho:(∀y v,RepA φ H w S y v→RepA (upd φ l (some w.heap.size)) (upd H l (some o')) w' S y v)→(∀t v,RepT φ.objs w S t v→RepT (Inj.objs (upd φ l (some w.heap.size))) w' S t v)→
    ObjRep (upd φ l (some w.heap.size)) (upd H l (some o')) w' S l o'):
  Chg κ φ S H w (upd φ l (some w.heap.size)) S (upd H l (some o')) n' w':=by
 have hold:∀k,k<w.heap.size→w'.heap[k]?=w.heap[k]?:=fun k hk=>by rw[hw,Array.getElem?_push,if_neg (by omega)]
 have hsz:w'.heap.size=w.heap.size+1:=by rw[hw,Array.size_push]
 have hcell:∀a u,w.cell? a=some u→w'.cell? a=some u:=fun a u h=>(cell?_of_block (hold _ (cell?_lt h)) a rfl).trans h
 have hcell':∀a u,S a→w.cell? a=some u→w'.cell? a=some u:=fun a u _ h=>hcell a u h
 have hO:∀id b,φ (.obj id)=some b→upd φ l (some w.heap.size) (.obj id)=some b:=fun id b h=>by
  by_cases e:Lab.obj id=l
  ·have:=(hobj id e.symm).1
   rw[←e]at this
   exact absurd (M.dom _ this) (by rw[h];simp)
  ·rw[upd_ne _ _ _ _ e];exact h
 have hstep:∀l' o,H l'=some o→∃o2,upd H l (some o') l'=some o2∧LStep φ (upd φ l (some w.heap.size)) w w' l' o o2:=by
  intro l' o h
  by_cases e:l'=l
  ·subst e
   rcases hl with hl|⟨size,es,v,frz,size',es',v',frz',h1,rfl,h3⟩
   ·rw[hl]at h;cases h
   ·rw[h1]at h
    cases h
    exact⟨_,upd_same _ _ _,Nat.le_of_lt h3,fun e=>by omega⟩
  ·refine⟨o,by rw[upd_ne _ _ _ _ e];exact h,?_⟩
   have e2:upd φ l (some w.heap.size) l'=φ l':=upd_ne _ _ _ _ e
   have keep:∀b cs ty fr,φ l'=some b→w.heap[b]?=some (.cells cs ty fr)→∃cs' ty' fr',w'.heap[b]?=some (.cells cs' ty' fr')∧cs.size≤cs'.size:=
    fun b cs ty fr hb hc=>⟨cs,ty,fr,(hold b (M.lt _ _ hb)).trans hc,Nat.le_refl _⟩
   cases o with
   |box=>exact e2
   |map=>exact e2
   |dead=>exact trivial
   |arr=>exact⟨Nat.le_refl _,fun _=>⟨rfl,Nat.le_refl _,e2,keep⟩⟩
 have av:∀y v,RepA φ H w S y v→RepA (upd φ l (some w.heap.size)) (upd H l (some o')) w' S y v:=fun y v h=>h.mono hO (fun _ h=>h) hcell' hstep
 have tv:∀t v,RepT φ.objs w S t v→RepT (Inj.objs (upd φ l (some w.heap.size))) w' S t v:=fun t v h=>h.mono (fun id b h=>hO id b h) (fun _ h=>h) hcell'
 refine⟨?_,av,tv⟩
 refine { inj := ?_, dom := ?_, lt := ?_, objs := fun l' o h => ?_, stab := ?_, slt := fun a h => ⟨by have := (M.slt a h).1; omega, (M.slt a h).2⟩, nx := fun id hid => ?_, sub := M.sub, sup := M.sup,
          grow:=by have:=M.grow;omega,os:=hos.trans M.os,tape:=htape.trans M.tape,output:=hout.trans M.output,
          keep:=fun b hb h=>(hold b (Nat.lt_of_lt_of_le hb M.grow)).trans (M.keep b hb h),keepS:=fun a u h0 h=>hcell a u (M.keepS a u h0 h),old:= ?_,loc0:=M.loc0,fldk:=M.fldk.step hstep,objk:=fun l1 b hf h=>by
            obtain⟨h1,h2⟩:=M.objk l1 b hf h
            refine⟨?_,h2.trans (Kept.same (hold b (M.lt _ _ h1)))⟩
            by_cases e:l1=l
            · subst e
              exact absurd (M.dom _ (hfix hf)) (by rw[h1];simp)
            ·rw[upd_ne _ _ _ _ e];exact h1}
 ·intro l1 l2 b h1 h2
  by_cases e1:l1=l<;>by_cases e2:l2=l
  ·rw[e1,e2]
  ·subst e1
   rw[upd_same]at h1;rw[upd_ne _ _ _ _ e2]at h2
   cases h1
   exact absurd (M.lt _ _ h2) (Nat.lt_irrefl _)
  ·subst e2
   rw[upd_same]at h2;rw[upd_ne _ _ _ _ e1]at h1
   cases h2
   exact absurd (M.lt _ _ h1) (Nat.lt_irrefl _)
  ·rw[upd_ne _ _ _ _ e1]at h1;rw[upd_ne _ _ _ _ e2]at h2
   exact M.inj _ _ _ h1 h2
 ·intro l' h
  by_cases e:l'=l
  ·subst e;rw[upd_same]at h;cases h
  ·rw[upd_ne _ _ _ _ e]at h⊢;exact M.dom l' h
 ·intro l' b h
  by_cases e:l'=l
  ·subst e;rw[upd_same]at h;cases h;omega
  ·rw[upd_ne _ _ _ _ e]at h;have:=M.lt _ _ h;omega
 ·by_cases e:l'=l
  ·subst e;rw[upd_same]at h;cases h;exact ho av tv
  ·rw[upd_ne _ _ _ _ e]at h
   exact(M.objs l' o h).mono hO (fun _ h=>h) hcell' hstep (upd_ne _ _ _ _ e) fun b hb=>hold b (M.lt _ _ hb)
 ·rintro a h ⟨l',o,h1,h2,h3⟩
  by_cases e:l'=l
  ·subst e
   rw[upd_same]at h2
   have:=(M.slt a h).1
   have:=Option.some.inj h2
   omega
  ·rw[upd_ne _ _ _ _ e]at h1 h2
   exact M.stab a h ⟨l',o,h1,h2,h3⟩
 ·by_cases e:Lab.obj id=l
  ·have:=(hobj id e.symm).2;omega
  ·rw[upd_ne _ _ _ _ e];exact M.nx id (by omega)
 ·intro l' b h hb
  by_cases e:l'=l
  ·subst e;rw[upd_same]at h;cases h
   have:=M.grow
   omega
  ·rw[upd_ne _ _ _ _ e]at h;exact M.old l' b h hb
theorem Mem.newRow (M:Mem κ φ S H n w) {l:Lab} {o':Obj} {cs:Array Value} {ty:TypeId} {w':World} {n':Nat}
  (hw:w'.heap=w.heap.push (.cells cs ty (0,0))) (hos:w'.os=w.os) (htape:w'.tape=w.tape) (hout:w'.output=w.output)
  (hl:H l=none∨∃size es v frz size' es' v' frz',H l=some (.arr size es v frz)∧o'=.arr size' es' v' frz'∧v<v')
  (hobj:∀id,l=.obj id→H l=none∧id<n') (hfix:l.isObj=true→H l=none) (hn:n≤n')
  (ho:(∀y v,RepA φ H w S y v→RepA (upd φ l (some w.heap.size)) (upd H l (some o')) w' S y v)→(∀t v,RepT φ.objs w S t v→RepT (Inj.objs (upd φ l (some w.heap.size))) w' S t v)→
    ObjRep (upd φ l (some w.heap.size)) (upd H l (some o')) w' S l o'):
  Chg κ φ S H w (upd φ l (some w.heap.size)) S (upd H l (some o')) n' w':=M.newAny hw hos htape hout hl hobj hfix hn ho
theorem Mem.write (M:Mem κ φ S H n w) {l:Lab} {o o':Obj} {b:Nat} {cs cs':Array Value} {ty:TypeId} {w':World}
  (hl:H l=some o) (hb:φ l=some b) (h0:w.heap[b]?=some (.cells cs ty (0,0)))
  (hw:∀k,k≠b→w'.heap[k]?=w.heap[k]?) (hwb:w'.heap[b]?=some (.cells cs' ty (0,0))) (hsize:w'.heap.size=w.heap.size) (hos:w'.os=w.os) (htape:w'.tape=w.tape) (hout:w'.output=w.output)
  (hsz:cs'.size=cs.size) (hS:∀off,S ⟨b,off,none⟩→cs'[off]?=cs[off]?) (hstep0:LStep φ φ w w' l o o')
  (hmut:∀a,S a→a.block=b→¬o'.opn a)
  (ho:(∀y v,RepA φ H w S y v→RepA φ (upd H l (some o')) w' S y v)→(∀t v,RepT φ.objs w S t v→RepT φ.objs w' S t v)→ObjRep φ (upd H l (some o')) w' S l o'):
  Chg κ φ S H w φ S (upd H l (some o')) n w':=by
 have hcell:∀a u,S a→w.cell? a=some u→w'.cell? a=some u:=by
  intro a u ha h
  by_cases e:a.block=b
  ·obtain⟨ab,ao,as⟩:=a
   obtain rfl:as=none:=(M.slt _ ha).2
   simp only at e
   subst e
   rw[cell?_eq hwb,hS _ ha,←cell?_eq h0]
   exact h
  ·exact(cell?_of_block (hw _ e) a rfl).trans h
 have hO:∀id b,φ (.obj id)=some b→φ (.obj id)=some b:=fun _ _ h=>h
 have hblk:∀(b1:Nat) (cs1:Array Value) (ty1:TypeId) (fr1:Nat×Nat),w.heap[b1]?=some (.cells cs1 ty1 fr1)→∃cs2 ty2 fr2,w'.heap[b1]?=some (.cells cs2 ty2 fr2)∧cs1.size≤cs2.size:=by
  intro b1 cs1 ty1 fr1 h
  by_cases e:b1=b
  ·subst e
   rw[h0]at h
   cases h
   exact⟨cs',ty,(0,0),hwb,by omega⟩
  ·exact⟨cs1,ty1,fr1,(hw _ e).trans h,Nat.le_refl _⟩
 have hstep:∀l' o1,H l'=some o1→∃o2,upd H l (some o') l'=some o2∧LStep φ φ w w' l' o1 o2:=by
  intro l' o1 h
  by_cases e:l'=l
  ·subst e
   rw[hl]at h
   cases h
   exact⟨o',upd_same _ _ _,hstep0⟩
  ·exact⟨o1,by rw[upd_ne _ _ _ _ e];exact h,LStep.refl o1 fun b1 cs1 ty1 fr1 _ h=>hblk b1 cs1 ty1 fr1 h⟩
 have av:∀y v,RepA φ H w S y v→RepA φ (upd H l (some o')) w' S y v:=fun y v h=>h.mono hO (fun _ h=>h) hcell hstep
 have tv:∀t v,RepT φ.objs w S t v→RepT φ.objs w' S t v:=fun t v h=>h.mono hO (fun _ h=>h) hcell
 refine⟨?_,av,tv⟩
 refine { inj := M.inj, dom := ?_, lt := fun l' b' h => by rw [hsize]; exact M.lt l' b' h, objs := fun l' o1 h => ?_, stab := ?_, slt := fun a h => by rw [hsize]; exact M.slt a h, nx := fun id hid => ?_, sub := M.sub, sup := M.sup,
          grow:=by rw[hsize];exact M.grow,os:=hos.trans M.os,tape:=htape.trans M.tape,output:=hout.trans M.output,
          keep:=fun b1 hb1 h=> ?_,keepS:=fun a u h1 h2=>hcell a u (M.sub a h1) (M.keepS a u h1 h2),old:=M.old,loc0:=M.loc0,fldk:=M.fldk.step hstep,objk:=fun l1 b1 hf h=>⟨(M.objk l1 b1 hf h).1,(M.objk l1 b1 hf h).2.trans fun cs1 ty1 fr1 hc=>hblk b1 cs1 ty1 fr1 hc⟩}
 ·intro l' h
  by_cases e:l'=l
  ·subst e;rw[upd_same]at h;cases h
  ·rw[upd_ne _ _ _ _ e]at h;exact M.dom l' h
 ·by_cases e:l'=l
  ·subst e;rw[upd_same]at h;cases h;exact ho av tv
  ·rw[upd_ne _ _ _ _ e]at h
   refine(M.objs l' o1 h).mono hO (fun _ h=>h) hcell hstep rfl fun b1 hb1=>hw b1 fun e1=>e ?_
   subst e1
   exact M.inj _ _ _ hb1 hb
 ·rintro a h ⟨l',o1,h1,h2,h3⟩
  by_cases e:l'=l
  ·subst e
   rw[upd_same]at h1
   cases h1
   rw[hb]at h2
   cases h2
   exact hmut a h rfl h3
  ·rw[upd_ne _ _ _ _ e]at h1
   exact M.stab a h ⟨l',o1,h1,h2,h3⟩
 ·by_cases e:Lab.obj id=l
  ·rw[←e,M.nx id hid]at hl;cases hl
  ·rw[upd_ne _ _ _ _ e];exact M.nx id hid
 ·rw[hw b1 fun e=> ?_]
  ·exact M.keep b1 hb1 h
  ·subst e
   exact h l (M.old l _ hb hb1)
theorem Mem.writeMap (M:Mem κ φ S H n w) {l:Lab} {kvs kvs':List (Int×Int)} {b:Nat} {es es':Array MapEntry} {c c':Nat} {w':World}
  (hl:H l=some (.map kvs)) (hb:φ l=some b) (h0:w.heap[b]?=some (.map es c))
  (hw:∀k,k≠b→w'.heap[k]?=w.heap[k]?) (hwb:w'.heap[b]?=some (.map es' c')) (hsize:w'.heap.size=w.heap.size) (hos:w'.os=w.os) (htape:w'.tape=w.tape) (hout:w'.output=w.output)
  (hes:es'.toList.map (fun e=>(e.key,e.val))=kvs'.map fun p=>(Value.int .i64 p.1,Value.int .i64 p.2)):
  Chg κ φ S H w φ S (upd H l (some (.map kvs'))) n w':=by
 have hno:∀a,S a→a.block≠b:=fun a ha e=>M.stab a ha ⟨l,_,hl,by rw[e];exact hb,trivial⟩
 have hcell:∀a u,S a→w.cell? a=some u→w'.cell? a=some u:=fun a u ha h=>(cell?_of_block (hw _ (hno a ha)) a rfl).trans h
 have hO:∀id b,φ (.obj id)=some b→φ (.obj id)=some b:=fun _ _ h=>h
 have hblk:∀(b1:Nat) (cs1:Array Value) (ty1:TypeId) (fr1:Nat×Nat),w.heap[b1]?=some (.cells cs1 ty1 fr1)→∃cs2 ty2 fr2,w'.heap[b1]?=some (.cells cs2 ty2 fr2)∧cs1.size≤cs2.size:=by
  intro b1 cs1 ty1 fr1 h
  by_cases e:b1=b
  ·subst e
   rw[h0]at h
   cases h
  ·exact⟨cs1,ty1,fr1,(hw _ e).trans h,Nat.le_refl _⟩
 have hstep:∀l' o1,H l'=some o1→∃o2,upd H l (some (.map kvs')) l'=some o2∧LStep φ φ w w' l' o1 o2:=by
  intro l' o1 h
  by_cases e:l'=l
  ·subst e
   rw[hl]at h
   cases h
   exact⟨_,upd_same _ _ _,rfl⟩
  ·exact⟨o1,by rw[upd_ne _ _ _ _ e];exact h,LStep.refl o1 fun b1 cs1 ty1 fr1 _ h=>hblk b1 cs1 ty1 fr1 h⟩
 have av:∀y v,RepA φ H w S y v→RepA φ (upd H l (some (.map kvs'))) w' S y v:=fun y v h=>h.mono hO (fun _ h=>h) hcell hstep
 have tv:∀t v,RepT φ.objs w S t v→RepT φ.objs w' S t v:=fun t v h=>h.mono hO (fun _ h=>h) hcell
 refine⟨?_,av,tv⟩
 refine { inj := M.inj, dom := ?_, lt := fun l' b' h => by rw [hsize]; exact M.lt l' b' h, objs := fun l' o1 h => ?_, stab := ?_, slt := fun a h => by rw [hsize]; exact M.slt a h, nx := fun id hid => ?_, sub := M.sub, sup := M.sup,
          grow:=by rw[hsize];exact M.grow,os:=hos.trans M.os,tape:=htape.trans M.tape,output:=hout.trans M.output,
          keep:=fun b1 hb1 h=> ?_,keepS:=fun a u h1 h2=>hcell a u (M.sub a h1) (M.keepS a u h1 h2),old:=M.old,loc0:=M.loc0,fldk:=M.fldk.step hstep,objk:=fun l1 b1 hf h=>⟨(M.objk l1 b1 hf h).1,(M.objk l1 b1 hf h).2.trans fun cs1 ty1 fr1 hc=>hblk b1 cs1 ty1 fr1 hc⟩}
 ·intro l' h
  by_cases e:l'=l
  ·subst e;rw[upd_same]at h;cases h
  ·rw[upd_ne _ _ _ _ e]at h;exact M.dom l' h
 ·by_cases e:l'=l
  ·subst e;rw[upd_same]at h;cases h
   exact⟨(M.objs l' _ hl).1,b,es',c',hb,hwb,hes⟩
  ·rw[upd_ne _ _ _ _ e]at h
   refine(M.objs l' o1 h).mono hO (fun _ h=>h) hcell hstep rfl fun b1 hb1=>hw b1 fun e1=>e ?_
   subst e1
   exact M.inj _ _ _ hb1 hb
 ·rintro a h ⟨l',o1,h1,h2,h3⟩
  by_cases e:l'=l
  ·subst e
   exact hno a h (by rw[hb]at h2;exact(Option.some.inj h2).symm)
  ·rw[upd_ne _ _ _ _ e]at h1
   exact M.stab a h ⟨l',o1,h1,h2,h3⟩
 ·by_cases e:Lab.obj id=l
  ·rw[←e,M.nx id hid]at hl;cases hl
  ·rw[upd_ne _ _ _ _ e];exact M.nx id hid
 ·rw[hw b1 fun e=> ?_]
  ·exact M.keep b1 hb1 h
  ·subst e
   exact h l (M.old l _ hb hb1)
theorem Mem.trunc (M:Mem κ φ S H n w) {l:Lab} {size:Nat} {es:List T} {v frz k:Nat} (hl:H l=some (.arr size es v frz)) (hk:k≤es.length) (hf:frz≤k):
  Chg κ φ S H w φ S (upd H l (some (.arr size (es.take k) (v+1) frz))) n w:=by
 have hstep:∀l' o,H l'=some o→∃o',upd H l (some (.arr size (es.take k) (v+1) frz)) l'=some o'∧LStep φ φ w w l' o o':=by
  intro l' o ho
  by_cases e:l'=l
  ·subst e
   rw[hl]at ho
   cases ho
   exact⟨_,upd_same _ _ _,Nat.le_succ _,fun h=>by omega⟩
  ·exact⟨o,by rw[upd_ne _ _ _ _ e];exact ho,LStep.refl o fun b cs ty fr _ h=>⟨cs,ty,fr,h,Nat.le_refl _⟩⟩
 obtain⟨o1,o2,o3,o4,o5,o6⟩:=M.objs l _ hl
 refine⟨?_,fun y u h=>h.mono (fun _ _ h=>h) (fun _ h=>h) (fun _ _ _ h=>h) hstep,fun t u h=>h⟩
 refine{M with fldk:=M.fldk.step hstep,dom:=fun l' e=> ?_,objs:=fun l' o ho=> ?_,stab:= ?_,nx:=fun id hid=> ?_}
 ·by_cases h:l'=l
  ·subst h;rw[upd_same]at e;cases e
  ·rw[upd_ne _ _ _ _ h]at e;exact M.dom l' e
 ·by_cases h:l'=l
  ·subst h
   rw[upd_same]at ho
   cases ho
   refine⟨o1,fun e he=>o2 e (List.mem_of_mem_take he),fun e he=>o3 e (List.mem_of_mem_take he),by simp;omega,fun hn=>by simp[o5 hn],fun b hb=> ?_⟩
   obtain⟨cs,ty,g1,g2,g3,g4⟩:=o6 b hb
   refine⟨cs,ty,g1,Nat.le_trans (Nat.mul_le_mul_right _ (by simp;omega)) g2,fun i j e c he hc=> ?_,g4⟩
   rw[List.getElem?_take]at he
   split at he
   ·exact g3 i j e c he hc
   ·cases he
  ·rw[upd_ne _ _ _ _ h]at ho
   exact(M.objs l' o ho).mono (fun _ _ h=>h) (fun _ h=>h) (fun _ _ _ h=>h) hstep rfl fun _ _=>rfl
 ·rintro a h ⟨l',o,ho,hφ,hm⟩
  by_cases e:l'=l
  ·subst e
   rw[upd_same]at ho
   cases ho
   exact M.stab a h ⟨l',_,hl,hφ,hm⟩
  ·rw[upd_ne _ _ _ _ e]at ho
   exact M.stab a h ⟨l',o,ho,hφ,hm⟩
 ·by_cases e:Lab.obj id=l
  ·rw[←e,M.nx id hid]at hl;cases hl
  ·rw[upd_ne _ _ _ _ e];exact M.nx id hid
theorem Mem.move (M:Mem κ φ S H n w) {d k id j:Nat} {size:Nat} {es:List T} {v vn:Nat} (hl:H (.loc d k)=some (.arr size es v 0))
  (ht:H (.fld id j)=none∨∃size' es' v' frz',H (.fld id j)=some (.arr size' es' v' frz')∧v'<vn):
  Chg κ φ S H w (upd (upd φ (.loc d k) none) (.fld id j) (φ (.loc d k))) S (upd (upd H (.loc d k) (some .dead)) (.fld id j) (some (.arr size es vn 0))) n w:=by
 have hne:Lab.loc d k≠Lab.fld id j:=by simp
 have hne':Lab.fld id j≠Lab.loc d k:=by simp
 have f1:upd (upd φ (.loc d k) none) (.fld id j) (φ (.loc d k)) (.fld id j)=φ (.loc d k):=upd_same _ _ _
 have f2:upd (upd φ (.loc d k) none) (.fld id j) (φ (.loc d k)) (.loc d k)=none:=by rw[upd_ne _ _ _ _ hne,upd_same]
 have f3:∀l,l≠.loc d k→l≠.fld id j→upd (upd φ (.loc d k) none) (.fld id j) (φ (.loc d k)) l=φ l:=fun l h1 h2=>by rw[upd_ne _ _ _ _ h2,upd_ne _ _ _ _ h1]
 have e1:upd (upd H (.loc d k) (some .dead)) (.fld id j) (some (.arr size es vn 0)) (.fld id j)=some (.arr size es vn 0):=upd_same _ _ _
 have e2:upd (upd H (.loc d k) (some .dead)) (.fld id j) (some (.arr size es vn 0)) (.loc d k)=some .dead:=by rw[upd_ne _ _ _ _ hne,upd_same]
 have e3:∀l,l≠.loc d k→l≠.fld id j→upd (upd H (.loc d k) (some .dead)) (.fld id j) (some (.arr size es vn 0)) l=H l:=fun l h1 h2=>by rw[upd_ne _ _ _ _ h2,upd_ne _ _ _ _ h1]
 have hO:∀id' b,φ (.obj id')=some b→upd (upd φ (.loc d k) none) (.fld id j) (φ (.loc d k)) (.obj id')=some b:=fun id' b h=>by rw[f3 _ (by simp) (by simp)];exact h
 have hstep:∀l' o,H l'=some o→∃o',upd (upd H (.loc d k) (some .dead)) (.fld id j) (some (.arr size es vn 0)) l'=some o'∧LStep φ (upd (upd φ (.loc d k) none) (.fld id j) (φ (.loc d k))) w w l' o o':=by
  intro l' o ho
  by_cases h1:l'=.loc d k
  ·subst h1
   rw[hl]at ho;cases ho
   exact⟨_,e2,trivial⟩
  ·by_cases h2:l'=.fld id j
   ·subst h2
    rcases ht with ht|⟨size',es',v',frz',ht,hv⟩
    ·rw[ht]at ho;cases ho
    ·rw[ht]at ho;cases ho
     exact⟨_,e1,Nat.le_of_lt hv,fun e=>by omega⟩
   ·refine⟨o,by rw[e3 _ h1 h2];exact ho,?_⟩
    cases o with
    |box=>exact f3 _ h1 h2
    |map=>exact f3 _ h1 h2
    |dead=>exact trivial
    |arr=>exact⟨Nat.le_refl _,fun _=>⟨rfl,Nat.le_refl _,f3 _ h1 h2,fun b cs ty fr _ h=>⟨cs,ty,fr,h,Nat.le_refl _⟩⟩⟩
 have av:∀y v,RepA φ H w S y v→RepA (upd (upd φ (.loc d k) none) (.fld id j) (φ (.loc d k))) (upd (upd H (.loc d k) (some .dead)) (.fld id j) (some (.arr size es vn 0))) w S y v:=fun y v h=>h.mono hO (fun _ h=>h) (fun _ _ _ h=>h) hstep
 have tv:∀t v,RepT φ.objs w S t v→RepT (Inj.objs (upd (upd φ (.loc d k) none) (.fld id j) (φ (.loc d k)))) w S t v:=fun t v h=>h.mono hO (fun _ h=>h) (fun _ _ _ h=>h)
 obtain⟨o1,o2,o3,o4,o5,o6⟩:=M.objs _ _ hl
 have hinv:∀l b,upd (upd φ (.loc d k) none) (.fld id j) (φ (.loc d k)) l=some b→∃l0,φ l0=some b∧l≠.loc d k∧((l=.fld id j∧l0=.loc d k)∨(l≠.fld id j∧l0=l)):=by
  intro l b h
  by_cases h1:l=.loc d k
  ·subst h1;rw[f2]at h;cases h
  ·by_cases h2:l=.fld id j
   ·subst h2;rw[f1]at h;exact⟨_,h,h1,.inl ⟨rfl,rfl⟩⟩
   ·rw[f3 _ h1 h2]at h;exact⟨l,h,h1,.inr ⟨h2,rfl⟩⟩
 refine⟨?_,av,tv⟩
 refine{M with inj:= ?_,dom:= ?_,lt:= ?_,objs:= ?_,stab:= ?_,nx:= ?_,old:= ?_,fldk:=M.fldk.step hstep,objk:=fun l1 b hf h=>⟨by rw[f3 l1 (by rintro rfl;cases hf) (by rintro rfl;cases hf)];exact(M.objk l1 b hf h).1,(M.objk l1 b hf h).2⟩}
 ·intro l1 l2 b h1 h2
  obtain⟨m1,p1,q1,r1⟩:=hinv _ _ h1
  obtain⟨m2,p2,q2,r2⟩:=hinv _ _ h2
  have:=M.inj _ _ _ p1 p2
  rcases r1 with ⟨rfl,rfl⟩|⟨r1,rfl⟩<;>rcases r2 with ⟨rfl,rfl⟩|⟨r2,rfl⟩
  ·rfl
  ·exact absurd this.symm q2
  ·exact absurd this q1
  ·exact this
 ·intro l h
  by_cases h1:l=.loc d k
  ·subst h1;rw[e2]at h;cases h
  ·by_cases h2:l=.fld id j
   ·subst h2;rw[e1]at h;cases h
   ·rw[e3 _ h1 h2]at h;rw[f3 _ h1 h2];exact M.dom l h
 ·intro l b h
  obtain⟨m1,p1,_,_⟩:=hinv _ _ h
  exact M.lt _ _ p1
 ·intro l o h
  by_cases h1:l=.loc d k
  ·subst h1;rw[e2]at h;cases h;exact f2
  ·by_cases h2:l=.fld id j
   ·subst h2;rw[e1]at h;cases h
    refine⟨o1,o2,o3,Nat.zero_le _,fun hn=>o5 (f1▸hn),fun b hb=> ?_⟩
    obtain⟨cs,ty,g1,g2,g3,g4⟩:=o6 b (f1▸hb)
    exact⟨cs,ty,g1,g2,fun i j e c he hc=>let ⟨u,k1,k2⟩:=g3 i j e c he hc;⟨u,k1,tv _ _ k2⟩,fun i j hi=>absurd hi (Nat.not_lt_zero _)⟩
   ·rw[e3 _ h1 h2]at h
    exact(M.objs l o h).mono hO (fun _ h=>h) (fun _ _ _ h=>h) hstep (f3 _ h1 h2) fun _ _=>rfl
 ·rintro a ha ⟨l,o,h,hφ,hm⟩
  obtain⟨m1,p1,q1,r1⟩:=hinv _ _ hφ
  rcases r1 with ⟨rfl,rfl⟩|⟨r1,rfl⟩
  ·rw[e1]at h
   cases h
   exact M.stab a ha ⟨_,_,hl,p1,by simp[Obj.opn]⟩
  ·rw[e3 _ q1 r1]at h
   exact M.stab a ha ⟨_,_,h,p1,hm⟩
 ·intro id' hid
  rw[e3 _ (by simp) (by simp)];exact M.nx id' hid
 ·intro l b h hb
  obtain⟨m1,p1,q1,r1⟩:=hinv _ _ h
  rcases r1 with ⟨rfl,rfl⟩|⟨r1,rfl⟩
  ·have:=M.old _ _ p1 hb
   rw[M.loc0]at this;cases this
  ·exact M.old _ _ p1 hb
end
section
variable {P:Program} {κ:Kap} {n:Nat} {a:Act} {w:World} {s:St}
theorem const1_rep (φ:Inj) (H:Heap) (w:World) (S:Addr→Prop) (v:Value):RepA φ H w S (const1 v) v:=by
 unfold const1
 split
 ·exact .t _ _ (.int _ _)
 ·exact .t _ _ (.bool _)
 ·exact .t _ _ (.str _ _ rfl)
 ·exact .t _ _ .nilp
 ·exact .nil
 ·exact .t _ _ .nofn
 ·exact .und _
theorem constAV_rep (φ:Inj) (H:Heap) (w:World) (S:Addr→Prop) (v:Value):RepA φ H w S (constAV v) v:=by
 unfold constAV
 split
 ·rename_i cs
  split
  ·rename_i hall
   simp only[List.all_eq_true]at hall
   refine .agg _ _ (by simp) (fun v hv=> ?_) (fun j c v hj hv=> ?_)
   ·have:=hall v (Array.mem_toList_iff.2 hv)
    cases v<;>first|trivial|(simp[scalB]at this)
   ·have hc:(cs.toList)[j]?=some v:=by simpa using hv
    rw[List.getElem?_map,hc]at hj
    cases hj
    exact const1_rep φ H w S v
  ·exact .und _
 ·exact const1_rep φ H w S _
theorem evA_rep {φ:Inj} {H:Heap} {S:Addr→Prop} {f:Nat→AV} (h:Slots φ H w S a f) (x:Operand):RepA φ H w S (evA f x) (a.eval x):=by
 cases x with
 |tmp t=>exact h t
 |const v=>exact constAV_rep φ H w S v
 |global g=>exact .und _
 |func f=>exact .und _
theorem Act.getD_put (a:Act) (d:Option Tmp) (v:Value) (t:Nat):(a.put d v).tmps.getD t undef=if d=some t∧t<a.tmps.size then v else a.tmps.getD t undef:=by
 cases d with
 |none=>simp[Act.put]
 | some d =>
   simp only[Act.put,Option.some.injEq,Array.getD_eq_getD_getElem?,Array.getElem?_setIfInBounds]
   by_cases h:d=t
   ·subst h
    by_cases h2:d<a.tmps.size<;>simp[h2]
   ·simp[h]
theorem Act.size_put (a:Act) (d:Option Tmp) (v:Value):(a.put d v).tmps.size=a.tmps.size:=by cases d<;>simp[Act.put]
theorem Act.defers_put (a:Act) (d:Option Tmp) (v:Value):(a.put d v).defers=a.defers:=by cases d<;>rfl
theorem St.app_h (s:St) (d:Option Tmp) (x:Dl):(s.app d x).h=writes s.h x.w:=rfl
theorem St.app_nxt (s:St) (d:Option Tmp) (x:Dl):(s.app d x).nxt=s.nxt+x.nx:=rfl
theorem St.app_f (s:St) (d:Option Tmp) (x:Dl) (t:Nat):(s.app d x).f t=if d=some t then x.v else s.f t:=by
 cases d with
 |none=>simp[St.app,St.put]
 | some d =>
   simp only[St.app,St.put,upd,Option.some.injEq]
   by_cases h:t=d
   ·simp[h]
   ·simp[h,Ne.symm h]
theorem Conc.put {x:Dl} {v:Value} {w':World} {φ φ':Inj} {S S':Addr→Prop} {d:Option Tmp} (hd:a.defers=[]) (hs:a.tmps.size=n) (hdst:∀d',d=some d'→d'<n)
  (hsl:Slots φ s.h w S a s.f) (C:Chg κ φ S s.h w φ' S' (writes s.h x.w) (s.nxt+x.nx) w') (hv:RepA φ' (writes s.h x.w) w' S' x.v v):Conc κ n (s.app d x) (a.put d v) w':=by
 refine⟨by rw[Act.defers_put];exact hd,by rw[Act.size_put];exact hs,φ',S',C.mem,fun t=> ?_⟩
 rw[St.app_f,Act.getD_put,St.app_h]
 by_cases h:d=some t
 ·rw[if_pos h,if_pos ⟨h,by rw[hs];exact hdst t h⟩];exact hv
 ·rw[if_neg h,if_neg (fun e=>h e.1)];exact C.av _ _ (hsl t)
def Does (P:Program) (κ:Kap) (n:Nat) (a:Act) (w:World) (o:Oper) (s:St) (x:Dl):Prop:=
 ∃nx v w',(execOp a.eval o).run P w=.ok nx w'∧(nx=.value v∨(nx=.skip∧v=undef))∧Conc κ n (s.app o.dst x) (a.put o.dst v) w'
theorem Does.of_value {o:Oper} {x:Dl} {v:Value} {w':World} {φ φ':Inj} {S S':Addr→Prop} (hd:a.defers=[]) (hs:a.tmps.size=n) (hdst:∀d',o.dst=some d'→d'<n)
  (hsl:Slots φ s.h w S a s.f) (hr:(execOp a.eval o).run P w=.ok (.value v) w') (C:Chg κ φ S s.h w φ' S' (writes s.h x.w) (s.nxt+x.nx) w') (hv:RepA φ' (writes s.h x.w) w' S' x.v v):Does P κ n a w o s x:=
 ⟨_,v,w',hr,.inl rfl,Conc.put hd hs hdst hsl C hv⟩
theorem Does.of_pure {o:Oper} {y:AV} {v:Value} {φ:Inj} {S:Addr→Prop} (hd:a.defers=[]) (hs:a.tmps.size=n) (hdst:∀d',o.dst=some d'→d'<n)
  (M:Mem κ φ S s.h s.nxt w) (hsl:Slots φ s.h w S a s.f) (hr:(execOp a.eval o).run P w=.ok (.value v) w) (hv:RepA φ s.h w S y v):Does P κ n a w o s {v:=y}:=
 Does.of_value hd hs hdst hsl hr (Chg.refl M) hv
theorem tiOf_info {t:TypeId} (h:(tiOf P t).d≠.invalid):P.underlying t=some (tiOf P t).d∧∃i,P.info? t=some i∧i.size=(tiOf P t).size∧i.bytes=(tiOf P t).bytes∧
  ((i.zero.map fun v=>v.cells.toList).getD []=(tiOf P t).zero):=by
 unfold tiOf at*
 split at h
 ·exact absurd rfl h
 ·rename_i i d hn h1 h2
  exact⟨h2,i,h1,rfl,rfl,rfl⟩
 ·exact absurd rfl h
theorem tiOf_size {t:TypeId} (h:(tiOf P t).size≠0):(tiOf P t).d≠.invalid:=by
 intro e
 unfold tiOf at*
 split at h
 ·exact absurd rfl h
 ·rename_i i d hn h1 h2
  simp only[h1,h2]at e
  exact hn e
 ·exact absurd rfl h
theorem repT_int {O:Nat→Option Nat} {S:Addr→Prop} {k:IntKind} {m:Int} {v:Value} (h:RepT O w S (.int k m) v):v=.int k m:=by cases h;rfl
theorem repT_bool {O:Nat→Option Nat} {S:Addr→Prop} {b:Bool} {v:Value} (h:RepT O w S (.bool b) v):v=.bool b:=by cases h;rfl
theorem repA_int {φ:Inj} {H:Heap} {S:Addr→Prop} {k:IntKind} {m:Int} {v:Value} (h:RepA φ H w S (.t (.int k m)) v):v=.int k m:=by cases h with|t _ _ h=>exact repT_int h
theorem repA_bool {φ:Inj} {H:Heap} {S:Addr→Prop} {b:Bool} {v:Value} (h:RepA φ H w S (.t (.bool b)) v):v=.bool b:=by cases h with|t _ _ h=>exact repT_bool h
theorem repA_str {φ:Inj} {H:Heap} {S:Addr→Prop} {l:List UInt8} {v:Value} (h:RepA φ H w S (.t (.str l)) v):∃s:ByteArray,v=.string s∧s.data.toList=l:=by
 cases h with|t _ _ h=>cases h with|str _ s h=>exact⟨s,rfl,h⟩
theorem repA_nofn {φ:Inj} {H:Heap} {S:Addr→Prop} {v:Value} (h:RepA φ H w S (.t .nofn) v):v=.nilFunc:=by cases h with|t _ _ h=>cases h;rfl
theorem repA_fn {φ:Inj} {H:Heap} {S:Addr→Prop} {g:FuncId} {cs:List T} {v:Value} (h:RepA φ H w S (.t (.fn g cs)) v):∃vs,v=.func (.func g) #[] vs:=by cases h with|t _ _ h=>cases h;exact⟨_,rfl⟩
theorem repA_nilp {φ:Inj} {H:Heap} {S:Addr→Prop} {v:Value} (h:RepA φ H w S (.t .nilp) v):v=.pointer none:=by cases h with|t _ _ h=>cases h;rfl
theorem repA_ptr {φ:Inj} {H:Heap} {S:Addr→Prop} {id:Nat} {v:Value} (h:RepA φ H w S (.t (.ptr id)) v):∃b,φ (.obj id)=some b∧v=.pointer (some ⟨b,0,none⟩):=by
 cases h with|t _ _ h=>cases h with|ptr _ b h=>exact⟨b,h,rfl⟩
theorem repA_bp {φ:Inj} {H:Heap} {S:Addr→Prop} {l:Lab} {j:Nat} {v:Value} (h:RepA φ H w S (.bp l j) v):∃b cs,H l=some (.box cs)∧φ l=some b∧v=.pointer (some ⟨b,j,none⟩):=by
 cases h with|bp _ _ b cs h1 h2=>exact⟨b,cs,h1,h2,rfl⟩
theorem intOf_some {y:AV} {i:Int} (h:intOf y=some i):∃k,y=.t (.int k i):=by
 cases y with
 |t t=>cases t<;>first|(simp[intOf]at h;done)|(simp[intOf]at h;subst h;exact⟨_,rfl⟩)
 |_=>simp[intOf]at h
theorem do_move {o:Oper} {x:Operand} (ho:o.op=.move x∨o.op=.assign x) (hc:Conc κ n s a w) (hdst:∀d',o.dst=some d'→d'<n):Does P κ n a w o s {v:=evA s.f x}:=by
 obtain⟨hd,hs,φ,S,M,hsl⟩:=hc
 refine Does.of_pure (v:=a.eval x) hd hs hdst M hsl ?_ (evA_rep hsl x)
 unfold execOp
 rcases ho with ho|ho<;>rw[ho]<;>rfl
theorem do_pick {o:Oper} {c x y:Operand} {b:Bool} (ho:o.op=.pick c x y) (hc:Conc κ n s a w) (hdst:∀d',o.dst=some d'→d'<n) (hb:evA s.f c=.t (.bool b)):
  Does P κ n a w o s {v:=selA b (evA s.f x) (evA s.f y)}:=by
 obtain⟨hd,hs,φ,S,M,hsl⟩:=hc
 have h:=evA_rep hsl c
 rw[hb]at h
 have h:=repA_bool h
 refine Does.of_pure (v:=if b then a.eval x else a.eval y) hd hs hdst M hsl ?_ ?_
 ·unfold execOp;rw[ho];simp[h,asBool]
 ·cases b
  ·exact evA_rep hsl y
  ·exact evA_rep hsl x
theorem run_intBin {op:BinOp} {k:IntKind} {x y:Int} {t:T} (h:intBin op k x y=some t) (xt:TypeId):∃v,(binOp op xt (.int k x) (.int k y)).run P w=.ok v w∧∀O S,RepT O w S t v:=by
 cases op<;>simp only[intBin]at h
 case quo=>
  split at h
  ·cases h
  ·rename_i hy;cases h;exact⟨_,by rw[binOp_quo];simp[Op.intDiv,hy],fun _ _=>.int _ _⟩
 case rem=>
  split at h
  ·cases h
  ·rename_i hy;cases h;exact⟨_,by rw[binOp_rem];simp[Op.intDiv,hy],fun _ _=>.int _ _⟩
 case add=>cases h;exact⟨_,by rw[binOp_add];rfl,fun _ _=>.int _ _⟩
 case sub=>cases h;exact⟨_,by rw[binOp_sub];rfl,fun _ _=>.int _ _⟩
 case mul=>cases h;exact⟨_,by rw[binOp_mul];rfl,fun _ _=>.int _ _⟩
 case and=>cases h;exact⟨_,by rw[binOp_and];rfl,fun _ _=>.int _ _⟩
 case or=>cases h;exact⟨_,by rw[binOp_or];rfl,fun _ _=>.int _ _⟩
 case xor=>cases h;exact⟨_,by rw[binOp_xor];rfl,fun _ _=>.int _ _⟩
 case andNot=>cases h;exact⟨_,by rw[binOp_andNot];rfl,fun _ _=>.int _ _⟩
 case eql=>cases h;exact⟨.bool (decide (x=y)),by rw[binOp_eql];rfl,fun _ _=>.bool _⟩
 case neq=>cases h;exact⟨.bool (decide (x≠y)),by rw[binOp_neq];simp only[Sem.run_pure];congr 2;rw[Bool.eq_iff_iff];simp,fun _ _=>.bool _⟩
 case lss=>cases h;exact⟨_,by rw[binOp_lss];rfl,fun _ _=>.bool _⟩
 case leq=>cases h;exact⟨_,by rw[binOp_leq];rfl,fun _ _=>.bool _⟩
 case gtr=>cases h;exact⟨_,by rw[binOp_gtr];rfl,fun _ _=>.bool _⟩
 case geq=>cases h;exact⟨_,by rw[binOp_geq];rfl,fun _ _=>.bool _⟩
 all_goals cases h
theorem run_shiftA {op:BinOp} {k k':IntKind} {x y:Int} {t:T} (h:shiftA op k x y=some t) (xt:TypeId):∃v,(binOp op xt (.int k x) (.int k' y)).run P w=.ok v w∧∀O S,RepT O w S t v:=by
 unfold shiftA at h
 split at h
 ·cases h
 ·rename_i hy
  cases op<;>simp only at h
  case shl=>cases h;exact⟨_,by rw[binOp_shl];simp only[Op.shift,if_neg hy];rfl,fun _ _=>.int _ _⟩
  case shr=>cases h;exact⟨_,by rw[binOp_shr];simp only[Op.shift,if_neg hy];rfl,fun _ _=>.int _ _⟩
  all_goals cases h
theorem run_strBin {op:BinOp} {x y:ByteArray} {t:T} (h:strBin op x.data.toList y.data.toList=some t) (xt:TypeId):∃v,(binOp op xt (.string x) (.string y)).run P w=.ok v w∧∀O S,RepT O w S t v:=by
 cases op<;>simp only[strBin]at h
 case add=>
  split at h
  ·rename_i hl
   cases h
   refine⟨.string (x++y),?_,fun _ _=>.str _ _ (by simp)⟩
   have hs:¬((x.size+y.size:Nat):Int)>IntKind.i64.max:=by
    have:IntKind.i64.max=9223372036854775807:=by decide
    have e1:x.data.toList.length=x.size:=by simp
    have e2:y.data.toList.length=y.size:=by simp
    rw[this];omega
   simp only[binOp,Op.stringOp,hs,if_false,Sem.run_pure]
  ·cases h
 case eql=>cases h;exact⟨.bool (decide (x.data.toList=y.data.toList)),by simp only[binOp,Op.stringOp,ByteArray.toList_eq,Sem.run_pure];congr 2;rw[Bool.eq_iff_iff];simp,fun _ _=>.bool _⟩
 case neq=>cases h;exact⟨.bool (decide (x.data.toList≠y.data.toList)),by simp only[binOp,Op.stringOp,ByteArray.toList_eq,Sem.run_pure];congr 2;rw[Bool.eq_iff_iff];simp,fun _ _=>.bool _⟩
 all_goals cases h
theorem run_eql_ptr_nil {xt e:TypeId} (hu:P.underlying xt=some (.pointer e)) (ad:Option Addr) (op:BinOp) (t:T) (h:nilBin op ad.isNone=some t):
  ∃v,(binOp op xt (.pointer ad) (.pointer none)).run P w=.ok v w∧∀O S,RepT O w S t v:=by
 have he:(Op.equal xt (.pointer ad) (.pointer none)).run P w=.ok ad.isNone w:=by
  rw[Op.equal,show Op.maxDepth=9999+1 from rfl,Op.equalIn]
  cases ad<;>simp only[Sem.run_bind,run_underlying hu,Result.andThen_ok,Sem.run_pure]<;>rfl
 cases op<;>simp only[nilBin]at h
 case eql=>cases h;exact⟨.bool ad.isNone,by simp[binOp,he],fun _ _=>.bool _⟩
 case neq=>cases h;exact⟨.bool !ad.isNone,by simp[binOp,he],fun _ _=>.bool _⟩
 all_goals cases h
theorem run_eql_fn {xt:TypeId} {ps rs:Array TypeId} {vd:Bool} (hu:P.underlying xt=some (.func ps rs vd)) {u:Value} {b:Bool} (hb:u=.nilFunc∧b=true∨(∃f x y,u=.func f x y)∧b=false) (op:BinOp) (t:T) (h:nilBin op b=some t):
  ∃v,(binOp op xt u .nilFunc).run P w=.ok v w∧∀O S,RepT O w S t v:=by
 have he:(Op.equal xt u .nilFunc).run P w=.ok b w:=by
  rw[Op.equal,show Op.maxDepth=9999+1 from rfl,Op.equalIn]
  rcases hb with ⟨rfl,rfl⟩|⟨⟨f,x,y,rfl⟩,rfl⟩<;>simp only[Sem.run_bind,run_underlying hu,Result.andThen_ok,Sem.run_pure]
 cases op<;>simp only[nilBin]at h
 case eql=>cases h;exact⟨.bool b,by simp[binOp,he],fun _ _=>.bool _⟩
 case neq=>cases h;exact⟨.bool !b,by simp[binOp,he],fun _ _=>.bool _⟩
 all_goals cases h
theorem run_eql_bool {xt:TypeId} (hu:P.underlying xt=some .bool) (x y:Bool) (op:BinOp) (t:T) (h:nilBin op (decide (x=y))=some t):
  ∃v,(binOp op xt (.bool x) (.bool y)).run P w=.ok v w∧∀O S,RepT O w S t v:=by
 have he:(Op.equal xt (.bool x) (.bool y)).run P w=.ok (decide (x=y)) w:=by
  rw[Op.equal,show Op.maxDepth=9999+1 from rfl,Op.equalIn]
  simp only[Sem.run_bind,run_underlying hu,Result.andThen_ok,Sem.run_pure]
  rfl
 cases op<;>simp only[nilBin]at h
 case eql=>cases h;exact⟨.bool (decide (x=y)),by simp only[binOp,Sem.run_bind,he,Result.andThen_ok,Sem.run_pure],fun _ _=>.bool _⟩
 case neq=>cases h;exact⟨.bool !(decide (x=y)),by simp only[binOp,Sem.run_bind,he,Result.andThen_ok,Sem.run_pure],fun _ _=>.bool _⟩
 all_goals cases h
theorem eqGuard_off {op:BinOp} {t:TypeId} {x y:Operand} {u v:Value} (h:∀t,binA op t=binA op t→True) (h1:u≠.nilIface) (h2:∀c,u≠.agg c):eqGuard op t x y u v=pure ():=by
 cases op<;>cases u<;>first|rfl|exact absurd rfl h1|exact absurd rfl (h2 _)
theorem run_binA {φ:Inj} {H:Heap} {S:Addr→Prop} {op:BinOp} {xt:TypeId} {x y:AV} {u v:Value} {t:T} (h:binA op (tiOf P xt) x y=some t) (hx:RepA φ H w S x u) (hy:RepA φ H w S y v):
  (u≠.nilIface∧∀c,u≠.agg c)∧∃r,(binOp op xt u v).run P w=.ok r w∧∀O S,RepT O w S t r:=by
 unfold binA at h
 split at h
 ·obtain rfl:=repA_int hx
  obtain rfl:=repA_int hy
  refine⟨⟨by simp,by simp⟩,?_⟩
  split at h
  ·exact run_shiftA h xt
  ·exact run_shiftA h xt
  ·split at h
   ·rename_i hk;subst hk;exact run_intBin h xt
   ·cases h
 ·obtain rfl:=repA_bool hx
  obtain rfl:=repA_bool hy
  refine⟨⟨by simp,by simp⟩,?_⟩
  split at h
  ·rename_i hd
   exact run_eql_bool (by rw[(tiOf_info (by rw[hd];simp)).1,hd]) _ _ _ _ h
  ·cases h
 ·obtain⟨s1,rfl,rfl⟩:=repA_str hx
  obtain⟨s2,rfl,rfl⟩:=repA_str hy
  exact⟨⟨by simp,by simp⟩,run_strBin h xt⟩
 ·obtain⟨b,cs,_,_,rfl⟩:=repA_bp hx
  obtain rfl:=repA_nilp hy
  refine⟨⟨by simp,by simp⟩,?_⟩
  split at h
  ·rename_i hd
   exact run_eql_ptr_nil (by rw[(tiOf_info (by rw[hd];simp)).1,hd]) _ _ _ h
  ·cases h
 ·obtain⟨b,_,rfl⟩:=repA_ptr hx
  obtain rfl:=repA_nilp hy
  refine⟨⟨by simp,by simp⟩,?_⟩
  split at h
  ·rename_i hd
   exact run_eql_ptr_nil (by rw[(tiOf_info (by rw[hd];simp)).1,hd]) _ _ _ h
  ·cases h
 ·obtain rfl:=repA_nilp hx
  obtain rfl:=repA_nilp hy
  refine⟨⟨by simp,by simp⟩,?_⟩
  split at h
  ·rename_i hd
   exact run_eql_ptr_nil (by rw[(tiOf_info (by rw[hd];simp)).1,hd]) _ _ _ h
  ·cases h
 ·obtain⟨vs,rfl⟩:=repA_fn hx
  obtain rfl:=repA_nofn hy
  refine⟨⟨by simp,by simp⟩,?_⟩
  split at h
  ·rename_i hd
   exact run_eql_fn (by rw[(tiOf_info (by rw[hd];simp)).1,hd]) (.inr ⟨⟨_,_,_,rfl⟩,rfl⟩) _ _ h
  ·cases h
 ·obtain rfl:=repA_nofn hx
  obtain rfl:=repA_nofn hy
  refine⟨⟨by simp,by simp⟩,?_⟩
  split at h
  ·rename_i hd
   exact run_eql_fn (by rw[(tiOf_info (by rw[hd];simp)).1,hd]) (.inl ⟨rfl,rfl⟩) _ _ h
  ·cases h
 ·cases h
theorem intsK_get {k:IntKind}:∀{cs:List AV} {l:List Int},intsK k cs=some l→cs=l.map fun n=>.t (.int k n)
 |[],l,h=>by simp[intsK]at h;subst h;rfl
 | c :: r, l, h => by
   unfold intsK at h
   split at h
   ·rename_i h0;cases h0
   ·rename_i k' n r' hc
    cases hc
    split at h
    ·rename_i hk
     subst hk
     rw[Option.map_eq_some_iff]at h
     obtain⟨l',h1,rfl⟩:=h
     rw[intsK_get h1];rfl
    ·cases h
   ·cases h
theorem ints_rep {φ:Inj} {H:Heap} {S:Addr→Prop} {k:IntKind} {x:AV} {l:List Int} {u:Value} (hg:isAggA x=true) (hi:intsK k (cellsA x)=some l) (hx:RepA φ H w S x u):
  ∃us:Array Value,u=.agg us∧us.size=l.length∧∀(i:Nat) (n:Int),l[i]?=some n→us[i]?=some (.int k n):=by
 have hc:=intsK_get hi
 cases hx with
 | agg cs us hn hsc hr =>
   have hc:cs=l.map fun n=>.t (.int k n):=hc
   subst hc
   refine⟨us,rfl,by simpa using hn,fun i n hl=> ?_⟩
   have hlt:=(List.getElem?_eq_some_iff.1 hl).1
   obtain⟨v,hv⟩:∃v,us[i]?=some v:=⟨_,Array.getElem?_eq_getElem (by simp at hn;omega)⟩
   have:=hr i _ v (by rw[List.getElem?_map,hl];rfl) hv
   rw[hv,repA_int this]
 | t t u h =>
   cases h with
   | agg cs us hn hsc hr =>
     have hc:cs.map AV.t=l.map fun n=>.t (.int k n):=hc
     have hc:cs=l.map fun n=>.int k n:=by
      have e:(l.map fun n=>AV.t (.int k n))=(l.map fun n=>T.int k n).map AV.t:=by rw[List.map_map];rfl
      rw[e]at hc
      exact(List.map_inj_right fun _ _ h=>by injection h).1 hc
     subst hc
     refine⟨us,rfl,by simpa using hn,fun i n hl=> ?_⟩
     have hlt:=(List.getElem?_eq_some_iff.1 hl).1
     obtain⟨v,hv⟩:∃v,us[i]?=some v:=⟨_,Array.getElem?_eq_getElem (by simp at hn;omega)⟩
     have:=hr i _ v (by rw[List.getElem?_map,hl];rfl) hv
     rw[hv,repT_int this]
   |_=>cases hg
 |_=>cases hg
theorem run_eqItems_ints (d:Nat) {e:TypeId} {k q:IntKind} (hu:P.underlying e=some (.int q)) (xs ys:Array Value):∀(is:List Nat),(∀i∈is,∃a b:Int,xs[i]?=some (.int k a)∧ys[i]?=some (.int k b))→
  ∃r:Bool,(Op.eqItems (d+1) e 1 xs ys is).run P w=.ok r w∧(r=true↔∀i∈is,xs[i]?=ys[i]?)
 |[],_=>⟨true,by simp[Op.eqItems],by simp⟩
 | i :: is, h => by
   obtain⟨a,b,ha,hb⟩:=h i (by simp)
   obtain⟨r,hr,hiff⟩:=run_eqItems_ints d hu xs ys is fun j hj=>h j (by simp[hj])
   have hp:P.plainKey e=true:=by simp[Program.plainKey,hu]
   simp only[Op.eqItems,Nat.mul_one,Sem.run_bind,run_part_plain w hp ha,run_part_plain w hp hb,Result.andThen_ok,run_equalIn_int w d e k q a b hu]
   by_cases hab:a=b
   ·subst hab
    refine⟨r,by simpa using hr,?_⟩
    rw[hiff]
    simp[ha,hb]
   ·refine⟨false,by simp[hab],?_⟩
    simp only[Bool.false_eq_true,false_iff]
    intro hh
    have:=hh i (by simp)
    rw[ha,hb]at this
    simp at this
    exact hab this
theorem run_binB {φ : Inj} {H : Heap} {S : Addr → Prop} {op : BinOp} {xt : TypeId} {X Y : Operand} {x y : AV} {u v : Value} {t : T} (h : binB (tiOf P) op xt x y = some t) (hx : RepA φ H w S x u) (hy : RepA φ H w S y v) :
  (eqGuard op xt X Y u v).run P w=.ok () w∧∃r,(binOp op xt u v).run P w=.ok r w∧∀O S,RepT O w S t r:=by
 unfold binB at h
 split at h
 ·rename_i hg
  simp only[Bool.and_eq_true]at hg
  unfold aggB at h
  split at h
  ·rename_i n e hd
   split at h
   ·rename_i k hk
    split at h
    ·rename_i hc
     obtain⟨hcmp,hsz⟩:=hc
     split at h
     ·rename_i l m hl hm
      split at h
      ·rename_i hlen
       obtain⟨us,rfl,hus,hug⟩:=ints_rep hg.1 hl hx
       obtain⟨vs,rfl,hvs,hvg⟩:=ints_rep hg.2 hm hy
       have hu:=(tiOf_info (P:=P) (t:=xt) (by rw[hd];simp)).1
       rw[hd]at hu
       obtain⟨hue,i,hi,hisz,_⟩:=tiOf_info (P:=P) (t:=e) (by rw[hk];simp)
       rw[hk]at hue
       have hcl:P.cellsOf e=1:=by unfold Program.cellsOf;rw[hi];simpa [hsz] using hisz
       have hgt:P.eqGuardType P.depth xt=false:=by
        have:(tiOf P xt).cmp= !P.eqGuardType P.depth xt:=by
         have hne:(tiOf P xt).d≠.invalid:=by rw[hd];simp
         unfold tiOf at hne⊢
         split<;>first|rfl|(rename_i hh;simp_all)
        rw[hcmp]at this
        simpa using this.symm
       obtain⟨r,hr,hiff⟩:=run_eqItems_ints (w:=w) 9998 hue us vs (k:=k) (List.range n) fun i hi=>by
        have hi:=List.mem_range.1 hi
        exact⟨l[i]'(by omega),m[i]'(by omega),hug i _ (List.getElem?_eq_getElem _),hvg i _ (List.getElem?_eq_getElem _)⟩
       have hrb:r=decide (l=m):=by
        rw[Bool.eq_iff_iff,hiff,decide_eq_true_iff]
        constructor
        ·intro hh
         apply List.ext_getElem?
         intro i
         rcases Nat.lt_or_ge i n with g|g
         ·have:=hh i (List.mem_range.2 g)
          rw[hug i _ (List.getElem?_eq_getElem (by omega)),hvg i _ (List.getElem?_eq_getElem (by omega))]at this
          simp at this
          rw[List.getElem?_eq_getElem (by omega),List.getElem?_eq_getElem (by omega),this]
         ·rw[List.getElem?_eq_none (by omega),List.getElem?_eq_none (by omega)]
        ·intro hh i hi
         have hi:=List.mem_range.1 hi
         subst hh
         rw[hug i _ (List.getElem?_eq_getElem (by omega)),hvg i _ (List.getElem?_eq_getElem (by omega))]
       subst hrb
       have heq:(Op.equalIn 10000 xt (.agg us) (.agg vs)).run P w=.ok (decide (l=m)) w:=by
        rw[show(10000:Nat)=9999+1 from rfl,run_equalIn_array w 9999 us vs hu hi,hcl];exact hr
       refine⟨run_eqGuard_agg w op xt X Y us vs hgt,?_⟩
       cases op<;>simp only[nilBin]at h
       case eql=>cases h;exact⟨.bool (decide (l=m)),by rw[run_eql_struct,heq];rfl,fun _ _=>.bool _⟩
       case neq=>cases h;exact⟨.bool !(decide (l=m)),by rw[run_neq_struct,heq];rfl,fun _ _=>.bool _⟩
       all_goals cases h
      ·cases h
     ·cases h
    ·cases h
   ·cases h
  ·cases h
 ·obtain⟨⟨h1,h2⟩,r,hr,ht⟩:=run_binA h hx hy
  exact⟨by rw[eqGuard_off (fun _ _=>trivial) h1 h2];rfl,r,hr,ht⟩
theorem do_binOp {o:Oper} {op:BinOp} {xt yt:TypeId} {x y:Operand} {t:T} (ho:o.op=.binOp op xt x y yt) (hc:Conc κ n s a w) (hdst:∀d',o.dst=some d'→d'<n)
  (h:binB (tiOf P) op xt (evA s.f x) (evA s.f y)=some t):Does P κ n a w o s {v:=.t t}:=by
 obtain⟨hd,hs,φ,S,M,hsl⟩:=hc
 obtain⟨h1,r,hr,ht⟩:=run_binB (X:=x) (Y:=y) h (evA_rep hsl x) (evA_rep hsl y)
 refine Does.of_pure (v:=r) hd hs hdst M hsl ?_ (.t _ _ (ht _ _))
 unfold execOp;rw[ho]
 simp only[h1,Sem.run_bind,Sem.run_pure,Result.andThen_ok,hr]
theorem do_unOp {o:Oper} {op:UnOp} {xt:TypeId} {x:Operand} {t:T} (ho:o.op=.unOp op xt x) (hc:Conc κ n s a w) (hdst:∀d',o.dst=some d'→d'<n)
  (h:(∃b,op=.not∧evA s.f x=.t (.bool b)∧t=.bool !b)∨(∃k m,op=.neg∧evA s.f x=.t (.int k m)∧t=.int k (k.wrap (0-m)))∨
    (∃k m,op=.xor∧evA s.f x=.t (.int k m)∧intBin .xor k (if k.signed then-1 else k.max) m=some t)):Does P κ n a w o s {v:=.t t}:=by
 obtain⟨hd,hs,φ,S,M,hsl⟩:=hc
 have hx:=evA_rep hsl x
 rcases h with ⟨b,rfl,hb,rfl⟩|⟨k,m,rfl,hb,rfl⟩|⟨k,m,rfl,hb,h⟩<;>rw[hb]at hx
 ·have hx:=repA_bool hx
  refine Does.of_pure (v:=.bool !b) hd hs hdst M hsl ?_ (.t _ _ (.bool _))
  unfold execOp;rw[ho];simp[hx,Op.unary]
 ·have hx:=repA_int hx
  refine Does.of_pure (v:=.int k (k.wrap (0-m))) hd hs hdst M hsl ?_ (.t _ _ (.int _ _))
  unfold execOp;rw[ho];simp[hx,Op.unary,Op.intArith]
 ·have hx:=repA_int hx
  simp only[intBin,Option.some.injEq]at h
  subst h
  refine Does.of_pure (v:=.int k _) hd hs hdst M hsl ?_ (.t _ _ (.int _ _))
  unfold execOp;rw[ho]
  simp only[hx,Op.unary,Op.intBits,Sem.run_bind,Sem.run_pure,Result.andThen_ok]
theorem do_nilCheck {o:Oper} {x:Operand} {y:AV} (ho:o.op=.nilCheck x) (hc:Conc κ n s a w) (hdst:∀d',o.dst=some d'→d'<n)
  (h:(∃l j,evA s.f x=.bp l j∧y=.bp l j)∨(∃cs,evA s.f x=.tp cs∧y=.tp cs)∨(∃id cs,evA s.f x=.t (.ptr id)∧s.h (.obj id)=some (.box cs)∧y=.bp (.obj id) 0)):Does P κ n a w o s {v:=y}:=by
 obtain⟨hd,hs,φ,S,M,hsl⟩:=hc
 have hx:=evA_rep hsl x
 rcases h with ⟨l,j,hb,rfl⟩|⟨cs,hb,rfl⟩|⟨id,cs,hb,hl,rfl⟩<;>rw[hb]at hx
 ·have hx':=hx
  obtain⟨b,cs,h1,h2,h3⟩:=repA_bp hx
  refine Does.of_pure (v:=a.eval x) hd hs hdst M hsl ?_ hx'
  unfold execOp;rw[ho];simp[h3]
 ·have hx':=hx
  refine Does.of_pure (v:=a.eval x) hd hs hdst M hsl ?_ hx'
  obtain⟨ad,e⟩:∃ad,a.eval x=.pointer (some ad):=by
   generalize a.eval x=v at hx
   cases hx with
   |tp cs ad u ha hsc hc=>exact⟨ad,rfl⟩
  unfold execOp;rw[ho];simp[e]
 ·obtain⟨b,hb',h3⟩:=repA_ptr hx
  refine Does.of_pure (v:=a.eval x) hd hs hdst M hsl ?_ (by rw[h3];exact .bp _ _ b cs hl hb')
  unfold execOp;rw[ho];simp[h3]
end
section
variable {P:Program} {κ:Kap} {n:Nat} {a:Act} {w:World} {s:St}
theorem run_sizeOf' {t:TypeId} {i:TypeInfo} (h:P.info? t=some i) (w:World):(sizeOf t).run P w=.ok i.size w:=by
 simp[sizeOf,typeInfo,h]
theorem run_sizeOf_ti {t:TypeId} (h:(tiOf P t).d≠.invalid) (w:World):(sizeOf t).run P w=.ok (tiOf P t).size w:=by
 obtain⟨_,i,h1,h2,_⟩:=tiOf_info h
 rw[run_sizeOf' h1,h2]
theorem run_isAgg_ti {t:TypeId} (h:(tiOf P t).d≠.invalid) (w:World):(isAgg t).run P w=.ok (tiOf P t).isAgg w:=by
 have:=(tiOf_info h).1
 unfold isAgg TI.isAgg
 simp only[Sem.run_bind,run_underlying this,Result.andThen_ok]
 cases (tiOf P t).d<;>rfl
theorem addr_add (b o j:Nat):(⟨b,o,none⟩:Addr).add j=⟨b,o+j,none⟩:=Addr.add_lit b o j
theorem run_load_cell {ad:Addr} {v:Value} (h:w.cell? ad=some v):(load ad).run P w=.ok v w:=by
 simp[h]
theorem run_loadVar {t:TypeId} (hd:(tiOf P t).d≠.invalid) (b o:Nat) (vs:List Value) (hlen:vs.length=(tiOf P t).size) (hag:(tiOf P t).isAgg=false→(tiOf P t).size=1)
  (h:∀j v,vs[j]?=some v→w.cell? ⟨b,o+j,none⟩=some v):(loadVar t ⟨b,o,none⟩).run P w=.ok (if (tiOf P t).isAgg then .agg vs.toArray else vs.headD undef) w:=by
 unfold loadVar
 simp only[Sem.run_bind,run_isAgg_ti hd,Result.andThen_ok]
 cases hi:(tiOf P t).isAgg with
 | true =>
   simp only[if_true,Sem.run_bind,run_sizeOf_ti hd,Result.andThen_ok,Sem.run_pure]
   rw[←hlen,run_loadCells_list (P:=P) w ⟨b,o,none⟩ vs fun j v hj=>by rw[addr_add];exact h j v hj]
   rfl
 | false =>
   have:=hag hi
   rw[this]at hlen
   obtain⟨v,rfl⟩:=List.length_eq_one_iff.1 hlen
   simp only[Bool.false_eq_true,if_false,List.headD_cons]
   exact run_load_cell (by have:=h 0 v rfl;rwa [Nat.add_zero]at this)
theorem run_part {t:TypeId} (hd:(tiOf P t).d≠.invalid) (cs:Array Value) (off:Nat) (hag:(tiOf P t).isAgg=false→off<cs.size):
  (part t cs off).run P w=.ok (if (tiOf P t).isAgg then .agg (cs.extract off (off+(tiOf P t).size)) else cs.getD off undef) w:=by
 unfold part
 simp only[Sem.run_bind,run_isAgg_ti hd,Result.andThen_ok]
 cases hi:(tiOf P t).isAgg with
 |true=>simp only[if_true,Sem.run_bind,run_sizeOf_ti hd,Result.andThen_ok,Sem.run_pure]
 | false =>
   have:=hag hi
   simp[this]
theorem cutT_rep {O:Nat→Option Nat} {S:Addr→Prop} {ti:TI} {cs:List T} {j:Nat} {t:T} (h:cutT ti cs j=some t) (hsc:∀c∈cs,c.scal) (u:Nat→Value) (hu:∀k c,cs[k]?=some c→RepT O w S c (u k)):
  j+ti.size≤cs.length∧ti.size≠0∧(ti.isAgg=false→ti.size=1)∧RepT O w S t (if ti.isAgg then .agg ((List.range ti.size).map fun k=>u (j+k)).toArray else u j):=by
 unfold cutT at h
 split at h
 ·rename_i hi
  split at h
  ·rename_i hl
   cases h
   refine⟨hl.1,hl.2,fun e=>(by simp[hi]at e),?_⟩
   rw[if_pos hi]
   refine .agg _ _ (by simp;omega) (fun c hc=>hsc c (List.mem_of_mem_drop (List.mem_of_mem_take hc))) fun k c v hk hv=> ?_
   rw[List.getElem?_take]at hk
   split at hk
   ·rename_i hlt
    rw[List.getElem?_drop]at hk
    have:v=u (j+k):=by simp[hlt]at hv;exact hv.symm
    subst this
    exact hu _ _ hk
   ·cases hk
  ·cases h
 ·rename_i hi
  split at h
  ·rename_i h1
   have hlt:=(List.getElem?_eq_some_iff.1 h).1
   refine⟨by omega,by omega,fun _=>h1,?_⟩
   rw[if_neg hi]
   exact hu _ _ h
  ·cases h
theorem cutA_rep {φ:Inj} {H:Heap} {S:Addr→Prop} {ti:TI} {cs:List AV} {j:Nat} {x:AV} (h:cutA ti cs j=some x) (vs:Array Value) (hn:vs.size=cs.length) (hsc:∀v∈vs,v.scal)
  (hu:∀(k:Nat) (c:AV) (v:Value),cs[k]?=some c→vs[k]?=some v→RepA φ H w S c v):
  j+ti.size≤cs.length∧ti.size≠0∧(ti.isAgg=false→ti.size=1)∧RepA φ H w S x (if ti.isAgg then .agg (vs.extract j (j+ti.size)) else vs.getD j undef):=by
 unfold cutA at h
 split at h
 ·rename_i hi
  split at h
  ·rename_i hl
   cases h
   refine⟨hl.1,hl.2,fun e=>(by simp[hi]at e),?_⟩
   rw[if_pos hi]
   refine .agg _ _ (by simp;omega) (fun v hv=> ?_) fun k c v hk hv=> ?_
   ·obtain⟨k,hk,rfl⟩:=Array.mem_iff_getElem.1 hv
    simp only[Array.getElem_extract]
    exact hsc _ (Array.getElem_mem _)
   ·rw[List.getElem?_take]at hk
    split at hk
    ·rename_i hlt
     rw[List.getElem?_drop]at hk
     rw[Array.getElem?_extract]at hv
     split at hv
     ·exact hu _ _ _ hk hv
     ·cases hv
    ·cases hk
  ·cases h
 ·rename_i hi
  split at h
  ·rename_i h1
   have hlt:=(List.getElem?_eq_some_iff.1 h).1
   refine⟨by omega,by omega,fun _=>h1,?_⟩
   rw[if_neg hi]
   exact hu _ _ _ h (by simp[show j<vs.size by omega])
  ·cases h
theorem Rd.run_ofOpt_some {α:Type} {o:Option α} {h:Heap} {x:α} {acc:List Lab} (e:(Rd.ofOpt o).run h=some (x,acc)):o=some x∧acc=[]:=by
 cases o with
 |none=>simp[Rd.ofOpt,Rd.run]at e
 |some y=>simp[Rd.ofOpt,Rd.run]at e;exact⟨by rw[e.1],e.2⟩
theorem run_loadAt_cells {t:TypeId} {ad:Addr} {u:Nat→Value} (hsp:ad.spot=none) (hsz:(tiOf P t).size≠0) (hag:(tiOf P t).isAgg=false→(tiOf P t).size=1)
  (h:∀j,j<(tiOf P t).size→w.cell? ⟨ad.block,ad.off+j,none⟩=some (u j)):
  (Instr.loadAt t (.pointer (some ad))).run P w=.ok (if (tiOf P t).isAgg then .agg ((List.range (tiOf P t).size).map u).toArray else u 0) w:=by
 obtain⟨b,o,sp⟩:=ad
 simp only at hsp
 subst hsp
 have hr:=run_loadVar (w:=w) (tiOf_size hsz) b o ((List.range (tiOf P t).size).map u) (by simp) hag (fun j v hj=>by
   rw[List.getElem?_map]at hj
   by_cases hlt:j<(tiOf P t).size
   · rw [List.getElem?_range hlt] at hj
     cases hj
     exact h j hlt
   ·rw[List.getElem?_eq_none (by simpa using hlt)]at hj;cases hj)
 unfold Instr.loadAt Instr.sureAddr
 simp only[Sem.run_bind,Sem.run_pure,Result.andThen_ok,hr]
 congr 1
 cases hi:(tiOf P t).isAgg with
 |true=>rfl
 |false=>rw[hag hi];rfl
theorem do_load {o : Oper} {t : TypeId} {x : Operand} {y : AV} {acc : List Lab} (ho : o.op = .load t x) (hc : Conc κ n s a w) (hdst : ∀ d', o.dst = some d' → d' < n)
  (h:(loadA (tiOf P t) (evA s.f x)).run s.h=some (y,acc)):Does P κ n a w o s {v:=y}:=by
 obtain⟨hd,hs,φ,S,M,hsl⟩:=hc
 have hx:=evA_rep hsl x
 have fin:∀v,(Instr.loadAt t (a.eval x)).run P w=.ok v w→RepA φ s.h w S y v→Does P κ n a w o s {v:=y}:=fun v hr hv=>by
  refine Does.of_pure (v:=v) hd hs hdst M hsl ?_ hv
  unfold execOp;rw[ho];simp[hr]
 have box : ∀ l j cs b, s.h l = some (.box cs) → φ l = some b → a.eval x = .pointer (some ⟨b, j, none⟩) → cutA (tiOf P t) cs j = some y → Does P κ n a w o s { v := y } := by
  intro l j cs b hl hb hv hcut
  obtain⟨b',vs,ty,h1,h2,h3,h4,_,h5⟩:=M.objs l _ hl
  rw[hb]at h1
  cases h1
  obtain⟨g1,g2,g3,g4⟩:=cutA_rep hcut vs h3 h4 h5
  have hr:=run_loadAt_cells (P:=P) (w:=w) (t:=t) (ad:=⟨b,j,none⟩) (u:=fun k=>vs.getD (j+k) undef) rfl g2 g3 (fun k hk=>by
    rw[cell?_eq h2]
    simp[show j+k<vs.size by omega])
  refine fin _ (by rw[hv];exact hr) ?_
  cases hi:(tiOf P t).isAgg with
  | true =>
    rw[hi]at g4
    simp only[if_true]at g4⊢
    have e:((List.range (tiOf P t).size).map fun k=>vs.getD (j+k) undef).toArray=vs.extract j (j+(tiOf P t).size):=by
     apply Array.ext
     ·simp;omega
     ·intro k h1 h2
      simp at h1⊢
      rw[Array.getElem?_eq_getElem (by omega)]
      rfl
    rw[e];exact g4
  | false =>
    rw[hi]at g4
    simpa using g4
 generalize hy:evA s.f x=z at hx h
 generalize hv0:a.eval x=v0 at hx
 cases hx with
 | tp cs ad u ha hsc hc =>
   have h1:=(Rd.run_ofOpt_some h).1
   rw[Option.map_eq_some_iff]at h1
   obtain⟨t',h2,rfl⟩:=h1
   obtain⟨g1,g2,g3,g4⟩:=cutT_rep (O:=φ.objs) (S:=S) (w:=w) h2 hsc u (fun k c hk=>(hc k c hk).2.2)
   refine fin _ ((congrArg (fun v=>(Instr.loadAt t v).run P w) hv0).trans (run_loadAt_cells (P:=P) (w:=w) (t:=t) (ad:=ad) (u:=fun k=>u (0+k)) ha g2 g3 fun k hk=> ?_)) (.t _ _ ?_)
   ·have hlt:k<cs.length:=by omega
    rw[Nat.zero_add]
    exact(hc k _ (List.getElem?_eq_getElem hlt)).1
   ·simpa using g4
 | t t0 v h0 =>
   cases t0 with
   | ptr id =>
     cases h0 with
     | ptr _ b hb =>
       obtain⟨acc',h,_⟩:=Rd.run_ask_some h
       split at h
       ·rename_i cs hl
        exact box _ 0 cs b hl hb (by assumption) (Rd.run_ofOpt_some h).1
       ·exact(Rd.run_fail_some h).elim
   |_=>exact(Rd.run_fail_some h).elim
 | ep l ver i j v o' hl hv' hh =>
   obtain⟨acc',h,_⟩:=Rd.run_ask_some h
   rw[hl]at h
   cases o' with
   |box=>exact(Rd.run_fail_some h).elim
   |map=>exact(Rd.run_fail_some h).elim
   |dead=>exact(Rd.run_fail_some h).elim
   | arr size es v' frz =>
     simp only at h
     split at h
     ·rename_i hv
      split at h
      ·rename_i e he
       have h1:=(Rd.run_ofOpt_some h).1
       rw[Option.map_eq_some_iff]at h1
       obtain⟨t',h2,rfl⟩:=h1
       obtain⟨q1,b,hb,rfl⟩:=(hh _ _ _ _ rfl).2 hv
       obtain⟨o1,o2,o3,o4,o5,o6⟩:=M.objs l _ hl
       obtain⟨cs,ty,g1,g2,g3,g4⟩:=o6 b hb
       have hem:=List.mem_of_getElem? he
       obtain⟨k1,k2,k3,k4⟩:=cutT_rep (O:=φ.objs) (S:=S) (w:=w) h2 (o3 e hem) (fun k=>cs.getD (i*size+k) undef) (fun k c hk=>by
         obtain⟨u,m1,m2⟩:=g3 i k e c he hk
         simpa [m1] using m2)
       refine fin _ ((congrArg (fun v=>(Instr.loadAt t v).run P w) hv0).trans (run_loadAt_cells (P:=P) (w:=w) (t:=t) (ad:=⟨b,i*size+j,none⟩) (u:=fun k=>cs.getD (i*size+(j+k)) undef) rfl k2 k3 fun k hk=> ?_)) (.t _ _ ?_)
       ·have hlt:j+k<e.cells.length:=by omega
        obtain⟨u,m1,m2⟩:=g3 i (j+k) e _ he (List.getElem?_eq_getElem hlt)
        rw[cell?_eq g1,Nat.add_assoc,m1]
        simp[m1]
       ·simpa using k4
      ·exact(Rd.run_fail_some h).elim
     ·exact(Rd.run_fail_some h).elim
 | bp l j b cs hl hb =>
   obtain⟨acc',h,_⟩:=Rd.run_ask_some h
   rw[hl]at h
   exact box l j cs b hl hb (by assumption) (Rd.run_ofOpt_some h).1
 |_=>exact(Rd.run_fail_some h).elim
end
section
variable {P:Program} {κ:Kap} {n:Nat} {a:Act} {w:World} {s:St}
theorem run_fieldAt {t:TypeId} {fs:Array Field} {f:Field} {i:Nat} (hd:(tiOf P t).d=.struct fs) (hf:fs.toList[i]?=some f) (hsz:(tiOf P f.type).size≠0) (ad:Addr) (hsp:ad.spot=none):
  (Instr.fieldAt t (.pointer (some ad)) i).run P w=.ok (.pointer (some ⟨ad.block,ad.off+f.offset,none⟩)) w:=by
 have hu:=(tiOf_info (P:=P) (t:=t) (by rw[hd];simp)).1
 rw[hd]at hu
 have hf':fs[i]?=some f:=by simpa using hf
 obtain⟨b,o,sp⟩:=ad
 simp only at hsp
 subst hsp
 unfold Instr.fieldAt
 simp only[Sem.run_bind,run_underlying hu,Result.andThen_ok,hf',Instr.sureAddr,Sem.run_pure,fieldPlace,run_sizeOf_ti (tiOf_size hsz),hsz,if_false,addr_add]
theorem do_fieldAddr {o:Oper} {t:TypeId} {x:Operand} {i:Nat} {fs:Array Field} {f:Field} {y:AV} (ho:o.op=.fieldAddr t x i) (hc:Conc κ n s a w) (hdst:∀d',o.dst=some d'→d'<n)
  (hd:(tiOf P t).d=.struct fs) (hf:fs.toList[i]?=some f) (hsz:(tiOf P f.type).size≠0)
  (h:(∃l j,evA s.f x=.bp l j∧y=.bp l (j+f.offset))∨(∃l v k j,evA s.f x=.ep l v k j∧y=.ep l v k (j+f.offset)∧(∃size es frz,s.h l=some (.arr size es v frz)))∨(∃cs,evA s.f x=.tp cs∧y=.tp (cs.drop f.offset))∨(∃id cs,evA s.f x=.t (.ptr id)∧s.h (.obj id)=some (.box cs)∧y=.bp (.obj id) f.offset)):
  Does P κ n a w o s {v:=y}:=by
 obtain⟨hde,hs,φ,S,M,hsl⟩:=hc
 have hx:=evA_rep hsl x
 have fin:∀ad:Addr,ad.spot=none→a.eval x=.pointer (some ad)→RepA φ s.h w S y (.pointer (some ⟨ad.block,ad.off+f.offset,none⟩))→Does P κ n a w o s {v:=y}:=fun ad h1 h2 h3=>by
  refine Does.of_pure hde hs hdst M hsl ?_ h3
  unfold execOp;rw[ho];simp[h2,run_fieldAt hd hf hsz ad h1]
 rcases h with ⟨l,j,hy,rfl⟩|⟨l,v,k,j,hy,rfl,size,es,frz,hl⟩|⟨cs,hy,rfl⟩|⟨id,cs,hy,hl,rfl⟩<;>rw[hy]at hx
 ·obtain⟨b,cs,h1,h2,h3⟩:=repA_bp hx
  exact fin ⟨b,j,none⟩ rfl h3 (.bp l _ b cs h1 h2)
 ·generalize hv0:a.eval x=v0 at hx
  cases hx with
  | ep l ver i j v o ho hv' h =>
    rw[hl]at ho
    cases ho
    obtain⟨q1,b,hb,rfl⟩:=(h _ _ _ _ rfl).2 rfl
    refine fin _ rfl hv0 (.ep l _ _ _ _ _ hl trivial fun size' es' v' frz' e=> ?_)
    cases e
    exact⟨Nat.le_refl _,fun _=>⟨q1,b,hb,by simp[Nat.add_assoc]⟩⟩
 ·generalize hv0:a.eval x=v0 at hx
  cases hx with
  | tp cs ad u ha hsc hc =>
    refine fin ad ha hv0 (.tp _ _ (fun j=>u (f.offset+j)) rfl (fun c hc=>hsc c (List.mem_of_mem_drop hc)) fun j c hj=> ?_)
    rw[List.getElem?_drop]at hj
    have:=hc _ _ hj
    simpa [Nat.add_assoc] using this
 ·obtain⟨b,hb,h3⟩:=repA_ptr hx
  refine fin ⟨b,0,none⟩ rfl h3 ?_
  simp only[Nat.zero_add]
  exact .bp _ _ b cs hl hb
theorem run_indexAt_ok {t e:TypeId} {k:IntKind} {i:Int} {len cap:Nat} {ad:Addr} (hd:(tiOf P t).d=.slice e) (hsz:(tiOf P e).size≠0) (hsp:ad.spot=none) (h0:0≤i) (h1:i<len):
  (Instr.indexAt t (.slice (some ad) len cap) (.int k i)).run P w=.ok (.pointer (some ⟨ad.block,ad.off+i.toNat*(tiOf P e).size,none⟩)) w:=by
 have hu:=(tiOf_info (P:=P) (t:=t) (by rw[hd];simp)).1
 rw[hd]at hu
 obtain⟨b,o,sp⟩:=ad
 simp only at hsp
 subst hsp
 unfold Instr.indexAt
 simp[run_underlying hu,asIntOf,h0,h1,run_sizeOf_ti (tiOf_size hsz),addr_add]
theorem run_indexAt_arr {t e:TypeId} {m:Nat} {k:IntKind} {i:Int} {ad:Addr} (hd:(tiOf P t).d=.array m e) (hsz:(tiOf P e).size≠0) (hsp:ad.spot=none) (h0:0≤i) (h1:i<m):
  (Instr.indexAt t (.pointer (some ad)) (.int k i)).run P w=.ok (.pointer (some ⟨ad.block,ad.off+i.toNat*(tiOf P e).size,none⟩)) w:=by
 have hu:=(tiOf_info (P:=P) (t:=t) (by rw[hd];simp)).1
 rw[hd]at hu
 obtain⟨b,o,sp⟩:=ad
 simp only at hsp
 subst hsp
 unfold Instr.indexAt
 simp[run_underlying hu,asIntOf,h0,h1,Instr.sureAddr,run_sizeOf_ti (tiOf_size hsz),addr_add]
theorem do_indexAddr {o : Oper} {t e : TypeId} {x i : Operand} {y : AV} {acc : List Lab} (ho : o.op = .indexAddr t x i) (hc : Conc κ n s a w) (hdst : ∀ d', o.dst = some d' → d' < n)
  (hd:(tiOf P t).d=.slice e∨∃m,(tiOf P t).d=.array m e) (h:(indexAddrA (tiOf P t) (tiOf P e).size (evA s.f x) (evA s.f i)).run s.h=some (y,acc)):
  Does P κ n a w o s {v:=y}:=by
 obtain⟨hde,hs,φ,S,M,hsl⟩:=hc
 have hx:=evA_rep hsl x
 have hi:=evA_rep hsl i
 have fin:∀v,(Instr.indexAt t (a.eval x) (a.eval i)).run P w=.ok v w→RepA φ s.h w S y v→Does P κ n a w o s {v:=y}:=fun v h1 h2=>by
  refine Does.of_pure hde hs hdst M hsl ?_ h2
  unfold execOp;rw[ho];simp[h1]
 unfold indexAddrA at h
 split at h
 ·exact(Rd.run_fail_some h).elim
 rename_i hsz
 split at h
 ·exact(Rd.run_fail_some h).elim
 rename_i m hm
 split at h
 ·exact(Rd.run_fail_some h).elim
 rename_i h00
 have h00:0≤m:=by omega
 obtain⟨k,hk⟩:=intOf_some hm
 rw[hk]at hi
 have hiv:=repA_int hi
 generalize hy:evA s.f x=z at hx h
 generalize hv0:a.eval x=v0 at hx
 rw[hv0,hiv]at fin
 rcases hd with hd|⟨mm,hd⟩<;>simp only[hd]at h
 ·cases hx with
  | t t0 v h0 =>
    cases h0 with
    | slice es a0 ad cap size u hcap ha hszs hsc hcc hr =>
      simp only at h
      split at h
      ·rename_i el hel
       split at h
       ·rename_i hcond
        obtain⟨rfl,_⟩:=Rd.run_ret_some h
        have hlt:=(List.getElem?_eq_some_iff.1 hel).1
        have hne:es≠[]:=by intro e;subst e;simp at hlt
        obtain⟨rfl,hsp⟩:=ha hne
        have hsize:size=(tiOf P e).size:=by rw[←hcond];exact(hszs el (List.mem_of_getElem? hel)).symm
        subst hsize
        refine fin _ (run_indexAt_ok hd hsz hsp h00 (by omega)) (.tp _ _ (fun j=>u m.toNat j) rfl (hsc el (List.mem_of_getElem? hel)) fun j c hj=> ?_)
        exact⟨(hcc _ _ _ _ hel hj).1,(hcc _ _ _ _ hel hj).2,hr _ _ _ _ hel hj⟩
       ·exact(Rd.run_fail_some h).elim
      ·exact(Rd.run_fail_some h).elim
    |_=>exact(Rd.run_fail_some h).elim
  | sl l ver off len v o' ho' hv' hh =>
    obtain⟨acc',h,_⟩:=Rd.run_ask_some h
    rw[ho']at h
    cases o' with
    |box=>exact(Rd.run_fail_some h).elim
    |map=>exact(Rd.run_fail_some h).elim
    |dead=>exact(Rd.run_fail_some h).elim
    | arr size es v' frz =>
      simp only at h
      split at h
      ·rename_i hcond
       obtain⟨hver,hsize,hlt⟩:=hcond
       obtain⟨rfl,_⟩:=Rd.run_ret_some h
       subst hver
       subst hsize
       obtain⟨k1,ad,cap,rfl,k3,k4,k5⟩:=(hh _ _ _ _ rfl).2 rfl
       cases hφ:φ l with
       | none =>
         have:=(M.objs l _ ho').2.2.2.2.1 hφ
         subst this
         simp at k1;omega
       | some b =>
         obtain⟨rfl,cs,ty,fr,m1,m2⟩:=k5 b hφ (.inr (by omega))
         refine fin _ (run_indexAt_ok hd hsz rfl h00 (by omega)) (.ep l _ _ _ _ _ ho' trivial fun size' es' v'' frz' e=> ?_)
         cases e
         exact⟨Nat.le_refl _,fun _=>⟨by omega,b,hφ,by simp[Nat.add_mul]⟩⟩
      ·exact(Rd.run_fail_some h).elim
  | sb l n0 b cap cs hl hb hn =>
    simp only at h
    split at h
    ·rename_i hcond
     obtain⟨rfl,_⟩:=Rd.run_ret_some h
     refine fin _ (run_indexAt_ok hd hsz rfl h00 (by omega)) ?_
     rw[hcond.1]
     have:RepA φ s.h w S (.bp l m.toNat) (.pointer (some ⟨b,m.toNat,none⟩)):=.bp l _ b cs hl hb
     simpa using this
    ·exact(Rd.run_fail_some h).elim
  |_=>exact(Rd.run_fail_some h).elim
 ·cases hx with
  | bp l j b cs hl hb =>
    simp only at h
    split at h
    ·rename_i hlt
     obtain⟨rfl,_⟩:=Rd.run_ret_some h
     exact fin _ (run_indexAt_arr hd hsz rfl h00 hlt) (.bp l _ b cs hl hb)
    ·exact(Rd.run_fail_some h).elim
  | tp cs ad u ha hsc hcc =>
    simp only at h
    split at h
    ·rename_i hlt
     obtain⟨rfl,_⟩:=Rd.run_ret_some h
     refine fin _ (run_indexAt_arr hd hsz ha h00 hlt) (.tp _ _ (fun j=>u (m.toNat*(tiOf P e).size+j)) rfl (fun c hc=>hsc c (List.mem_of_mem_drop hc)) fun j c hj=> ?_)
     rw[List.getElem?_drop]at hj
     have:=hcc _ _ hj
     simpa [Nat.add_assoc] using this
    ·exact(Rd.run_fail_some h).elim
  |_=>exact(Rd.run_fail_some h).elim
theorem isAggA_rep {φ:Inj} {H:Heap} {S:Addr→Prop} {x:AV} {v:Value} (h:isAggA x=true) (hx:RepA φ H w S x v):
  ∃vs:Array Value,v=.agg vs∧vs.size=(cellsA x).length∧(∀u∈vs,u.scal)∧∀(k:Nat) (c:AV) (u:Value),(cellsA x)[k]?=some c→vs[k]?=some u→RepA φ H w S c u:=by
 cases hx with
 |agg cs vs hn hsc hr=>exact⟨vs,rfl,hn,hsc,hr⟩
 | t t0 v h0 =>
   cases h0 with
   | agg cs vs hn hsc hr =>
     refine⟨vs,rfl,by simp[cellsA,hn],fun u hu=> ?_,fun k c u hk hu=> ?_⟩
     ·obtain⟨k,hk,rfl⟩:=Array.mem_iff_getElem.1 hu
      exact(hr k _ _ (List.getElem?_eq_getElem (by omega)) (Array.getElem?_eq_getElem hk)).scal (hsc _ (List.getElem_mem _))
     ·simp only[cellsA,List.getElem?_map,Option.map_eq_some_iff]at hk
      obtain⟨c0,hk,rfl⟩:=hk
      exact .t _ _ (hr k _ _ hk hu)
   |_=>simp[isAggA]at h
 |_=>simp[isAggA]at h
theorem do_field {o:Oper} {t:TypeId} {x:Operand} {i:Nat} {fs:Array Field} {f:Field} {y:AV} (ho:o.op=.field t x i) (hc:Conc κ n s a w) (hdst:∀d',o.dst=some d'→d'<n)
  (hd:(tiOf P t).d=.struct fs) (hf:fs.toList[i]?=some f) (hag:isAggA (evA s.f x)=true) (h:cutA (tiOf P f.type) (cellsA (evA s.f x)) f.offset=some y):
  Does P κ n a w o s {v:=y}:=by
 obtain⟨hde,hs,φ,S,M,hsl⟩:=hc
 obtain⟨vs,hv,h3,h4,h5⟩:=isAggA_rep hag (evA_rep hsl x)
 obtain⟨g1,g2,g3,g4⟩:=cutA_rep h vs h3 h4 h5
 have hu:=(tiOf_info (P:=P) (t:=t) (by rw[hd];simp)).1
 rw[hd]at hu
 have hf':fs[i]?=some f:=by simpa using hf
 refine Does.of_pure hde hs hdst M hsl ?_ g4
 unfold execOp;rw[ho]
 have hp:=run_part (w:=w) (tiOf_size g2) vs f.offset (fun e=>by have:=g3 e;omega)
 simp only[Instr.field,Sem.run_bind,run_underlying hu,Result.andThen_ok,hf',hv,asAgg,Sem.run_pure,hp]
theorem do_index_str {o:Oper} {t:TypeId} {x i:Operand} {l:List UInt8} {k:IntKind} {m:Int} {b:UInt8} (ho:o.op=.index t x i) (hc:Conc κ n s a w) (hdst:∀d',o.dst=some d'→d'<n)
  (hd:(tiOf P t).d=.string) (hx:evA s.f x=.t (.str l)) (hi:evA s.f i=.t (.int k m)) (h0:0≤m) (h:l[m.toNat]?=some b):Does P κ n a w o s {v:=.t (.int .u8 b.toNat)}:=by
 obtain⟨hde,hs,φ,S,M,hsl⟩:=hc
 have h1:=evA_rep hsl x
 have h2:=evA_rep hsl i
 rw[hx]at h1;rw[hi]at h2
 obtain⟨str,h1',rfl⟩:=repA_str h1
 have h2:=repA_int h2
 have hu:=(tiOf_info (P:=P) (t:=t) (by rw[hd];simp)).1
 rw[hd]at hu
 refine Does.of_pure (v:=.int .u8 b.toNat) hde hs hdst M hsl ?_ (.t _ _ (.int _ _))
 unfold execOp;rw[ho]
 have hlt:=(List.getElem?_eq_some_iff.1 h).1
 have hlt':m.toNat<str.size:=by simpa using hlt
 have hb:str[m.toNat]?=some b:=by
  rw[ByteArray.getElem?_lt' _ _ hlt',←h]
  simp[ByteArray.getElem_eq_getElem_data,hlt']
 simp only[Instr.index,Sem.run_bind,h2,asIntOf,Sem.run_pure,Result.andThen_ok,run_underlying hu,h1',h0,if_true,hb]
theorem do_index_arr {o:Oper} {t e:TypeId} {x i:Operand} {k:IntKind} {m:Int} {N:Nat} {y:AV} (ho:o.op=.index t x i) (hc:Conc κ n s a w) (hdst:∀d',o.dst=some d'→d'<n)
  (hd:(tiOf P t).d=.array N e) (hag:isAggA (evA s.f x)=true) (hi:evA s.f i=.t (.int k m)) (h0:0≤m) (h1:m<N) (h:cutA (tiOf P e) (cellsA (evA s.f x)) (m.toNat*(tiOf P e).size)=some y):
  Does P κ n a w o s {v:=y}:=by
 obtain⟨hde,hs,φ,S,M,hsl⟩:=hc
 obtain⟨vs,hv,h3,h4,h5⟩:=isAggA_rep hag (evA_rep hsl x)
 obtain⟨g1,g2,g3,g4⟩:=cutA_rep h vs h3 h4 h5
 have h2:=evA_rep hsl i
 rw[hi]at h2
 have h2:=repA_int h2
 have hu:=(tiOf_info (P:=P) (t:=t) (by rw[hd];simp)).1
 rw[hd]at hu
 refine Does.of_pure hde hs hdst M hsl ?_ g4
 unfold execOp;rw[ho]
 have hp:=run_part (w:=w) (tiOf_size g2) vs (m.toNat*(tiOf P e).size) (fun e'=>by have:=g3 e';omega)
 simp only[Instr.index,Sem.run_bind,h2,asIntOf,Sem.run_pure,Result.andThen_ok,run_underlying hu,hv,h0,h1,and_self,if_true,run_sizeOf_ti (tiOf_size g2),hp]
theorem do_extract {o:Oper} {x:Operand} {i:Nat} {vs:List AV} {y:AV} (ho:o.op=.extract x i) (hc:Conc κ n s a w) (hdst:∀d',o.dst=some d'→d'<n)
  (hx:evA s.f x=.tup vs) (h:vs[i]?=some y):Does P κ n a w o s {v:=y}:=by
 obtain⟨hde,hs,φ,S,M,hsl⟩:=hc
 have h1:=evA_rep hsl x
 rw[hx]at h1
 generalize hv0:a.eval x=v0 at h1
 cases h1 with
 | tup cs us hn hr =>
   have hlt:=(List.getElem?_eq_some_iff.1 h).1
   have hu:us[i]?=some us[i]:=Array.getElem?_eq_getElem (by omega)
   refine Does.of_pure hde hs hdst M hsl ?_ (hr i y _ h hu)
   unfold execOp;rw[ho]
   simp only[hv0,Instr.extract,hu,Sem.run_bind,Sem.run_pure,Result.andThen_ok]
theorem do_convert {o:Oper} {st dt:TypeId} {x:Operand} {t:T} (ho:o.op=.convert st dt x) (hc:Conc κ n s a w) (hdst:∀d',o.dst=some d'→d'<n)
  (h:convA (tiOf P st) (tiOf P dt) (evA s.f x)=some t):Does P κ n a w o s {v:=.t t}:=by
 obtain⟨hde,hs,φ,S,M,hsl⟩:=hc
 have h1:=evA_rep hsl x
 unfold convA at h
 split at h
 ·rename_i k m hx
  split at h
  ·rename_i k' hd'
   split at h
   ·rename_i k'' hd
    cases h
    rw[hx]at h1
    have h1:=repA_int h1
    have hu:=(tiOf_info (P:=P) (t:=st) (by rw[hd];simp)).1
    have hu':=(tiOf_info (P:=P) (t:=dt) (by rw[hd'];simp)).1
    rw[hd]at hu;rw[hd']at hu'
    refine Does.of_pure (v:=.int k' (k'.wrap m)) hde hs hdst M hsl ?_ (.t _ _ (.int _ _))
    unfold execOp;rw[ho]
    simp only[convert,Sem.run_bind,run_underlying hu,run_underlying hu',Result.andThen_ok,h1,Conv.intToInt,Sem.run_pure]
   ·cases h
  ·cases h
 ·cases h
theorem exec_builtin {o:Oper} {b:Builtin} {xs:Array Operand} {ts:Array TypeId} (ho:o.op=.call {callee:=.builtin b,args:=xs,argTypes:=ts}) (r:Result Value)
  (h:∀cs,(builtin b ts o.type cs (xs.map a.eval)).run P w=r.andThen fun v w'=>.ok (.value v) w'):(execOp a.eval o).run P w=r.andThen fun v w'=>.ok (.value v) w':=by
 unfold execOp
 rw[ho]
 simp only[resolve,Sem.run_bind,Sem.run_pure,Result.andThen_ok,invoke,h]
end
section
variable {P:Program} {κ:Kap} {n:Nat} {a:Act} {w:World} {s:St}
theorem do_len {o:Oper} {t:TypeId} {x:Operand} {y:T} {acc:List Lab} (ho:o.op=.call {callee:=.builtin .len,args:= #[x],argTypes:= #[t]}) (hc:Conc κ n s a w) (hdst:∀d',o.dst=some d'→d'<n)
  (h:(lenA (tiOf P t) (evA s.f x)).run s.h=some (y,acc)):Does P κ n a w o s {v:=.t y}:=by
 obtain⟨hde,hs,φ,S,M,hsl⟩:=hc
 have hx:=evA_rep hsl x
 have fin:∀m:Nat,(Builtin.len_ #[t] o.type #[a.eval x]).run P w=.ok (goInt m) w→y=.int .i64 m→Does P κ n a w o s {v:=.t y}:=fun m h1 h2=>by
  subst h2
  refine Does.of_pure hde hs hdst M hsl ?_ (.t _ _ (.int _ _))
  have:=exec_builtin (P:=P) (a:=a) (w:=w) ho ((Builtin.len_ #[t] o.type #[a.eval x]).run P w) (fun cs=>by simp[builtin])
  rw[this,h1]
  rfl
 unfold lenA at h
 split at h
 ·rename_i e hd
  have hu:=(tiOf_info (P:=P) (t:=t) (by rw[hd];simp)).1
  rw[hd]at hu
  have go:∀ad len cap,a.eval x=.slice ad len cap→y=.int .i64 len→Does P κ n a w o s {v:=.t y}:=fun ad len cap h1 h2=>
   fin len (by simp[Builtin.len_,run_underlying hu,h1]) h2
  generalize hv0:a.eval x=v0 at hx go
  generalize evA s.f x=z at hx h
  cases hx with
  | t t0 v h0 =>
    cases h0 with
    | slice es a0 ad cap size u hcap ha hszs hsc hcc hr =>
      exact go _ _ _ rfl (Rd.run_ret_some h).1.symm
    |_=>exact(Rd.run_fail_some h).elim
  |nil=>exact go _ _ _ rfl (Rd.run_ret_some h).1.symm
  |sb=>exact go _ _ _ rfl (Rd.run_ret_some h).1.symm
  | sl l ver off len v o' ho' hv' hh =>
    obtain⟨acc',h,_⟩:=Rd.run_ask_some h
    rw[ho']at h
    cases o' with
    |box=>exact(Rd.run_fail_some h).elim
    |map=>exact(Rd.run_fail_some h).elim
    |dead=>exact(Rd.run_fail_some h).elim
    | arr size es v' frz =>
      simp only at h
      split at h
      ·rename_i hver
       obtain⟨k1,ad,cap,rfl,_⟩:=(hh _ _ _ _ rfl).2 hver
       exact go _ _ _ rfl (Rd.run_ret_some h).1.symm
      ·exact(Rd.run_fail_some h).elim
  |_=>exact(Rd.run_fail_some h).elim
 ·rename_i hd
  have hu:=(tiOf_info (P:=P) (t:=t) (by rw[hd];simp)).1
  rw[hd]at hu
  split at h
  ·rename_i l hz
   rw[hz]at hx
   obtain⟨str,h1,rfl⟩:=repA_str hx
   exact fin str.size (by simp[Builtin.len_,run_underlying hu,h1]) (by have:=(Rd.run_ret_some h).1.symm;simpa using this)
  ·exact(Rd.run_fail_some h).elim
 ·exact(Rd.run_fail_some h).elim
theorem do_minmax {o:Oper} {ts:Array TypeId} {x y:Operand} {k k':IntKind} {p q:Int} {b:Builtin} (hb:b=.min∨b=.max) (ho:o.op=.call {callee:=.builtin b,args:= #[x,y],argTypes:=ts}) (hc:Conc κ n s a w) (hdst:∀d',o.dst=some d'→d'<n)
  (hx:evA s.f x=.t (.int k p)) (hy:evA s.f y=.t (.int k' q)):Does P κ n a w o s {v:=.t (.int k (if b=.min then (if q<p then q else p) else (if p<q then q else p)))}:=by
 obtain⟨hde,hs,φ,S,M,hsl⟩:=hc
 have h1:=evA_rep hsl x
 have h2:=evA_rep hsl y
 rw[hx]at h1;rw[hy]at h2
 have h1:=repA_int h1
 have h2:=repA_int h2
 refine Does.of_pure (v:=.int k (if b=.min then (if q<p then q else p) else (if p<q then q else p))) hde hs hdst M hsl ?_ (.t _ _ (.int _ _))
 rcases hb with rfl|rfl
 ·have:=exec_builtin (P:=P) (a:=a) (w:=w) ho ((Builtin.min_ ts o.type #[a.eval x,a.eval y]).run P w) (fun cs=>by simp[builtin])
  rw[this,h1,h2]
  simp[Builtin.min_,Builtin.min2]
 ·have:=exec_builtin (P:=P) (a:=a) (w:=w) ho ((Builtin.max_ ts o.type #[a.eval x,a.eval y]).run P w) (fun cs=>by simp[builtin])
  rw[this,h1,h2]
  simp[Builtin.max_,Builtin.max2]
theorem run_bounds {b:Bool} {len cap:Nat} {lo hi:Option Value} {l h:Int} (hlo:lo=none∧l=0∨∃k,lo=some (.int k l)) (hhi:hi=none∧h=len∨∃k,hi=some (.int k h))
  (h0:0≤l) (h1:l≤h) (h2:h≤cap):(Instr.sliceBounds b len cap lo hi none).run P w=.ok (l.toNat,h.toNat,cap) w:=by
 have e1:∀c k,(Instr.sliceBound (.int k h) cap c).run P w=.ok h.toNat w:=fun c k=>by
  simp[Instr.sliceBound,asIntOf,show 0≤h by omega,show h≤cap by omega]
 have e2:∀c k,(Instr.sliceBound (.int k l) h.toNat c).run P w=.ok l.toNat w:=fun c k=>by
  simp[Instr.sliceBound,asIntOf,h0,show l≤max h 0 by omega]
 unfold Instr.sliceBounds
 rcases hlo with ⟨rfl,rfl⟩|⟨k1,rfl⟩<;>rcases hhi with ⟨rfl,rfl⟩|⟨k2,rfl⟩<;>
  simp only[Sem.run_bind,Sem.run_pure,Result.andThen_ok,e1,e2,Option.isSome_none,Bool.false_eq_true,if_false,Int.toNat_zero,Int.toNat_natCast]<;>
  simp_all
theorem bound_rep {φ:Inj} {H:Heap} {S:Addr→Prop} {f:Nat→AV} (hsl:Slots φ H w S a f) {lo:Option Operand} {d:Option Int} {l:Int} (h:((lo.map (evA f)).map intOf).getD d=some l):
  (lo.map a.eval=none∧d=some l)∨∃k,lo.map a.eval=some (.int k l):=by
 cases lo with
 |none=>exact .inl ⟨rfl,h⟩
 | some x =>
   obtain⟨k,hk⟩:=intOf_some (y:=evA f x) (by simpa using h)
   have:=evA_rep hsl x
   rw[hk]at this
   exact .inr ⟨k,by simp[repA_int this]⟩
theorem run_slice_slice {t e:TypeId} (hd:(tiOf P t).d=.slice e) (hsz:(tiOf P e).size≠0) {ad:Option Addr} {len cap:Nat} {lo hi:Option Value} {l h:Int}
  (hlo:lo=none∧l=0∨∃k,lo=some (.int k l)) (hhi:hi=none∧h=len∨∃k,hi=some (.int k h)) (h0:0≤l) (h1:l≤h) (h2:h≤cap):
  (Instr.sliceAt t (.slice ad len cap) lo hi none).run P w=.ok (.slice (if cap=l.toNat then ad else ad.map (·.add (l.toNat*(tiOf P e).size))) (h.toNat-l.toNat) (cap-l.toNat)) w:=by
 have hu:=(tiOf_info (P:=P) (t:=t) (by rw[hd];simp)).1
 rw[hd]at hu
 unfold Instr.sliceAt
 simp only[Sem.run_bind,run_underlying hu,Result.andThen_ok,Instr.slice,run_bounds hlo hhi h0 h1 h2,run_sizeOf_ti (tiOf_size hsz),Sem.run_pure]
theorem run_slice_string {t:TypeId} (hd:(tiOf P t).d=.string) {str:ByteArray} {lo hi:Option Value} {l h:Int}
  (hlo:lo=none∧l=0∨∃k,lo=some (.int k l)) (hhi:hi=none∧h=str.size∨∃k,hi=some (.int k h)) (h0:0≤l) (h1:l≤h) (h2:h≤str.size):
  (Instr.sliceAt t (.string str) lo hi none).run P w=.ok (.string (str.extract l.toNat h.toNat)) w:=by
 have hu:=(tiOf_info (P:=P) (t:=t) (by rw[hd];simp)).1
 rw[hd]at hu
 unfold Instr.sliceAt
 simp only[Sem.run_bind,run_underlying hu,Result.andThen_ok,Instr.slice,run_bounds hlo hhi h0 h1 h2,Sem.run_pure,Option.isSome_none,Bool.false_eq_true,if_false]
section
variable {o:Oper} {t:TypeId} {x:Operand} {lo hi mx:Option Operand} {φ:Inj} {S:Addr→Prop}
theorem bound_or (hsl:Slots φ s.h w S a s.f) {d l:Int} (h:((lo.map (evA s.f)).map intOf).getD (some d)=some l):lo.map a.eval=none∧l=d∨∃k,lo.map a.eval=some (.int k l):=by
 rcases bound_rep hsl h with ⟨h1,h2⟩|h1
 ·cases h2;exact .inl ⟨h1,rfl⟩
 ·exact .inr h1
theorem slice_str (hd:(tiOf P t).d=.string) {sb:ByteArray} (hv:a.eval x=.string sb) (hsl:Slots φ s.h w S a s.f) {l h:Int}
  (hlo:((lo.map (evA s.f)).map intOf).getD (some 0)=some l) (hhi:((hi.map (evA s.f)).map intOf).getD (some sb.data.toList.length)=some h) (hc:0≤l∧l≤h∧h≤sb.data.toList.length):
  ∃v,(Instr.sliceAt t (a.eval x) (lo.map a.eval) (hi.map a.eval) none).run P w=.ok v w∧RepA φ s.h w S (.t (.str ((sb.data.toList.take h.toNat).drop l.toNat))) v:=by
 have e1:sb.data.toList.length=sb.size:=by simp
 rw[e1]at hhi hc
 refine⟨_,by rw[hv];exact run_slice_string hd (l:=l) (h:=h) (bound_or hsl hlo) (bound_or hsl hhi) hc.1 hc.2.1 hc.2.2,.t _ _ (.str _ _ ?_)⟩
 ·rw[Lib.extract_data,List.drop_take]
theorem repT_nil (O:Nat→Option Nat) (w:World) (S:Addr→Prop) (a:Option Addr) (cap:Nat):RepT O w S (.slice []) (.slice a 0 cap):=
 .slice [] a ⟨0,0,none⟩ cap 0 (fun _ _=>undef) (by simp) (fun h=>(h rfl).elim) (by simp) (by simp) (by simp) (by simp)
theorem slice_tree {e:TypeId} (hd:(tiOf P t).d=.slice e) {es:List T} {v0:Value} (hv:a.eval x=v0) (hx:RepT φ.objs w S (.slice es) v0) (hsl:Slots φ s.h w S a s.f) {l h:Int}
  (hlo:((lo.map (evA s.f)).map intOf).getD (some 0)=some l) (hhi:((hi.map (evA s.f)).map intOf).getD (some es.length)=some h) (hc:0≤l∧l≤h∧h≤es.length)
  (hsz:(tiOf P e).size≠0) (hall:∀el∈es,el.cells.length=(tiOf P e).size):
  ∃v,(Instr.sliceAt t (a.eval x) (lo.map a.eval) (hi.map a.eval) none).run P w=.ok v w∧RepA φ s.h w S (.t (.slice ((es.take h.toNat).drop l.toNat))) v:=by
 cases hx with
 | slice _ a0 ad cap size u hcap ha hszs hsc hcc hr =>
   have hlen:((es.take h.toNat).drop l.toNat).length=h.toNat-l.toNat:=by simp;omega
   refine⟨_,by rw[hv];exact run_slice_slice hd hsz (l:=l) (h:=h) (bound_or hsl hlo) (bound_or hsl hhi) hc.1 hc.2.1 (by omega),.t _ _ ?_⟩
   ·rw [← hlen]
    have hget:∀i el,((es.take h.toNat).drop l.toNat)[i]?=some el→es[l.toNat+i]?=some el:=fun i el hi=>by
     rw[List.getElem?_drop,List.getElem?_take]at hi
     split at hi
     ·exact hi
     ·cases hi
    by_cases hne:es=[]
    ·subst hne
     simp only[List.take_nil,List.drop_nil]
     exact repT_nil _ _ _ _ _
    ·obtain⟨rfl,hsp⟩:=ha hne
     have hs2:size=(tiOf P e).size:=by
      obtain⟨el,hel⟩:=List.exists_mem_of_ne_nil es hne
      rw[←hszs el hel,hall el hel]
     subst hs2
     by_cases hcl:cap=l.toNat
     ·have hemp:(es.take h.toNat).drop l.toNat=[]:=List.eq_nil_of_length_eq_zero (by rw[hlen];omega)
      rw[hemp]
      exact repT_nil _ _ _ _ _
     ·rw[if_neg hcl]
      obtain⟨ab,ao,as⟩:=ad
      simp only at hsp
      subst hsp
      refine .slice _ _ ⟨ab,ao+l.toNat*(tiOf P e).size,none⟩ _ (tiOf P e).size (fun i j=>u (l.toNat+i) j) (by rw[hlen];omega) (fun _=>⟨by simp[addr_add],rfl⟩)
       (fun el hel=>hszs el (List.mem_of_mem_take (List.mem_of_mem_drop hel))) (fun el hel=>hsc el (List.mem_of_mem_take (List.mem_of_mem_drop hel))) (fun i j el c hi hj=> ?_) (fun i j el c hi hj=>hr _ _ _ _ (hget i el hi) hj)
      have:=hcc _ _ _ _ (hget i el hi) hj
      rw[Nat.add_mul]at this
      simpa [Nat.add_assoc] using this
theorem slice_own {e:TypeId} (hd:(tiOf P t).d=.slice e) {lb:Lab} {size:Nat} {es:List T} {v frz off nn:Nat} (hl:s.h lb=some (.arr size es v frz)) {v0:Value} (hv:a.eval x=v0)
  (hx:Hdr φ w lb size es.length off nn v0) (hsl:Slots φ s.h w S a s.f) {l h:Int}
  (hlo:((lo.map (evA s.f)).map intOf).getD (some 0)=some l) (hhi:((hi.map (evA s.f)).map intOf).getD (some nn)=some h) (hc:0≤l∧l≤h∧h≤nn)
  (hsz:(tiOf P e).size≠0) (hsize:size=(tiOf P e).size):
  ∃u,(Instr.sliceAt t (a.eval x) (lo.map a.eval) (hi.map a.eval) none).run P w=.ok u w∧RepA φ s.h w S (.sl lb v (off+l.toNat) (h.toNat-l.toNat)) u:=by
 subst hsize
 obtain⟨k1,ad,cap,rfl,k3,k4,k5⟩:=hx
 refine⟨_,by rw[hv];exact run_slice_slice hd hsz (l:=l) (h:=h) (bound_or hsl hlo) (bound_or hsl hhi) hc.1 hc.2.1 (by omega),.sl lb _ _ _ _ _ hl (show Value.scal (.slice _ _ _) from trivial) fun size' es' v'' frz' e'=> ?_⟩
 ·cases e'
  refine⟨Nat.le_refl _,fun _=>⟨by omega,_,_,rfl,by omega,fun hn=> ?_,fun b hb hor=> ?_⟩⟩
  ·obtain⟨rfl,rfl⟩:=k4 hn
   simp
  ·obtain⟨rfl,cs,ty,fr,m1,m2⟩:=k5 b hb (by omega)
   by_cases hcl:cap=l.toNat
   ·have e0:l.toNat=0:=by omega
    have e1:cap=0:=by omega
    have e2:off=0:=by omega
    subst e1
    simp only[e0,e2,if_true]
    exact⟨by simp,cs,ty,fr,m1,by simp⟩
   ·rw[if_neg hcl]
    refine⟨by simp[addr_add,Nat.add_mul],cs,ty,fr,m1,?_⟩
    rw[show off+l.toNat+(cap-l.toNat)=off+cap by omega]
    exact m2
theorem run_slice3 {e:TypeId} (hd:(tiOf P t).d=.slice e) (hsz:(tiOf P e).size≠0) {ad:Option Addr} {len cap:Nat} {hi mx:Value} {k k':IntKind} {h:Int}
  (hhi:hi=.int k h) (hmx:mx=.int k' h) (h0:0≤h) (h2:h≤cap):
  (Instr.sliceAt t (.slice ad len cap) none (some hi) (some mx)).run P w=.ok (.slice (if h.toNat=0 then ad else ad.map (·.add 0)) h.toNat h.toNat) w:=by
 have hu:=(tiOf_info (P:=P) (t:=t) (by rw[hd];simp)).1
 rw[hd]at hu
 subst hhi
 subst hmx
 have e1:∀c,(Instr.sliceBound (.int k' h) cap c).run P w=.ok h.toNat w:=fun c=>by
  simp[Instr.sliceBound,asIntOf,h0,h2]
 have e2:∀c,(Instr.sliceBound (.int k h) h.toNat c).run P w=.ok h.toNat w:=fun c=>by
  simp[Instr.sliceBound,asIntOf,h0,show h≤max h 0 by omega]
 unfold Instr.sliceAt
 simp only[Sem.run_bind,run_underlying hu,Result.andThen_ok,Instr.slice,Instr.sliceBounds,e1,e2,run_sizeOf_ti (tiOf_size hsz),Sem.run_pure,Nat.sub_zero,Nat.zero_mul]
end
set_option maxHeartbeats 400000 in
theorem do_slice {o : Oper} {t : TypeId} {x : Operand} {lo hi mx : Option Operand} {sz : Nat} {y : Dl} {acc : List Lab} (ho : o.op = .slice t x lo hi mx) (hc : Conc κ n s a w) (hdst : ∀ d', o.dst = some d' → d' < n)
  (hse:∀e,(tiOf P t).d=.slice e→sz=(tiOf P e).size)
  (h:(sliceA (tiOf P t) sz (evA s.f x) (lo.map (evA s.f)) (hi.map (evA s.f)) (mx.map (evA s.f))).run s.h=some (y,acc)):Does P κ n a w o s y:=by
 obtain⟨hde,hs,φ,S,M,hsl⟩:=hc
 have hx:=evA_rep hsl x
 have fin:∀z,y={v:=z}→(∃v,(Instr.sliceAt t (a.eval x) (lo.map a.eval) (hi.map a.eval) (mx.map a.eval)).run P w=.ok v w∧RepA φ s.h w S z v)→Does P κ n a w o s y:=by
  rintro z h2 ⟨v,h1,h3⟩
  subst h2
  refine Does.of_pure hde hs hdst M hsl ?_ h3
  unfold execOp;rw[ho];simp[h1]
 have hno:mx.map (evA s.f)=none→mx.map a.eval=none:=fun e=>by cases mx<;>simp_all
 unfold sliceA at h
 split at h
 ·rename_i hd
  split at h
  ·rename_i str hz hm
   split at h
   ·rename_i l hh hlo hhi
    split at h
    ·rename_i hcond
     obtain⟨rfl,_⟩:=Rd.run_ret_some h
     rw[hz]at hx
     obtain⟨sb,hv,rfl⟩:=repA_str hx
     exact fin _ rfl (by rw[hno hm];exact slice_str hd hv hsl hlo hhi hcond)
    ·exact(Rd.run_fail_some h).elim
   ·exact(Rd.run_fail_some h).elim
  ·exact(Rd.run_fail_some h).elim
 ·rename_i e hd
  have hse:=hse e hd
  subst hse
  split at h
  ·rename_i es hz hm
   split at h
   ·rename_i l hh hlo hhi
    unfold sliceT at h
    split at h
    ·rename_i hcond
     obtain⟨c1,c2,c3,c4,c5⟩:=hcond
     obtain⟨rfl,_⟩:=Rd.run_ret_some h
     rw[hz]at hx
     generalize hv0:a.eval x=v0 at hx
     cases hx with
     |t _ _ h0=>exact fin _ rfl (by rw[hno hm];exact slice_tree hd hv0 h0 hsl hlo hhi ⟨c1,c2,c3⟩ c4 (by simpa using c5))
    ·exact(Rd.run_fail_some h).elim
   ·exact(Rd.run_fail_some h).elim
  ·rename_i lb v off nn hz hm
   obtain⟨acc',h,_⟩:=Rd.run_ask_some h
   split at h
   ·rename_i size es v' frz hl
    split at h
    ·rename_i l hh hlo hhi
     split at h
     ·rename_i hcond
      obtain⟨rfl,c2,c3,c4,c5⟩:=hcond
      obtain⟨rfl,_⟩:=Rd.run_ret_some h
      rw[hz]at hx
      generalize hv0:a.eval x=v0 at hx
      cases hx with
      | sl _ _ _ _ _ o' ho' hv' hh2 =>
        rw[hl]at ho'
        cases ho'
        have hsz:size≠0:=(M.objs lb _ hl).1
        exact fin _ rfl (by rw[hno hm];exact slice_own hd hl hv0 ((hh2 _ _ _ _ rfl).2 rfl) hsl hlo hhi ⟨c3,c4,c5⟩ (by omega) c2)
     ·exact(Rd.run_fail_some h).elim
    ·exact(Rd.run_fail_some h).elim
   ·exact(Rd.run_fail_some h).elim
  ·rename_i lb v off nn m hz hm
   obtain⟨acc',h',_⟩:=Rd.run_ask_some h
   clear h
   split at h'
   ·rename_i size es v' frz hl
    split at h'
    ·rename_i hh hlo hhi
     split at h'
     ·rename_i hcond
      obtain⟨rfl,c2,rfl,c4,c5,c6,c7,c8⟩:=hcond
      obtain⟨rfl,_⟩:=Rd.run_ret_some h'
      rw[hz]at hx
      generalize hv0:a.eval x=v0 at hx
      cases hx with
      | sl _ _ _ _ _ o' ho' hv' hh2 =>
        rw[hl]at ho'
        cases ho'
        have hsz:size≠0:=(M.objs lb _ hl).1
        obtain⟨k1,ad,cap,rfl,k3,k4,k5⟩:=(hh2 _ _ _ _ rfl).2 rfl
        have C:=M.trunc hl (k:=hh.toNat) (by omega) c8
        obtain⟨mo,rfl,hmo⟩:∃mo,mx=some mo∧evA s.f mo=m:=by cases mx<;>simp_all
        obtain⟨k',hk'⟩:=intOf_some c6
        have hme:=evA_rep hsl mo
        rw[hmo,hk']at hme
        have hme:=repA_int hme
        have hlo':lo=none:=by cases lo<;>simp_all
        subst hlo'
        obtain⟨hio,rfl,hio2⟩:∃hio,hi=some hio∧intOf (evA s.f hio)=some hh:=by cases hi<;>simp_all
        obtain⟨k2,hk2⟩:=intOf_some hio2
        have hhe:=evA_rep hsl hio
        rw[hk2]at hhe
        have hhe:=repA_int hhe
        refine Does.of_value hde hs hdst hsl (v:=.slice (if hh.toNat=0 then ad else ad.map (·.add 0)) hh.toNat hh.toNat) (w':=w) ?_ C ?_
        ·unfold execOp;rw[ho]
         simp only[Option.map_none,Option.map_some,hv0,hme,hhe,Sem.run_bind,run_slice3 hd (by omega) rfl rfl c4 (show hh≤cap by omega),Result.andThen_ok,Sem.run_pure]
        ·refine .sl lb _ _ _ _ _ (upd_same _ _ _) trivial fun size' es' v'' frz' e'=> ?_
         cases e'
         refine⟨Nat.le_refl _,fun _=>⟨by simp;omega,_,_,rfl,Nat.le_refl _,fun hn=> ?_,fun b hb _=> ?_⟩⟩
         ·obtain⟨rfl,rfl⟩:=k4 hn
          exact⟨by simp,by omega⟩
         ·obtain⟨rfl,cs,ty,fr,m1,m2⟩:=k5 b hb (.inl rfl)
          refine⟨by simp[addr_add],cs,ty,fr,m1,Nat.le_trans ?_ m2⟩
          exact Nat.mul_le_mul_right _ (by omega)
     ·exact(Rd.run_fail_some h').elim
    ·exact(Rd.run_fail_some h').elim
   ·exact(Rd.run_fail_some h').elim
  ·rename_i m hz hm
   split at h
   ·rename_i hh hlo hhi
    split at h
    ·rename_i hcond
     obtain⟨rfl,c2,c3⟩:=hcond
     obtain⟨rfl,_⟩:=Rd.run_ret_some h
     rw[hz]at hx
     generalize hv0:a.eval x=v0 at hx
     cases hx with
     | nil =>
       obtain⟨mo,rfl,hmo⟩:∃mo,mx=some mo∧evA s.f mo=m:=by cases mx<;>simp_all
       obtain⟨k',hk'⟩:=intOf_some c3
       have hme:=evA_rep hsl mo
       rw[hmo,hk']at hme
       have hme:=repA_int hme
       have hlo':lo=none:=by cases lo<;>simp_all
       subst hlo'
       obtain⟨hio,rfl,hio2⟩:∃hio,hi=some hio∧intOf (evA s.f hio)=some 0:=by cases hi<;>simp_all
       obtain⟨k2,hk2⟩:=intOf_some hio2
       have hhe:=evA_rep hsl hio
       rw[hk2]at hhe
       have hhe:=repA_int hhe
       refine fin _ rfl ⟨.slice none 0 0,?_,.nil⟩
       have h3:=run_slice3 (w:=w) hd c2 (ad:=none) (len:=0) (cap:=0) (hi:=.int k2 0) (mx:=.int k' 0) (h:=0) rfl rfl (by decide) (by decide)
       simpa [hv0,hme,hhe] using h3
    ·exact(Rd.run_fail_some h).elim
   ·exact(Rd.run_fail_some h).elim
  ·exact(Rd.run_fail_some h).elim
 ·exact(Rd.run_fail_some h).elim
end
section
variable {P:Program} {κ:Kap} {n:Nat} {a:Act} {w:World} {s:St} {φ:Inj} {S:Addr→Prop} {H:Heap}
theorem newRow_sl (M:Mem κ φ S H n w) {l:Lab} {w':World} {cs:Array Value} {ty:TypeId} {size cap v' frz':Nat} {es:List T} (hl:H l=none∨∃size0 es0 v frz,H l=some (.arr size0 es0 v frz)∧v<v')
  (hobj:l.isObj=false) (hfrz:frz'=0)
  (hw:w'.heap=w.heap.push (.cells cs ty (0,0))) (hos:w'.os=w.os) (htape:w'.tape=w.tape) (hout:w'.output=w.output)
  (hsz:size≠0) (hes:∀e∈es,e.cells.length=size) (hsc:∀e∈es,∀c∈e.cells,c.scal) (hcap:es.length≤cap) (hcs:cap*size≤cs.size)
  (hrep:∀(i j:Nat) (e c:T),es[i]?=some e→e.cells[j]?=some c→∃u,cs[i*size+j]?=some u∧RepT φ.objs w S c u):
  Chg κ φ S H w (upd φ l (some w.heap.size)) S (upd H l (some (.arr size es v' frz'))) n w'∧
   RepA (upd φ l (some w.heap.size)) (upd H l (some (.arr size es v' frz'))) w' S (.sl l v' 0 es.length) (.slice (some ⟨w.heap.size,0,none⟩) es.length cap):=by
 subst hfrz
 have hnew:w'.heap[w.heap.size]?=some (.cells cs ty (0,0)):=by rw[hw];simp
 have hφl:upd φ l (some w.heap.size) l=some w.heap.size:=upd_same _ _ _
 have C:Chg κ φ S H w (upd φ l (some w.heap.size)) S (upd H l (some (.arr size es v' 0))) n w':=by
  refine M.newRow hw hos htape hout ?_ (fun id e=>by subst e;cases hobj) (fun e=>by rw[hobj]at e;cases e) (Nat.le_refl _) fun av tv=> ?_
  ·rcases hl with hl|⟨s0,e0,v0,f0,h1,h2⟩
   ·exact .inl hl
   ·exact .inr ⟨_,_,_,_,_,_,_,_,h1,rfl,h2⟩
  ·refine⟨hsz,hes,hsc,Nat.zero_le _,fun e=>absurd (hφl.symm.trans e) (by simp),fun b hb=> ?_⟩
   rw[hφl]at hb
   cases hb
   refine⟨cs,ty,hnew,Nat.le_trans (Nat.mul_le_mul_right _ hcap) hcs,fun i j e c h1 h2=> ?_,fun i j h=>absurd h (Nat.not_lt_zero _)⟩
   obtain⟨u,g1,g2⟩:=hrep i j e c h1 h2
   exact⟨u,g1,tv _ _ g2⟩
 refine⟨C,.sl l _ _ _ _ _ (upd_same _ _ _) trivial fun size' es' v'' frz' e=> ?_⟩
 cases e
 refine⟨Nat.le_refl _,fun _=>⟨by omega,_,cap,rfl,hcap,fun e=>absurd (hφl.symm.trans e) (by simp),fun b hb _=> ?_⟩⟩
 rw[hφl]at hb
 cases hb
 exact⟨by simp,cs,ty,_,hnew,by simpa using hcs⟩
theorem zero1_rep {v:Value} {t:T} (h:zero1 v=some t) (O:Nat→Option Nat) (w:World) (S:Addr→Prop):t.scal∧RepT O w S t v:=by
 have hr:=const1_rep (fun l=>match l with|.obj id=>O id|_=>none) (fun _=>none) w S v
 unfold zero1 at h
 split at h
 ·rename_i t' ht
  cases h
  rw[ht]at hr
  cases hr with
  | t _ _ h0 =>
    refine⟨?_,h0⟩
    unfold const1 at ht
    split at ht<;>first|(cases ht;trivial)|cases ht
 ·rename_i ht
  cases h
  rw[ht]at hr
  cases hr with
  |nil=>exact⟨trivial,repT_nil _ _ _ _ _⟩
 ·cases h
theorem zerosT_rep:∀{vs:List Value} {ts:List T},zerosT vs=some ts→ts.length=vs.length∧∀(j:Nat) (c:T),ts[j]?=some c→c.scal∧∃v,vs[j]?=some v∧∀O w S,RepT O w S c v
 |[],ts,h=>by cases h;simp
 | v :: r, ts, h => by
   simp only[zerosT]at h
   split at h
   ·rename_i t ts' h1 h2
    cases h
    obtain⟨g1,g2⟩:=zerosT_rep h2
    refine⟨by simp[g1],fun j c hj=> ?_⟩
    cases j with
    | zero =>
      simp only[List.getElem?_cons_zero,Option.some.injEq]at hj
      subst hj
      exact⟨(zero1_rep h1 (fun _=>none) (default:World) (fun _=>False)).1,v,rfl,fun O w S=>(zero1_rep h1 O w S).2⟩
    |succ j=>simpa using g2 j c (by simpa using hj)
   ·cases h
theorem zeroT_rep {ti:TI} {z:T} (h:zeroT ti=some z):ti.size≠0∧z.cells.length=ti.size∧ti.zero.length=ti.size∧∀(j:Nat) (c:T),z.cells[j]?=some c→c.scal∧∃v,ti.zero[j]?=some v∧∀O w S,RepT O w S c v:=by
 unfold zeroT at h
 split at h
 ·rename_i cs hcs
  obtain⟨g1,g2⟩:=zerosT_rep hcs
  split at h
  ·rename_i hc
   obtain⟨c1,c2,c3⟩:=hc
   cases h
   by_cases hi:ti.isAgg=true
   ·rw[if_pos hi]
    exact⟨c2,c1,by omega,g2⟩
   ·rw[if_neg hi]
    have c4:ti.size=1:=c3.resolve_left hi
    obtain⟨c,rfl⟩:=List.length_eq_one_iff.1 (c1.trans c4)
    have hsc:=(g2 0 c rfl).1
    have hcell:c.cells=[c]:=by cases c<;>first|rfl|exact hsc.elim
    simp only[List.headD_cons,hcell]
    exact⟨c2,by simp[c4],by omega,g2⟩
  ·cases h
 ·cases h
theorem fresh_some {d:Option Tmp} {size:Nat} {es:List T} {m:Nat} {ws:List (Lab×Obj)} {y:Dl} {acc:List Lab} (h:(fresh d size es m ws).run H=some (y,acc)):
  ∃d',d=some d'∧H (.loc d' 0)=none∧y={v:=.sl (.loc d' 0) 0 0 m,w:=ws++[(.loc d' 0,.arr size es 0 0)]}:=by
 unfold fresh at h
 split at h
 ·rename_i d'
  obtain⟨acc',h,_⟩:=Rd.run_ask_some h
  split at h
  ·rename_i hl
   exact⟨d',rfl,hl,(Rd.run_ret_some h).1.symm⟩
  ·exact(Rd.run_fail_some h).elim
 ·exact(Rd.run_fail_some h).elim
theorem madeCells_get (z:Array Value) (N k:Nat) (hk:k<N):(madeCells z N)[k]?=some (z[k%z.size]!):=by
 simp[madeCells,hk]
theorem do_makeSlice {o:Oper} {t e:TypeId} {x c:Operand} {k k':IntKind} {m q:Int} {z:T} {y:Dl} {acc:List Lab} (ho:o.op=.makeSlice t x c) (hc:Conc κ n s a w) (hdst:∀d',o.dst=some d'→d'<n)
  (hd:(tiOf P t).d=.slice e) (hx:evA s.f x=.t (.int k m)) (hq:evA s.f c=.t (.int k' q)) (hz:zeroT (tiOf P e)=some z) (h0:0≤m) (h1:m≤q) (h2:q<big) (hb:(tiOf P e).bytes≤100)
  (h:(fresh o.dst (tiOf P e).size (List.replicate m.toNat z) m.toNat []).run s.h=some (y,acc)):Does P κ n a w o s y:=by
 obtain⟨hde,hs,φ,S,M,hsl⟩:=hc
 obtain⟨d,hd',hl,rfl⟩:=fresh_some h
 have g1:=evA_rep hsl x
 have g2:=evA_rep hsl c
 rw[hx]at g1;rw[hq]at g2
 have g1:=repA_int g1
 have g2:=repA_int g2
 obtain⟨z1,z2,z3,z4⟩:=zeroT_rep hz
 obtain⟨hu',i,hi,hi1,hi2,hi3⟩:=tiOf_info (tiOf_size z1)
 have hu:=(tiOf_info (P:=P) (t:=t) (by rw[hd];simp)).1
 rw[hd]at hu
 obtain⟨zv,hzv⟩:∃zv,i.zero=some zv:=by
  cases hq:i.zero with
  |some zv=>exact⟨zv,rfl⟩
  | none =>
    rw[hq]at hi3
    have e0:(tiOf P e).zero=[]:=by simpa using hi3.symm
    rw[e0]at z3;simp at z3;omega
 have hzc:zv.cells.toList=(tiOf P e).zero:=by rw[hzv]at hi3;simpa using hi3
 have hq2:q<2199023255552:=h2
 have hbyt:(i.bytes:Int)*q≤281474976710656:=by
  have:i.bytes≤100:=by omega
  have:(i.bytes:Int)*q≤100*q:=Int.mul_le_mul_of_nonneg_right (by omega) (by omega)
  omega
 have hr:=run_make (P:=P) w t e i zv hu hi hzv k k' m q h0 h1 hbyt (by omega)
 have hlen:(List.replicate m.toNat z).length=m.toNat:=by simp
 have N := newRow_sl (κ := κ) M (l := .loc d 0) (w' := w.alloc (.cells (madeCells zv.cells (q.toNat * i.size)) e)) (cs := madeCells zv.cells (q.toNat * i.size)) (ty := e) (size := (tiOf P e).size) (cap := q.toNat) (v' := 0) (frz' := 0)
  (es:=List.replicate m.toNat z) (.inl hl) rfl rfl rfl rfl rfl rfl z1 (fun el hel=>by rw[List.eq_of_mem_replicate hel];exact z2)
  (fun el hel c hc=>by
    rw[List.eq_of_mem_replicate hel]at hc
    obtain⟨j,hj⟩:=List.getElem?_of_mem hc
    exact(z4 j c hj).1)
  (by rw[hlen];omega) (by rw[size_madeCells,hi1];exact Nat.le_refl _)
  (fun i' j el c hel hcj=>by
    have hel':el=z:=by
      have:=List.mem_of_getElem? hel
      exact List.eq_of_mem_replicate this
    subst hel'
    have hi':i'<m.toNat:=by have:=(List.getElem?_eq_some_iff.1 hel).1;simpa using this
    obtain⟨_,v,hv,hrep⟩:=z4 j c hcj
    have hj:j<(tiOf P e).size:=by have:=(List.getElem?_eq_some_iff.1 hcj).1;omega
    refine⟨v,?_,hrep _ _ _⟩
    have hlt:i'*(tiOf P e).size+j<q.toNat*i.size:=by
      rw[hi1]
      have:i'+1≤q.toNat:=by omega
      have:=Nat.mul_le_mul_right (tiOf P e).size this
      rw[Nat.add_mul,Nat.one_mul]at this
      omega
    have hzs:zv.cells.size=(tiOf P e).size:=by rw[←Array.length_toList,hzc,z3]
    have hmod:(i'*(tiOf P e).size+j)%zv.cells.size=j:=by
      rw[hzs,Nat.add_comm,Nat.add_mul_mod_self_right,Nat.mod_eq_of_lt hj]
    rw[←hzc]at hv
    have hv':zv.cells[j]?=some v:=by simpa using hv
    rw[madeCells_get _ _ _ hlt,hmod,getElem!_def,hv'])
 rw[hlen]at N
 refine Does.of_value hde hs hdst hsl ?_ N.1 N.2
 unfold execOp;rw[ho]
 simp only[g1,g2,Sem.run_bind,hr,Result.andThen_ok,Sem.run_pure]
end
theorem upd_upd {α β:Type} [DecidableEq α] (f:α→β) (a:α) (b c:β):upd (upd f a b) a c=upd f a c:=by
 funext x;unfold upd;split<;>rfl
section
variable {P:Program} {κ:Kap} {n:Nat} {a:Act} {w:World} {s:St} {φ:Inj} {S:Addr→Prop} {H:Heap}
theorem Mem.newEmpty (M:Mem κ φ S H n w) {l:Lab} (hl:H l=none) (hobj:∀id,l≠.obj id) {size:Nat} (hsz:size≠0):
  Chg κ φ S H w φ S (upd H l (some (.arr size [] 0 0))) n w∧RepA φ (upd H l (some (.arr size [] 0 0))) w S (.sl l 0 0 0) (.slice none 0 0):=by
 have hφ:=M.dom l hl
 have hstep:∀l' o,H l'=some o→∃o',upd H l (some (.arr size [] 0 0)) l'=some o'∧LStep φ φ w w l' o o':=by
  intro l' o ho
  by_cases e:l'=l
  ·subst e;rw[hl]at ho;cases ho
  ·exact⟨o,by rw[upd_ne _ _ _ _ e];exact ho,LStep.refl o fun b cs ty fr _ h=>⟨cs,ty,fr,h,Nat.le_refl _⟩⟩
 refine⟨⟨?_,fun y u h=>h.mono (fun _ _ h=>h) (fun _ h=>h) (fun _ _ _ h=>h) hstep,fun _ _ h=>h⟩,?_⟩
 ·refine{M with fldk:=M.fldk.step hstep,dom:=fun l' e=> ?_,objs:=fun l' o ho=> ?_,stab:= ?_,nx:=fun id hid=> ?_}
  ·by_cases h:l'=l
   ·subst h;exact hφ
   ·rw[upd_ne _ _ _ _ h]at e;exact M.dom l' e
  ·by_cases h:l'=l
   ·subst h
    rw[upd_same]at ho
    cases ho
    exact⟨hsz,by simp,by simp,Nat.le_refl _,fun _=>rfl,fun b hb=>by rw[hφ]at hb;cases hb⟩
   ·rw[upd_ne _ _ _ _ h]at ho
    exact(M.objs l' o ho).mono (fun _ _ h=>h) (fun _ h=>h) (fun _ _ _ h=>h) hstep rfl fun _ _=>rfl
  ·rintro ad h ⟨l',o,ho,hφ',hm⟩
   by_cases e:l'=l
   ·subst e;rw[hφ]at hφ';cases hφ'
   ·rw[upd_ne _ _ _ _ e]at ho
    exact M.stab ad h ⟨l',o,ho,hφ',hm⟩
  ·rw[upd_ne _ _ _ _ (hobj id).symm];exact M.nx id hid
 ·refine .sl l _ _ _ _ _ (upd_same _ _ _) trivial fun size' es' v'' frz' e=> ?_
  cases e
  exact⟨Nat.le_refl _,fun _=>⟨by simp,none,0,rfl,Nat.le_refl _,fun _=>⟨rfl,rfl⟩,fun b hb=>by rw[hφ]at hb;cases hb⟩⟩
theorem elemsOf_rep (M : Mem κ φ S H n w) {x : AV} {v : Value} {ys : List T} {acc : List Lab} {sz : Nat} (h : (elemsOf x).run H = some (ys, acc)) (hx : RepA φ H w S x v) (hsz : sz ≠ 0) (hall : ∀ e ∈ ys, e.cells.length = sz) :
  (∀e∈ys,∀c∈e.cells,c.scal)∧∃ad c,v=.slice ad ys.length c∧(ys≠[]→∃b o,ad=some ⟨b,o,none⟩∧∃news:List Value,news.length=ys.length*sz∧
    (∀j u,news[j]?=some u→w.cell? ⟨b,o+j,none⟩=some u)∧(∀u∈news,u.scal)∧
    ∀(i j:Nat) (e c:T),ys[i]?=some e→e.cells[j]?=some c→∃u,news[i*sz+j]?=some u∧RepT φ.objs w S c u):=by
 have build:∀(b o:Nat),(∀e∈ys,∀c∈e.cells,c.scal)→(∀(i j:Nat) (e c:T),ys[i]?=some e→e.cells[j]?=some c→∃u,w.cell? ⟨b,o+(i*sz+j),none⟩=some u∧RepT φ.objs w S c u)→
   ∃news:List Value,news.length=ys.length*sz∧(∀j u,news[j]?=some u→w.cell? ⟨b,o+j,none⟩=some u)∧(∀u∈news,u.scal)∧
   ∀(i j:Nat) (e c:T),ys[i]?=some e→e.cells[j]?=some c→∃u,news[i*sz+j]?=some u∧RepT φ.objs w S c u:=by
  intro b o hscal hcells
  have key:∀k,k<ys.length*sz→∃u,w.cell? ⟨b,o+k,none⟩=some u∧u.scal:=by
   intro k hk
   have hi:k/sz<ys.length:=Nat.div_lt_of_lt_mul (by rw[Nat.mul_comm];exact hk)
   have hj:k%sz<sz:=Nat.mod_lt _ (Nat.pos_of_ne_zero hsz)
   have he:=List.getElem?_eq_getElem hi
   have hmem:=List.getElem_mem hi
   have hlen:=hall _ hmem
   obtain⟨u,h1,h2⟩:=hcells (k/sz) (k%sz) _ _ he (List.getElem?_eq_getElem (by rw[hlen];exact hj))
   rw[Nat.mul_comm,Nat.div_add_mod]at h1
   exact⟨u,h1,h2.scal (hscal _ hmem _ (List.getElem_mem _))⟩
  refine⟨(List.range (ys.length*sz)).map fun k=>(w.cell? ⟨b,o+k,none⟩).getD undef,by simp,fun j u hj=> ?_,fun u hu=> ?_,fun i j e c he hc=> ?_⟩
  ·rw[List.getElem?_map]at hj
   by_cases hlt:j<ys.length*sz
   ·rw[List.getElem?_range hlt]at hj
    obtain⟨u',h1,_⟩:=key j hlt
    simp only[Option.map_some,h1,Option.getD_some,Option.some.injEq]at hj
    subst hj;exact h1
   ·rw[List.getElem?_eq_none (by simpa using hlt)]at hj;cases hj
  ·obtain⟨k,hk,rfl⟩:=List.mem_map.1 hu
   obtain⟨u',h1,h2⟩:=key k (List.mem_range.1 hk)
   rw[h1];exact h2
  ·obtain⟨u,h1,h2⟩:=hcells i j e c he hc
   have hi:=(List.getElem?_eq_some_iff.1 he).1
   have hj:j<sz:=by
    have:=(List.getElem?_eq_some_iff.1 hc).1
    rw[hall e (List.mem_of_getElem? he)]at this
    exact this
   have hlt:i*sz+j<ys.length*sz:=by
    have:=Nat.mul_le_mul_right sz (show i+1≤ys.length by omega)
    rw[Nat.add_mul,Nat.one_mul]at this
    omega
   exact⟨u,by rw[List.getElem?_map,List.getElem?_range hlt];simp[h1],h2⟩
 unfold elemsOf at h
 split at h
 ·obtain⟨rfl,_⟩:=Rd.run_ret_some h
  cases hx with
  |nil=>exact⟨by simp,none,0,rfl,fun h=>(h rfl).elim⟩
 ·rename_i es
  obtain⟨rfl,_⟩:=Rd.run_ret_some h
  cases hx with
  | t _ _ h0 => cases h0 with
    | slice _ a0 ad cap size u hcap ha hszs hsc hcc hr =>
      refine⟨hsc,a0,cap,rfl,fun hne=> ?_⟩
      obtain⟨rfl,hsp⟩:=ha hne
      obtain⟨b,o,sp⟩:=ad
      simp only at hsp
      subst hsp
      have hs2:size=sz:=by
       obtain⟨el,hel⟩:=List.exists_mem_of_ne_nil es hne
       rw[←hszs el hel,hall el hel]
      subst hs2
      exact⟨b,o,rfl,build b o hsc fun i j e c he hc=>⟨u i j,by have:=(hcc i j e c he hc).1;rwa [Nat.add_assoc]at this,hr i j e c he hc⟩⟩
 ·rename_i l ver off len
  obtain⟨acc',h,_⟩:=Rd.run_ask_some h
  cases hx with
  | sl _ _ _ _ _ o' ho' hv' hh =>
    rw[ho']at h
    cases o' with
    |box=>exact(Rd.run_fail_some h).elim
    |map=>exact(Rd.run_fail_some h).elim
    |dead=>exact(Rd.run_fail_some h).elim
    | arr size es v' frz =>
      simp only at h
      split at h
      ·rename_i hver
       obtain⟨rfl,_⟩:=Rd.run_ret_some h
       obtain⟨o1,o2,o3,o4,o5,o6⟩:=M.objs l _ ho'
       obtain⟨k1,ad,cap,rfl,k3,k4,k5⟩:=(hh _ _ _ _ rfl).2 hver
       have hlen:((es.drop off).take len).length=len:=by simp;omega
       have hsc:∀e∈(es.drop off).take len,∀c∈e.cells,c.scal:=fun e he=>o3 e (List.mem_of_mem_drop (List.mem_of_mem_take he))
       refine⟨hsc,ad,cap,by rw[hlen],fun hne=> ?_⟩
       have hpos:0<len:=by
        rcases Nat.eq_zero_or_pos len with h0|h0
        ·subst h0;simp at hne
        ·exact h0
       have hs2:size=sz:=by
        obtain⟨el,hel⟩:=List.exists_mem_of_ne_nil _ hne
        rw[←o2 el (List.mem_of_mem_drop (List.mem_of_mem_take hel)),hall el hel]
       subst hs2
       cases hφ:φ l with
       |none=>have:=o5 hφ;subst this;simp at k1;omega
       | some b =>
         obtain⟨rfl,cs0,ty0,fr0,m1,m2⟩:=k5 b hφ (.inr hpos)
         obtain⟨cs,ty,g1,g2,g3,g4⟩:=o6 b hφ
         refine⟨b,off*size,rfl,build b _ hsc fun i j e c he hc=> ?_⟩
         rw[List.getElem?_take]at he
         split at he
         ·rw[List.getElem?_drop]at he
          obtain⟨u,q1,q2⟩:=g3 (off+i) j e c he hc
          refine⟨u,?_,q2⟩
          rw[cell?_eq g1,←q1,Nat.add_mul,Nat.add_assoc]
         ·cases he
      ·exact(Rd.run_fail_some h).elim
 ·exact(Rd.run_fail_some h).elim
theorem oneCell_of_scal {v:Value} (h:v.scal):v.oneCell'=true:=by cases v<;>first|rfl|exact h.elim
theorem run_append_room' (t ty e e':TypeId) (i:TypeInfo) (ht:P.underlying t=some (.slice e)) (hi:P.info? e=some i)
  (g sLen sCap:Nat) (cur:Array Value) (hg:w.heap[g]?=some (.cells cur e' (0,0)))
  (ad:Addr) (m c:Nat) (news:List Value) (hl:news.length=m*i.size) (hnews:∀j u,news[j]?=some u→w.cell? (ad.add j)=some u) (h1:∀u∈news,u.oneCell'=true)
  (hroom:sLen+m≤sCap) (hfit:sLen*i.size+news.length≤cur.size):
  (Builtin.append_ #[t,t] ty #[.slice (some ⟨g,0,none⟩) sLen sCap,.slice (some ad) m c]).run P w=
   .ok (.slice (some ⟨g,0,none⟩) (sLen+m) sCap) (w.setRow g (cur.toList.take (sLen*i.size)++news++cur.toList.drop (sLen*i.size+news.length)).toArray):=by
 have hf:=run_firstCells_some (P:=P) w i.size m ad m c news hl hnews
 have hst:=run_storeCells_at P g (sLen*i.size) e' news 0 cur w hg (by simpa using hfit) h1
 simp only[Nat.add_zero]at hst
 simp[Builtin.append_,run_underlying ht,sizeOf,typeInfo,hi,Builtin.lenOf,hroom,hf,Addr.add_lit,hst]
theorem run_append_none (t ty e:TypeId) (i:TypeInfo) (ht:P.underlying t=some (.slice e)) (hi:P.info? e=some i) (base:Option Addr) (sLen sCap:Nat) (hle:sLen≤sCap) (ad:Option Addr) (c:Nat):
  (Builtin.append_ #[t,t] ty #[.slice base sLen sCap,.slice ad 0 c]).run P w=.ok (.slice base sLen sCap) w:=by
 cases ad<;>cases base<;>simp[Builtin.append_,run_underlying ht,sizeOf,typeInfo,hi,Builtin.lenOf,hle,Builtin.firstCells,loadCells,loadCellsFrom,storeCells]
theorem elem_info {e:TypeId} (hz:(tiOf P e).zero.length=(tiOf P e).size) (hs:(tiOf P e).size≠0):∃i z,P.info? e=some i∧i.zero=some z∧i.size=(tiOf P e).size∧i.bytes=(tiOf P e).bytes:=by
 obtain⟨_,i,h1,h2,h3,h4⟩:=tiOf_info (tiOf_size hs)
 cases hq:i.zero with
 |some z=>exact⟨i,z,h1,hq,h2,h3⟩
 | none =>
   rw[hq]at h4
   have e0:(tiOf P e).zero=[]:=by simpa using h4.symm
   rw[e0]at hz;simp at hz;omega
theorem getElem?_append3 {α:Type} (A B C:List α) (k:Nat):(A++B++C)[k]?=if k<A.length then A[k]? else if k<A.length+B.length then B[k-A.length]? else C[k-(A.length+B.length)]?:=by
 rw[List.getElem?_append]
 split
 ·rename_i h
  rw[List.getElem?_append]
  simp only[List.length_append]at h
  split
  ·rfl
  ·rfl
 ·rename_i h
  simp only[List.length_append]at h
  rw[if_neg (by omega),if_neg (by omega),List.length_append]
theorem cells_of_append {es ys:List T} {size:Nat} {blk:List Value} {Rp:T→Value→Prop} (hes:∀e∈es,e.cells.length=size) (hys:∀e∈ys,e.cells.length=size)
  (h1:∀(i j:Nat) (e c:T),es[i]?=some e→e.cells[j]?=some c→∃u,blk[i*size+j]?=some u∧Rp c u)
  (h2:∀(i j:Nat) (e c:T),ys[i]?=some e→e.cells[j]?=some c→∃u,blk[es.length*size+(i*size+j)]?=some u∧Rp c u)
  (i j:Nat) (e c:T) (he:(es++ys)[i]?=some e) (hc:e.cells[j]?=some c):∃u,blk[i*size+j]?=some u∧Rp c u:=by
 rw[List.getElem?_append]at he
 split at he
 ·exact h1 i j e c he hc
 ·rename_i hge
  obtain⟨u,g1,g2⟩:=h2 (i-es.length) j e c he hc
  refine⟨u,?_,g2⟩
  rw[←g1]
  congr 1
  rw[←Nat.add_assoc,←Nat.add_mul,show es.length+(i-es.length)=i by omega]
set_option maxHeartbeats 800000 in
theorem do_append {o : Oper} {t e : TypeId} {x y : Operand} {z : Dl} {acc : List Lab} (ho : o.op = .call { callee := .builtin .append, args := #[x, y], argTypes := #[t, t] }) (hc : Conc κ n s a w) (hdst : ∀ d', o.dst = some d' → d' < n)
  (hd:(tiOf P t).d=.slice e) (hz:(tiOf P e).zero.length=(tiOf P e).size) (hs0:(tiOf P e).size≠0)
  (h:(appendA o.dst (tiOf P e).size (tiOf P e).bytes (evA s.f x) (evA s.f y)).run s.h=some (z,acc)):Does P κ n a w o s z:=by
 obtain⟨hde,hs,φ,S,M,hsl⟩:=hc
 have hx:=evA_rep hsl x
 have hy:=evA_rep hsl y
 obtain⟨i,zv,hi,hzv,hi1,hi2⟩:=elem_info hz hs0
 have hu:=(tiOf_info (P:=P) (t:=t) (by rw[hd];simp)).1
 rw[hd]at hu
 have fin:∀v w' φ' S',(Builtin.append_ #[t,t] o.type #[a.eval x,a.eval y]).run P w=.ok v w'→Chg κ φ S s.h w φ' S' (writes s.h z.w) (s.nxt+z.nx) w'→RepA φ' (writes s.h z.w) w' S' z.v v→Does P κ n a w o s z:=fun v w' φ' S' h1 h2 h3=>by
  refine Does.of_value hde hs hdst hsl ?_ h2 h3
  have:=exec_builtin (P:=P) (a:=a) (w:=w) ho ((Builtin.append_ #[t,t] o.type #[a.eval x,a.eval y]).run P w) (fun cs=>by simp[builtin])
  rw[this,h1];rfl
 unfold appendA at h
 obtain⟨ys,acc1,acc2,h1,h2,_⟩:=Rd.run_bind_some h
 clear h
 split at h2
 rotate_left
 ·exact(Rd.run_fail_some h2).elim
 rename_i hcond
 obtain⟨hby,hall⟩:=hcond
 have hall:∀el∈ys,el.cells.length=(tiOf P e).size:=by simpa using hall
 obtain⟨hscal,ady,cy,hyv,hyc⟩:=elemsOf_rep M h1 hy hs0 hall
 have hbig:big=2199023255552:=rfl
 -- onto nothing: a new row, if there is something
 have onto:∀(l:Lab) (v':Nat) (es:List T),es=[]→l.isObj=false→(s.h l=none∨∃size0 es0 v frz,s.h l=some (.arr size0 es0 v frz)∧v<v')→ys.length<big→ys≠[]→a.eval x=.slice none 0 0→
   ∃w' v φ',(Builtin.append_ #[t,t] o.type #[a.eval x,a.eval y]).run P w=.ok v w'∧Chg κ φ S s.h w φ' S (upd s.h l (some (.arr (tiOf P e).size (es++ys) v' 0))) s.nxt w'∧
    RepA φ' (upd s.h l (some (.arr (tiOf P e).size (es++ys) v' 0))) w' S (.sl l v' 0 ys.length) v:=by
  intro l v' es hes hobj hl hlt hne hxv
  subst hes
  obtain⟨b,off,rfl,news,n1,n2,n3,n4⟩:=hyc hne
  have hpos:0<ys.length:=List.length_pos_iff.2 hne
  have hr:=run_append_nil (P:=P) w t o.type e i zv hu hi hzv ⟨b,off,none⟩ ys.length cy news (by rw[n1,hi1]) (fun j u hj=>by rw[addr_add];exact n2 j u hj) hpos (by omega) (by
    have:ys.length*i.bytes≤2199023255552*100:=Nat.mul_le_mul (by omega) (by omega)
    omega)
  have N := newRow_sl (κ := κ) M (l := l) (w' := w.drew.alloc (.cells (news.toArray ++ Builtin.zeroCells zv.cells (grownCap w ys.length 0 e - ys.length)) e)) (cs := news.toArray ++ Builtin.zeroCells zv.cells (grownCap w ys.length 0 e - ys.length)) (ty := e)
   (size:=(tiOf P e).size) (cap:=grownCap w ys.length 0 e) (v':=v') (frz':=0) (es:=ys) hl hobj rfl rfl rfl rfl rfl hs0 hall hscal (grownCap_ge w _ _ _) (by
     have hzs:zv.cells.size=(tiOf P e).size:=by
       obtain⟨_,i',q1,q2,q3,q4⟩:=tiOf_info (tiOf_size hs0)
       rw[hi]at q1;cases q1
       rw[hzv]at q4
       have:zv.cells.toList=(tiOf P e).zero:=by simpa using q4
       rw[←Array.length_toList,this,hz]
     simp only[Array.size_append,List.size_toArray,size_zeroCells,n1,hzs,←Nat.add_mul]
     have:=grownCap_ge w ys.length 0 e
     rw[show ys.length+(grownCap w ys.length 0 e-ys.length)=grownCap w ys.length 0 e by omega]
     exact Nat.le_refl _)
   (fun i' j el c he hc=>by
     obtain⟨u,g1,g2⟩:=n4 i' j el c he hc
     refine⟨u,?_,g2⟩
     have:=(List.getElem?_eq_some_iff.1 g1).1
     rw[Array.getElem?_append,if_pos (by simpa using this)]
     simpa using g1)
  refine⟨_,_,upd φ l (some w.heap.size),by rw[hxv,hyv];exact hr,?_,?_⟩
  ·simpa using N.1
  ·simpa using N.2
 split at h2
 ·-- nil
  rename_i hxe
  rw[hxe]at hx
  have hxv:a.eval x=.slice none 0 0:=by
   generalize a.eval x=v0 at hx
   cases hx;rfl
  split at h2
  rotate_left
  ·exact(Rd.run_fail_some h2).elim
  rename_i hlt
  obtain⟨d,hd',hl,rfl⟩:=fresh_some h2
  by_cases hne:ys=[]
  ·subst hne
   have E:=M.newEmpty hl (fun id=>by simp) hs0
   exact fin _ w φ S (by rw[hxv,hyv];exact run_append_none t o.type e i hu hi none 0 0 (Nat.le_refl _) ady cy) E.1 E.2
  ·obtain⟨w',v,φ',g1,g2,g3⟩:=onto (.loc d 0) 0 [] rfl rfl (.inl hl) hlt hne hxv
   exact fin v w' φ' S g1 g2 g3
 ·-- a row of one's own
  rename_i l v off nn hxe
  obtain⟨acc',h2,_⟩:=Rd.run_ask_some h2
  split at h2
  rotate_left
  ·exact(Rd.run_fail_some h2).elim
  rename_i size es v' frz hl
  split at h2
  rotate_left
  ·exact(Rd.run_fail_some h2).elim
  rename_i hcond
  obtain⟨rfl,rfl,rfl,rfl,hlt,hobj0⟩:=hcond
  obtain⟨rfl,_⟩:=Rd.run_ret_some h2
  rw[hxe]at hx
  have hobj:l.isObj=false:=hobj0
  generalize hxv:a.eval x=v0 at hx
  cases hx with
  | sl _ _ _ _ _ o' ho' hv' hh =>
    rw[hl]at ho'
    cases ho'
    obtain⟨k1,ad,cap,rfl,k3,k4,k5⟩:=(hh _ _ _ _ rfl).2 rfl
    obtain⟨o1,o2,o3,o4,o5,o6⟩:=M.objs l _ hl
    -- freezing behind
    have post:∀f0,(frz=0→f0=0)→∀w' φ' S' u,(Builtin.append_ #[t,t] o.type #[a.eval x,a.eval y]).run P w=.ok u w'→Chg κ φ S s.h w φ' S' (upd s.h l (some (.arr (tiOf P e).size (es++ys) (v+1) f0))) s.nxt w'→
     RepA φ' (upd s.h l (some (.arr (tiOf P e).size (es++ys) (v+1) f0))) w' S' (.sl l (v+1) 0 (es.length+ys.length)) u→Does P κ n a w o s {v:=.sl l (v+1) 0 (es.length+ys.length),w:=[(l,.arr (tiOf P e).size (es++ys) (v+1) (if frz=0 then 0 else es.length+ys.length))]}:=by
     intro f0 hf0 w' φ' S' u g1 g2 g3
     by_cases hf:frz=0
     ·obtain rfl:=hf0 hf
      subst hf
      exact fin u w' φ' S' g1 g2 g3
     ·have F:=g2.mem.freeze (l:=l) (upd_same _ _ _)
      rw[upd_upd,List.length_append]at F
      obtain⟨S2,F⟩:∃S2,Chg κ φ' S' (upd s.h l (some (.arr (tiOf P e).size (es++ys) (v+1) f0))) w' φ' S2 (upd s.h l (some (.arr (tiOf P e).size (es++ys) (v+1) (es.length+ys.length)))) s.nxt w':=⟨_,F⟩
      refine fin u w' φ' S2 g1 (?_:Chg κ φ S s.h w φ' _ (upd s.h l (some (.arr (tiOf P e).size (es++ys) (v+1) (if frz=0 then 0 else es.length+ys.length)))) s.nxt w') ?_
      ·rw[if_neg hf];exact g2.trans F
      ·show RepA φ' (upd s.h l (some (.arr (tiOf P e).size (es++ys) (v+1) (if frz=0 then 0 else es.length+ys.length)))) w' _ _ _
       rw[if_neg hf];exact F.av _ _ g3
    by_cases hne:ys=[]
    ·-- nothing
     subst hne
     have Tr:=M.trunc hl (k:=es.length) (Nat.le_refl _) o4
     rw[List.take_length]at Tr
     refine post frz id w φ S (.slice ad es.length cap) (by rw[hxv,hyv];exact run_append_none t o.type e i hu hi ad es.length cap k3 ady cy) (by simpa using Tr) ?_
     refine .sl l _ _ _ _ _ (upd_same _ _ _) (show Value.scal (.slice _ _ _) from trivial) fun size' es' v'' frz' e'=> ?_
     cases e'
     exact⟨Nat.le_refl _,fun _=>⟨by simp,ad,cap,by simp,by simpa using k3,k4,k5⟩⟩
    ·cases hφ : φ l with
     | none =>
       -- no memory as yet
       obtain rfl:=o5 hφ
       obtain⟨rfl,rfl⟩:=k4 hφ
       have hf:frz=0:=by simpa using o4
       subst hf
       obtain⟨w',u,φ',g1,g2,g3⟩:=onto l (v+1) [] rfl hobj (.inr ⟨_,_,_,_,hl,Nat.lt_succ_self _⟩) (by simpa using hlt) hne (by rw[hxv];rfl)
       refine post 0 (fun _=>rfl) w' φ' S u g1 g2 ?_
       simpa using g3
     | some b =>
       obtain⟨had,cs0,ty0,fr0,m1,m2⟩:=k5 b hφ (.inl rfl)
       obtain⟨cs,ty,g1,g2,g3,g4⟩:=o6 b hφ
       rw[g1]at m1
       have m1:=Option.some.inj m1
       injection m1 with e1 e2 e3
       subst e1
       simp only[Nat.zero_mul,Nat.zero_add]at had m2
       subst had
       obtain⟨by_,oy,rfl,news,n1,n2,n3,n4⟩:=hyc hne
       have hpos:0<ys.length:=List.length_pos_iff.2 hne
       by_cases hroom:es.length+ys.length≤cap
       ·-- in its place
        have hfit:es.length*(tiOf P e).size+news.length≤cs.size:=by
         rw[n1,←Nat.add_mul]
         exact Nat.le_trans (Nat.mul_le_mul_right _ hroom) m2
        have hr:=run_append_room' (P:=P) (w:=w) t o.type e ty i hu hi b es.length cap cs g1 ⟨by_,oy,none⟩ ys.length cy news (by rw[n1,hi1]) (fun j u hj=>by rw[addr_add];exact n2 j u hj) (fun u hu=>oneCell_of_scal (n3 u hu)) hroom (by rw[hi1];exact hfit)
        rw[hi1]at hr
        have hlenT:(cs.toList.take (es.length*(tiOf P e).size)).length=es.length*(tiOf P e).size:=by simp;omega
        have hget:∀k,(cs.toList.take (es.length*(tiOf P e).size)++news++cs.toList.drop (es.length*(tiOf P e).size+news.length))[k]?=
         if k<es.length*(tiOf P e).size then cs[k]? else if k<es.length*(tiOf P e).size+news.length then news[k-es.length*(tiOf P e).size]? else cs[k]?:=by
         intro k
         rw[getElem?_append3,hlenT]
         split
         ·rename_i hk
          rw[List.getElem?_take,if_pos hk];simp
         ·split
          ·rfl
          ·rename_i hk1 hk2
           rw[List.getElem?_drop,show es.length*(tiOf P e).size+news.length+(k-(es.length*(tiOf P e).size+news.length))=k by omega];simp
        have hfz:frz*(tiOf P e).size≤es.length*(tiOf P e).size:=Nat.mul_le_mul_right _ o4
        have hSm:∀off,S ⟨b,off,none⟩→off<frz*(tiOf P e).size:=fun off hS=>by
         rcases Nat.lt_or_ge off (frz*(tiOf P e).size) with h'|h'
         ·exact h'
         ·exact absurd ⟨l,_,hl,hφ,h'⟩ (M.stab _ hS)
        have W := M.write (w' := w.setRow b (cs.toList.take (es.length * (tiOf P e).size) ++ news ++ cs.toList.drop (es.length * (tiOf P e).size + news.length)).toArray)
         (o':=.arr (tiOf P e).size (es++ys) (v+1) frz) hl hφ g1 (fun k hk=>setRow_other w b k _ hk) (setRow_heap w b cs _ ty _ g1) (size_setRow _ _ _) rfl rfl rfl
         (by simp;omega) (fun off hS=>by
           rw[List.getElem?_toArray,hget,if_pos (by have:=hSm off hS;omega)])
         ⟨Nat.le_succ _,fun h'=>by omega⟩ (fun ad' h' hb' hop=>M.stab ad' h' ⟨l,_,hl,by rw[hb'];exact hφ,hop⟩)
         (fun av tv => by
           refine⟨hs0,fun el hel=> ?_,fun el hel=> ?_,by simp;omega,fun h'=>(by rw[hφ]at h';cases h'),fun b' hb'=> ?_⟩
           · rcases List.mem_append.1 hel with h' | h'
             ·exact o2 el h'
             ·exact hall el h'
           · rcases List.mem_append.1 hel with h' | h'
             ·exact o3 el h'
             ·exact hscal el h'
           · rw [hφ] at hb'
             cases hb'
             refine⟨_,ty,setRow_heap w b cs _ ty _ g1,?_,fun i' j el c he hc=> ?_,g4⟩
             · simp only [List.size_toArray, List.length_append, List.length_drop, hlenT, n1, Array.length_toList, Nat.add_mul]
               omega
             · have := cells_of_append (blk := cs.toList.take (es.length * (tiOf P e).size) ++ news ++ cs.toList.drop (es.length * (tiOf P e).size + news.length)) (Rp := fun c u => RepT φ.objs (w.setRow b (cs.toList.take (es.length * (tiOf P e).size) ++ news ++ cs.toList.drop (es.length * (tiOf P e).size + news.length)).toArray) S c u) o2 hall
                 (fun i j e' c he hc=>by
                   obtain⟨u,q1,q2⟩:=g3 i j e' c he hc
                   refine⟨u,?_,tv _ _ q2⟩
                   have hi':=(List.getElem?_eq_some_iff.1 he).1
                   have hj':=(List.getElem?_eq_some_iff.1 hc).1
                   rw[o2 e' (List.mem_of_getElem? he)]at hj'
                   have hlt':i*(tiOf P e).size+j<es.length*(tiOf P e).size:=by
                     have:=Nat.mul_le_mul_right (tiOf P e).size (show i+1≤es.length by omega)
                     rw[Nat.add_mul,Nat.one_mul]at this
                     omega
                   rw[hget,if_pos hlt'];exact q1)
                 (fun i j e' c he hc=>by
                   obtain⟨u,q1,q2⟩:=n4 i j e' c he hc
                   refine⟨u,?_,tv _ _ q2⟩
                   have hlt':=(List.getElem?_eq_some_iff.1 q1).1
                   rw[hget,if_neg (by omega),if_pos (by omega),show es.length*(tiOf P e).size+(i*(tiOf P e).size+j)-es.length*(tiOf P e).size=i*(tiOf P e).size+j by omega];exact q1)
                 i' j el c he hc
               obtain⟨u,q1,q2⟩:=this
               exact⟨u,by rw[List.getElem?_toArray];exact q1,q2⟩)
        refine post frz id _ φ S _ (by rw[hxv,hyv];exact hr) W ?_
        refine .sl l _ _ _ _ _ (upd_same _ _ _) (show Value.scal (.slice _ _ _) from trivial) fun size' es' v'' frz' e'=> ?_
        cases e'
        refine⟨Nat.le_refl _,fun _=>⟨by simp,_,cap,rfl,hroom,fun h'=>(by rw[hφ]at h';cases h'),fun b' hb' _=> ?_⟩⟩
        rw[hφ]at hb'
        cases hb'
        refine⟨by simp,_,ty,_,setRow_heap w b cs _ ty _ g1,?_⟩
        simp only[List.size_toArray,List.length_append,List.length_drop,hlenT,Array.length_toList,Nat.zero_add]
        omega
       ·-- in a new block
        have hlo:(cs.toList.take (es.length*(tiOf P e).size)).length=es.length*(tiOf P e).size:=by
         have:=Nat.mul_le_mul_right (tiOf P e).size k3
         simp;omega
        have hr:=run_append_grow (P:=P) w t o.type e i zv hu hi hzv ⟨b,0,none⟩ es.length cap (cs.toList.take (es.length*(tiOf P e).size)) (by rw[hlo,hi1]) (fun j u hj=>by
            rw[addr_add,Nat.zero_add,cell?_eq g1]
            rw[List.getElem?_take]at hj
            split at hj
            ·simpa using hj
            ·cases hj)
         ⟨by_,oy,none⟩ ys.length cy news (by rw[n1,hi1]) (fun j u hj=>by rw[addr_add];exact n2 j u hj) (by omega) (by omega) (growslice_fits_wide (by omega) (by
           have:(es.length+ys.length+(es.length+ys.length)/4+192)*i.bytes≤2748779069632*100:=Nat.mul_le_mul (by omega) (by omega)
           omega))
        have hzs:zv.cells.size=(tiOf P e).size:=by
         obtain⟨_,i',q1,q2,q3,q4⟩:=tiOf_info (tiOf_size hs0)
         rw[hi]at q1;cases q1
         rw[hzv]at q4
         have:zv.cells.toList=(tiOf P e).zero:=by simpa using q4
         rw[←Array.length_toList,this,hz]
        have hge:=grownCap_ge w (es.length+ys.length) cap e
        have hgetL:∀k,k<es.length*(tiOf P e).size+news.length→((cs.toList.take (es.length*(tiOf P e).size)).toArray++news.toArray++Builtin.zeroCells zv.cells (grownCap w (es.length+ys.length) cap e-(es.length+ys.length)))[k]?=
         if k<es.length*(tiOf P e).size then cs[k]? else news[k-es.length*(tiOf P e).size]?:=by
         intro k hk
         have:∀(A B:List Value) (C:Array Value),(A.toArray++B.toArray++C)[k]?=(A++B++C.toList)[k]?:=fun A B C=>by
          rw[←Array.getElem?_toList];simp
         rw[this,getElem?_append3,hlo]
         split
         ·rename_i hk'
          rw[List.getElem?_take,if_pos hk'];simp
         ·first|rfl|rw[if_pos (by omega)]
        have N := newRow_sl (κ := κ) M (l := l) (w' := w.drew.alloc (.cells ((cs.toList.take (es.length * (tiOf P e).size)).toArray ++ news.toArray ++ Builtin.zeroCells zv.cells (grownCap w (es.length + ys.length) cap e - (es.length + ys.length))) e))
         (cs:=(cs.toList.take (es.length*(tiOf P e).size)).toArray++news.toArray++Builtin.zeroCells zv.cells (grownCap w (es.length+ys.length) cap e-(es.length+ys.length))) (ty:=e)
         (size:=(tiOf P e).size) (cap:=grownCap w (es.length+ys.length) cap e) (v':=v+1) (frz':=0) (es:=es++ys) (.inr ⟨_,_,_,_,hl,Nat.lt_succ_self _⟩) hobj rfl rfl rfl rfl rfl hs0
         (fun el hel=>by
           rcases List.mem_append.1 hel with h'|h'
           ·exact o2 el h'
           ·exact hall el h')
         (fun el hel=>by
           rcases List.mem_append.1 hel with h'|h'
           ·exact o3 el h'
           ·exact hscal el h') (by simpa using hge) (by
           simp only[Array.size_append,List.size_toArray,size_zeroCells,n1,hzs,hlo,←Nat.add_mul]
           rw[show es.length+ys.length+(grownCap w (es.length+ys.length) cap e-(es.length+ys.length))=grownCap w (es.length+ys.length) cap e by omega]
           exact Nat.le_refl _)
         (fun i' j el c he hc => by
           have:=cells_of_append (blk:=((cs.toList.take (es.length*(tiOf P e).size)).toArray++news.toArray++Builtin.zeroCells zv.cells (grownCap w (es.length+ys.length) cap e-(es.length+ys.length))).toList) (Rp:=fun c u=>RepT φ.objs w S c u) o2 hall
             (fun i j e' c he hc=>by
               obtain⟨u,q1,q2⟩:=g3 i j e' c he hc
               refine⟨u,?_,q2⟩
               have hi':=(List.getElem?_eq_some_iff.1 he).1
               have hj':=(List.getElem?_eq_some_iff.1 hc).1
               rw[o2 e' (List.mem_of_getElem? he)]at hj'
               have hlt':i*(tiOf P e).size+j<es.length*(tiOf P e).size:=by
                 have:=Nat.mul_le_mul_right (tiOf P e).size (show i+1≤es.length by omega)
                 rw[Nat.add_mul,Nat.one_mul]at this
                 omega
               rw[Array.getElem?_toList,hgetL _ (by omega),if_pos hlt'];exact q1)
             (fun i j e' c he hc=>by
               obtain⟨u,q1,q2⟩:=n4 i j e' c he hc
               refine⟨u,?_,q2⟩
               have hlt':=(List.getElem?_eq_some_iff.1 q1).1
               rw[Array.getElem?_toList,hgetL _ (by omega),if_neg (by omega),show es.length*(tiOf P e).size+(i*(tiOf P e).size+j)-es.length*(tiOf P e).size=i*(tiOf P e).size+j by omega];exact q1)
             i' j el c he hc
           obtain⟨u,q1,q2⟩:=this
           exact⟨u,by rw[Array.getElem?_toList]at q1;exact q1,q2⟩)
        rw[List.length_append]at N
        exact post 0 (fun _=>rfl) _ _ S _ (by rw[hxv,hyv];exact hr) N.1 N.2
 ·exact(Rd.run_fail_some h2).elim
end
def RepL (φ:Inj) (H:Heap) (w:World) (S:Addr→Prop) (cs:List AV) (vs:Array Value):Prop:=
 vs.size=cs.length∧(∀v∈vs,v.scal)∧∀(j:Nat) (c:AV) (v:Value),cs[j]?=some c→vs[j]?=some v→RepA φ H w S c v
theorem setCells_get {α:Type}:∀(xs cs:List α) (off p:Nat),off+xs.length≤cs.length→(setCells cs off xs)[p]?=if off≤p∧p<off+xs.length then xs[p-off]? else cs[p]?
 |[],cs,off,p,_=>by simp[setCells];omega
 | x :: xs, cs, off, p, h => by
   simp only[List.length_cons]at h
   rw[setCells,setCells_get xs (cs.set off x) (off+1) p (by simp;omega),List.getElem?_set]
   by_cases h1:p=off
   ·subst h1
    rw[if_neg (by omega),if_pos rfl,if_pos (by omega),List.length_cons,if_pos (by omega)]
    simp
   ·by_cases h2:off≤p∧p<off+(xs.length+1)
    ·rw[if_pos (by omega),List.length_cons,if_pos h2]
     rw[show p-off=(p-(off+1))+1 by omega]
     simp
    ·rw[if_neg (by omega),if_neg (by omega),List.length_cons,if_neg h2]
theorem setCells_length {α:Type}:∀(xs cs:List α) (off:Nat),(setCells cs off xs).length=cs.length
 |[],cs,off=>rfl
 |x::xs,cs,off=>by rw[setCells,setCells_length xs];simp
theorem fold_set_get:∀(us:List Value) (vs:Array Value) (off k p:Nat),off+k+us.length≤vs.size→
  ((us.zipIdx k).foldl (fun cs (x:Value×Nat)=>cs.setIfInBounds (off+x.2) x.1) vs).size=vs.size∧
  ((us.zipIdx k).foldl (fun cs (x:Value×Nat)=>cs.setIfInBounds (off+x.2) x.1) vs)[p]?=if off+k≤p∧p<off+k+us.length then us[p-(off+k)]? else vs[p]?
 |[],vs,off,k,p,_=>by simp;omega
 | u :: us, vs, off, k, p, h => by
   simp only[List.length_cons]at h
   have ih:=fold_set_get us (vs.setIfInBounds (off+k) u) off (k+1) p (by simp;omega)
   simp only[List.zipIdx_cons,List.foldl_cons]
   refine⟨by rw[ih.1];simp,?_⟩
   rw[ih.2,Array.getElem?_setIfInBounds]
   by_cases h1:p=off+k
   ·subst h1
    rw[if_neg (by omega),if_pos rfl,if_pos (by omega),List.length_cons,if_pos (by omega)]
    simp
   ·by_cases h2:off+k≤p∧p<off+k+(us.length+1)
    ·rw[if_pos (by omega),List.length_cons,if_pos h2]
     rw[show p-(off+k)=(p-(off+(k+1)))+1 by omega]
     simp
    ·rw[if_neg (by omega),if_neg (by omega),List.length_cons,if_neg h2]
theorem fill_fold_get (v:Value) (vs:Array Value) (off p:Nat) (h:off+v.cells.size≤vs.size):
  (v.cells.zipIdx.foldl (fun cs (c,j)=>cs.setIfInBounds (off+j) c) vs).size=vs.size∧
  (v.cells.zipIdx.foldl (fun cs (c,j)=>cs.setIfInBounds (off+j) c) vs)[p]?=if off≤p∧p<off+v.cells.size then v.cells[p-off]? else vs[p]?:=by
 have:=fold_set_get v.cells.toList vs off 0 p (by simpa using h)
 rw[←Array.foldl_toList,Array.toList_zipIdx]
 simpa using this
section
variable {P:Program} {κ:Kap} {n:Nat} {a:Act} {w:World} {s:St} {φ:Inj} {S:Addr→Prop} {H:Heap}
theorem okPart_rep {x:AV} {v:Value} (h:okPart x=true) (hx:RepA φ H w S x v):RepL φ H w S (cellsA x) v.cells:=by
 have one:v.scal→cellsA x=[x]→RepL φ H w S (cellsA x) v.cells:=fun hs hc=>by
  rw[hc,Value.scal_cells hs]
  refine⟨rfl,fun u hu=>by simp at hu;subst hu;exact hs,fun j c u hj hu=> ?_⟩
  cases j with
  |zero=>simp at hj hu;subst hj;subst hu;exact hx
  |succ j=>simp at hj
 by_cases hag:isAggA x=true
 ·obtain⟨vs,rfl,h1,h2,h3⟩:=isAggA_rep hag hx
  exact⟨h1,h2,h3⟩
 ·cases hx with
  |und=>simp[okPart]at h
  |tup=>simp[okPart]at h
  |agg=>simp[isAggA]at hag
  | t t0 v h0 =>
    cases t0 with
    |agg=>simp[isAggA]at hag
    |_=>exact one (h0.scal trivial) rfl
  |nil=>exact one trivial rfl
  |sl _ _ _ _ _ _ _ hv=>exact one hv rfl
  |ep _ _ _ _ _ _ _ hv=>exact one hv rfl
  |tp=>exact one trivial rfl
  |bp=>exact one trivial rfl
  |mp=>exact one trivial rfl
  |sb=>exact one trivial rfl
theorem RepL.set {cs:List AV} {vs:Array Value} {x:AV} {v:Value} {off:Nat} (h:RepL φ H w S cs vs) (hx:RepL φ H w S (cellsA x) v.cells) (hl:off+(cellsA x).length≤cs.length):
  RepL φ H w S (setCells cs off (cellsA x)) (v.cells.zipIdx.foldl (fun cs (c,j)=>cs.setIfInBounds (off+j) c) vs):=by
 obtain⟨h1,h2,h3⟩:=h
 obtain⟨g1,g2,g3⟩:=hx
 have hfit:off+v.cells.size≤vs.size:=by omega
 have key:=fun p=>fill_fold_get v vs off p hfit
 refine⟨by rw[(key 0).1,setCells_length,h1],fun u hu=> ?_,fun j c u hj hu=> ?_⟩
 ·obtain⟨j,hj,rfl⟩:=Array.mem_iff_getElem.1 hu
  have:=(key j).2
  rw[Array.getElem?_eq_getElem hj]at this
  split at this
  ·exact g2 _ (Array.mem_of_getElem? this.symm)
  ·exact h2 _ (Array.mem_of_getElem? this.symm)
 ·rw[setCells_get _ _ _ _ hl]at hj
  rw[(key j).2,g1]at hu
  by_cases hc:off≤j∧j<off+(cellsA x).length
  ·rw[if_pos hc]at hj hu
   exact g3 _ _ _ hj hu
  ·rw[if_neg hc]at hj hu
   exact h3 _ _ _ hj hu
theorem fill_rep {fs:List (Nat×Nat)} {place:Nat→Option (Nat×Nat)} (hp:∀i p,fs[i]?=some p→place i=some p) {f:Nat→AV} (hsl:Slots φ H w S a f):
  ∀(ps:List (Nat×Operand)) (cs cs':List AV) (vs:Array Value),RepL φ H w S cs vs→fillA fs cs (ps.map fun p=>(p.1,evA f p.2))=some cs'→
   ∃vs',Instr.fill place vs (ps.map fun p=>(p.1,a.eval p.2))=some vs'∧RepL φ H w S cs' vs'
 |[],cs,cs',vs,hr,h=>by simp[fillA]at h;subst h;exact⟨vs,rfl,hr⟩
 | (i, x) :: ps, cs, cs', vs, hr, h => by
   simp only[List.map_cons,fillA]at h
   split at h
   ·rename_i off size hfs
    split at h
    ·rename_i hc
     obtain⟨c1,c2,c3⟩:=hc
     have hx:=okPart_rep c3 (evA_rep hsl x)
     obtain⟨vs',g1,g2⟩:=fill_rep hp hsl ps _ cs' _ (hr.set hx (by omega)) h
     refine⟨vs',?_,g2⟩
     simp only[List.map_cons,Instr.fill,hp i _ hfs]
     have e1:(a.eval x).cells.size=size:=by rw[hx.1,c1]
     have e2:¬((decide ((a.eval x).cells.size≠size)||decide (off+(a.eval x).cells.size>vs.size))=true):=by
      rw[e1,hr.1];simp;exact c2
     rw[if_neg e2]
     exact g1
    ·cases h
   ·cases h
theorem zero_repL {vs:List Value} (h:vs.all scalB=true):RepL φ H w S (vs.map const1) vs.toArray:=by
 refine⟨by simp,fun v hv=> ?_,fun j c v hj hv=> ?_⟩
 ·have:=List.all_eq_true.1 h v (by simpa using hv)
  cases v<;>first|trivial|simp[scalB]at this
 ·rw[List.getElem?_map]at hj
  have hv':vs[j]?=some v:=by simpa using hv
  rw[hv']at hj
  cases hj
  exact const1_rep φ H w S v
theorem zero_of {t:TypeId} (hz:(tiOf P t).zero.length=(tiOf P t).size) (hs0:(tiOf P t).size≠0):∃i z,P.info? t=some i∧i.zero=some z∧z.cells=(tiOf P t).zero.toArray:=by
 obtain⟨_,i,h1,h2,h3,h4⟩:=tiOf_info (tiOf_size hs0)
 obtain⟨i',z,g1,g2,g3,g4⟩:=elem_info hz hs0
 rw[h1]at g1;cases g1
 rw[g2]at h4
 have h4:z.cells.toList=(tiOf P t).zero:=by simpa using h4
 exact⟨i,z,h1,g2,by rw[←h4]⟩
theorem do_build {o:Oper} {t:TypeId} {ps:Array (Nat×Operand)} {y:AV} (ho:o.op=.build t ps) (hc:Conc κ n s a w) (hdst:∀d',o.dst=some d'→d'<n)
  (h:buildA (tiOf P t) (fun t=>(tiOf P t).size) (ps.toList.map fun p=>(p.1,evA s.f p.2))=some y):Does P κ n a w o s {v:=y}:=by
 obtain⟨hde,hs,φ,S,M,hsl⟩:=hc
 have fin:∀cells cs',P.built t (ps.toList.map fun p=>(p.1,a.eval p.2))=some cells→y=.agg cs'→RepL φ s.h w S cs' cells→Does P κ n a w o s {v:=y}:=fun cells cs' h1 h2 h3=>by
  subst h2
  refine Does.of_pure (v:=.agg cells) hde hs hdst M hsl ?_ (.agg _ _ h3.1 h3.2.1 h3.2.2)
  unfold execOp;rw[ho]
  have e:(ps.map fun x=>(x.1,a.eval x.2)).toList=ps.toList.map fun p=>(p.1,a.eval p.2):=by simp
  have:=run_build (P:=P) w t (ps.map fun x=>(x.1,a.eval x.2)) cells (by rw[e];exact h1)
  simp only[Sem.run_bind,this,Result.andThen_ok,Sem.run_pure]
 unfold buildA at h
 split at h
 ·rename_i fields hd
  split at h
  ·rename_i hcond
   obtain⟨c1,c2,c3,c4⟩:=hcond
   rw[Option.map_eq_some_iff]at h
   obtain⟨cs',h1,rfl⟩:=h
   obtain⟨i,z,q1,q2,q3⟩:=zero_of c1 c2
   have hu:=(tiOf_info (P:=P) (t:=t) (by rw[hd];simp)).1
   rw[hd]at hu
   have hplaces:fields.toList.mapM (fun f=>(P.info? f.type).map fun i=>(f.offset,i.size))=some (fields.toList.map fun f=>(f.offset,(tiOf P f.type).size)):=by
    have c4':=List.all_eq_true.1 c4
    clear h1 hd hu c4
    generalize fields.toList=fl at c4'⊢
    induction fl with
    |nil=>rfl
    | cons f fs ih =>
      have hf:(tiOf P f.type).size≠0:=by simpa using c4' f (by simp)
      obtain⟨_,i',r1,r2,_⟩:=tiOf_info (tiOf_size hf)
      rw[List.mapM_cons,ih (fun x hx=>c4' x (by simp[hx])),r1]
      simp[r2]
   obtain⟨vs',g1,g2⟩:=fill_rep (place:=fun x=>(fields.toList.map fun f=>(f.offset,(tiOf P f.type).size))[x]?) (fun _ _ h=>h) hsl ps.toList _ cs' _ (zero_repL c3) h1
   refine fin vs' cs' ?_ rfl g2
   unfold Program.built
   rw[q1,hu]
   simp only[q2,hplaces,q3]
   rw[←g1]
   congr 1
   funext x
   simp
  ·cases h
 ·rename_i m e hd
  split at h
  ·rename_i hcond
   obtain⟨c1,c2,c3,c4⟩:=hcond
   rw[Option.map_eq_some_iff]at h
   obtain⟨cs',h1,rfl⟩:=h
   obtain⟨i,z,q1,q2,q3⟩:=zero_of c1 c2
   have hu:=(tiOf_info (P:=P) (t:=t) (by rw[hd];simp)).1
   rw[hd]at hu
   obtain⟨_,i',r1,r2,_⟩:=tiOf_info (tiOf_size c4)
   obtain⟨vs',g1,g2⟩:=fill_rep (place:=fun i=>some (i*(tiOf P e).size,(tiOf P e).size)) (fun k p hk=>by
     rw[List.getElem?_map,Option.map_eq_some_iff]at hk
     obtain⟨k',hk',rfl⟩:=hk
     by_cases hlt:k<m
     ·rw[List.getElem?_range hlt]at hk';cases hk';rfl
     ·rw[List.getElem?_eq_none (by simpa using hlt)]at hk';cases hk') hsl ps.toList _ cs' _ (zero_repL c3) h1
   refine fin vs' cs' ?_ rfl g2
   unfold Program.built
   rw[q1,hu]
   simp only[q2,r1,q3,r2]
   exact g1
  ·cases h
 ·cases h
end
def Frz (H H1:Heap):Prop:=(∀l size es v frz,H l=some (.arr size es v frz)→∃frz',H1 l=some (.arr size es v frz'))∧(∀l,(∀size es v frz,H l≠some (.arr size es v frz))→H1 l=H l)
theorem Frz.refl (H:Heap):Frz H H:=⟨fun _ _ _ _ frz h=>⟨frz,h⟩,fun _ _=>rfl⟩
theorem Frz.none {H H1:Heap} (h:Frz H H1) {l:Lab} (hl:H l=none):H1 l=none:=by
 rw[h.2 l (fun _ _ _ _ e=>by rw[hl]at e;cases e)];exact hl
section
variable {P:Program} {κ:Kap} {n:Nat} {a:Act} {w:World} {s:St} {φ:Inj} {S:Addr→Prop} {H H1:Heap}
structure Rei (κ:Kap) (φ:Inj) (H:Heap) (n:Nat) (w:World) (S1:Addr→Prop) (H1:Heap) (S':Addr→Prop) (H':Heap):Prop where
 chg:Chg κ φ S1 H1 w φ S' H' n w
 frz:Frz H H'
 sub:∀a,S1 a→S' a
theorem reify1_sim' (M:Mem κ φ S H1 n w) (hF:Frz H H1) {x:AV} {u:Value} (hx:RepA φ H1 w S x u) {t:T} {ws:List (Lab×Obj)} {acc:List Lab} (hr:(reify1 x).run H=some ((t,ws),acc)):
  ∃S',Rei κ φ H n w S H1 S' (writes H1 ws)∧RepT φ.objs w S' t u:=by
 cases hx with
 | t t0 v h =>
   obtain⟨e,_⟩:=Rd.run_ret_some hr
   cases e
   exact⟨S,⟨Chg.refl M,hF,fun _ h=>h⟩,h⟩
 | nil =>
   obtain⟨e,_⟩:=Rd.run_ret_some hr
   cases e
   exact⟨S,⟨Chg.refl M,hF,fun _ h=>h⟩,repT_nil _ _ _ _ _⟩
 | sl l ver off len v o ho hv h =>
   obtain⟨acc',hr',_⟩:=Rd.run_ask_some hr
   split at hr'
   ·rename_i size es v' frz hl
    split at hr'
    ·rename_i hver
     obtain⟨e,_⟩:=Rd.run_ret_some hr'
     cases e
     subst hver
     obtain⟨frz',hl1⟩:=hF.1 _ _ _ _ _ hl
     rw[hl1]at ho
     cases ho
     have hh:=(h _ _ _ _ rfl).2 rfl
     have C:=M.freeze hl1
     refine⟨_,⟨C,⟨fun l' size' es' v'' frz'' e=> ?_,fun l' e=> ?_⟩,fun _ h=>.inl h⟩,repT_of_hdr C.mem (upd_same _ _ _) (Nat.le_refl _) hh⟩
     ·by_cases h1:l'=l
      ·subst h1
       rw[hl]at e
       cases e
       exact⟨_,upd_same _ _ _⟩
      ·obtain⟨f,hf⟩:=hF.1 _ _ _ _ _ e
       exact⟨f,by show upd H1 l _ l'=_;rw[upd_ne _ _ _ _ h1];exact hf⟩
     ·by_cases h1:l'=l
      ·subst h1;exact absurd hl (e _ _ _ _)
      ·show upd H1 l _ l'=_
       rw[upd_ne _ _ _ _ h1];exact hF.2 l' e
    ·exact(Rd.run_fail_some hr').elim
   ·exact(Rd.run_fail_some hr').elim
 | bp l j b cs ho hb =>
   cases l with
   | obj id =>
     cases j with
     | zero =>
       obtain⟨e,_⟩:=Rd.run_ret_some hr
       cases e
       exact⟨S,⟨Chg.refl M,hF,fun _ h=>h⟩,.ptr id b hb⟩
     |succ j=>exact(Rd.run_fail_some hr).elim
   |_=>exact(Rd.run_fail_some hr).elim
 |_=>exact(Rd.run_fail_some hr).elim
theorem Rei.trans {S1 S2 S3:Addr→Prop} {H1 H2 H3:Heap} (h:Rei κ φ H n w S1 H1 S2 H2) (k:Rei κ φ H n w S2 H2 S3 H3):Rei κ φ H n w S1 H1 S3 H3:=
 ⟨h.chg.trans k.chg,k.frz,fun a e=>k.sub a (h.sub a e)⟩
theorem reifyL_sim:∀(xs:List AV) (us:List Value) {S:Addr→Prop} {H1:Heap} (_:Mem κ φ S H1 n w) (_:Frz H H1) (_:us.length=xs.length) (_:∀(j:Nat) (x:AV) (u:Value),xs[j]?=some x→us[j]?=some u→RepA φ H1 w S x u∧u.scal)
  {ts:List T} {ws:List (Lab×Obj)} {acc:List Lab} (_:(reifyL xs).run H=some ((ts,ws),acc)),
  ∃S',Rei κ φ H n w S H1 S' (writes H1 ws)∧ts.length=xs.length∧∀(j:Nat) (t:T) (u:Value),ts[j]?=some t→us[j]?=some u→RepT φ.objs w S' t u
 | [], us, S, H1, M, hF, hl, hx, ts, ws, acc, h => by
   obtain⟨e,_⟩:=Rd.run_ret_some h
   cases e
   exact⟨S,⟨Chg.refl M,hF,fun _ h=>h⟩,rfl,fun j t u hj=>by simp at hj⟩
 |x::xs,[],S,H1,M,hF,hl,hx,ts,ws,acc,h=>by simp at hl
 | x :: xs, u :: us, S, H1, M, hF, hl, hx, ts, ws, acc, h => by
   obtain⟨⟨t,ws1⟩,a1,a2,h1,h2,_⟩:=Rd.run_bind_some h
   obtain⟨⟨ts',ws2⟩,a3,a4,h3,h4,_⟩:=Rd.run_bind_some h2
   obtain⟨e,_⟩:=Rd.run_ret_some h4
   cases e
   obtain⟨S',r1,r2⟩:=reify1_sim' M hF (hx 0 x u rfl rfl).1 h1
   obtain⟨S'',q1,q2,q3⟩:=reifyL_sim xs us r1.chg.mem r1.frz (by simpa using hl) (fun j x' u' hj hu=>⟨r1.chg.av _ _ (hx (j+1) x' u' (by simpa using hj) (by simpa using hu)).1,(hx (j+1) x' u' (by simpa using hj) (by simpa using hu)).2⟩) h3
   refine⟨S'',by rw[writes_append];exact r1.trans q1,by simp[q2],fun j t' u' hj hu=> ?_⟩
   cases j with
   |zero=>simp at hj hu;subst hj;subst hu;exact q1.chg.tv _ _ r2
   |succ j=>exact q3 j t' u' (by simpa using hj) (by simpa using hu)
theorem repT_scal_of {O:Nat→Option Nat} {S:Addr→Prop} {t:T} {u:Value} (h:RepT O w S t u) (hs:u.scal):t.scal:=by cases h<;>first|trivial|exact hs.elim
theorem reify_sim (M:Mem κ φ S H1 n w) (hF:Frz H H1) {x:AV} {u:Value} (hx:RepA φ H1 w S x u) {t:T} {ws:List (Lab×Obj)} {acc:List Lab} (hr:(reify x).run H=some ((t,ws),acc)):
  ∃S',Rei κ φ H n w S H1 S' (writes H1 ws)∧RepT φ.objs w S' t u:=by
 cases x with
 | agg cs =>
   obtain⟨⟨ts,ws'⟩,a1,a2,h1,h2,_⟩:=Rd.run_bind_some hr
   obtain⟨e,_⟩:=Rd.run_ret_some h2
   cases e
   cases hx with
   | agg _ vs hn hsc hr' =>
     obtain⟨S',q1,q2,q3⟩:=reifyL_sim cs vs.toList M hF (by simpa using hn) (fun j x u hj hu=>⟨hr' j x u hj (by simpa using hu),hsc u (by simpa using List.mem_of_getElem? hu)⟩) h1
     refine⟨S',q1,.agg _ _ (by rw[q2,hn]) (fun c hc=> ?_) fun j c v hj hv=>q3 j c v hj (by simpa using hv)⟩
     obtain⟨j,hj⟩:=List.getElem?_of_mem hc
     have hj:ts[j]?=some c:=hj
     have hlt:=(List.getElem?_eq_some_iff.1 hj).1
     have hv:vs.toList[j]?=some vs[j]:=by rw[Array.getElem?_toList];exact Array.getElem?_eq_getElem (by omega)
     exact repT_scal_of (q3 j c _ hj hv) (hsc _ (Array.getElem_mem _))
 |_=>exact reify1_sim' M hF hx hr
theorem reifyE_sim:∀(xs:List AV) (us:List Value) {S:Addr→Prop} {H1:Heap} (_:Mem κ φ S H1 n w) (_:Frz H H1) (_:us.length=xs.length) (_:∀(j:Nat) (x:AV) (u:Value),xs[j]?=some x→us[j]?=some u→RepA φ H1 w S x u)
  {ts:List T} {ws:List (Lab×Obj)} {acc:List Lab} (_:(reifyE xs).run H=some ((ts,ws),acc)),
  ∃S',Rei κ φ H n w S H1 S' (writes H1 ws)∧ts.length=xs.length∧∀(j:Nat) (t:T) (u:Value),ts[j]?=some t→us[j]?=some u→RepT φ.objs w S' t u
 | [], us, S, H1, M, hF, hl, hx, ts, ws, acc, h => by
   obtain⟨e,_⟩:=Rd.run_ret_some h
   cases e
   exact⟨S,⟨Chg.refl M,hF,fun _ h=>h⟩,rfl,fun j t u hj=>by simp at hj⟩
 |x::xs,[],S,H1,M,hF,hl,hx,ts,ws,acc,h=>by simp at hl
 | x :: xs, u :: us, S, H1, M, hF, hl, hx, ts, ws, acc, h => by
   obtain⟨⟨t,ws1⟩,a1,a2,h1,h2,_⟩:=Rd.run_bind_some h
   obtain⟨⟨ts',ws2⟩,a3,a4,h3,h4,_⟩:=Rd.run_bind_some h2
   obtain⟨e,_⟩:=Rd.run_ret_some h4
   cases e
   obtain⟨S',r1,r2⟩:=reify_sim M hF (hx 0 x u rfl rfl) h1
   obtain⟨S'',q1,q2,q3⟩:=reifyE_sim xs us r1.chg.mem r1.frz (by simpa using hl) (fun j x' u' hj hu=>r1.chg.av _ _ (hx (j+1) x' u' (by simpa using hj) (by simpa using hu))) h3
   refine⟨S'',by rw[writes_append];exact r1.trans q1,by simp[q2],fun j t' u' hj hu=> ?_⟩
   cases j with
   |zero=>simp at hj hu;subst hj;subst hu;exact q1.chg.tv _ _ r2
   |succ j=>exact q3 j t' u' (by simpa using hj) (by simpa using hu)
theorem repT_cells {O:Nat→Option Nat} {S:Addr→Prop} {t:T} {u:Value} (h:RepT O w S t u):u.cells.size=t.cells.length∧(∀c∈t.cells,c.scal)∧(∀v∈u.cells,v.scal)∧
  ∀(j:Nat) (c:T) (v:Value),t.cells[j]?=some c→u.cells[j]?=some v→RepT O w S c v:=by
 by_cases hs:t.scal
 ·have h1:=h.scal hs
  have e1:t.cells=[t]:=by cases t<;>first|rfl|exact hs.elim
  rw[e1,Value.scal_cells h1]
  refine⟨rfl,by simpa using hs,by simpa using h1,fun j c v hj hv=> ?_⟩
  cases j with
  |zero=>simp at hj hv;subst hj;subst hv;exact h
  |succ j=>simp at hj
 ·cases h with
  | agg cs vs hn hsc hr =>
    refine⟨hn,hsc,fun v hv=> ?_,hr⟩
    obtain⟨j,hj,rfl⟩:=Array.mem_iff_getElem.1 hv
    have hj':j<vs.size:=hj
    exact(hr j _ _ (List.getElem?_eq_getElem (by omega)) (Array.getElem?_eq_getElem hj')).scal (hsc _ (List.getElem_mem _))
  |_=>exact absurd trivial hs
theorem fill_seq (size:Nat):∀(vals:List Value) (k:Nat) (cells:Array Value),(∀v∈vals,v.cells.size=size)→(k+vals.length)*size≤cells.size→
  ∃cells',Instr.fill (fun i=>some (i*size,size)) cells ((vals.zipIdx k).map fun x=>(x.2,x.1))=some cells'∧cells'.size=cells.size∧(∀p,p<k*size→cells'[p]?=cells[p]?)∧
   ∀(i:Nat) (v:Value) (j:Nat) (u:Value),vals[i]?=some v→v.cells[j]?=some u→cells'[(k+i)*size+j]?=some u
 |[],k,cells,_,_=>⟨cells,rfl,rfl,fun _ _=>rfl,fun i v j u h=>by simp at h⟩
 | v :: vals, k, cells, hs, hl => by
   have hv:=hs v (by simp)
   have hfit:k*size+v.cells.size≤cells.size:=by
    have:=Nat.mul_le_mul_right size (show k+1≤k+(v::vals).length by simp)
    rw[Nat.add_mul,Nat.one_mul]at this
    omega
   have key:=fun p=>fill_fold_get v cells (k*size) p hfit
   obtain⟨cells',g1,g2,g3,g4⟩:=fill_seq size vals (k+1) _ (fun v hv=>hs v (by simp[hv])) (by rw[(key 0).1];simpa [Nat.add_comm,Nat.add_left_comm] using hl)
   have e2:¬((decide (v.cells.size≠size)||decide (k*size+v.cells.size>cells.size))=true):=by
    rw[hv];simp;omega
   refine⟨cells',?_,by rw[g2,(key 0).1],fun p hp=> ?_,fun i v' j u hi hj=> ?_⟩
   ·simp only[List.zipIdx_cons,List.map_cons,Instr.fill]
    rw[if_neg e2]
    exact g1
   ·rw[g3 p (by rw[Nat.add_mul];omega),(key p).2,if_neg (by omega)]
   ·cases i with
    | zero =>
      simp at hi
      subst hi
      have hj':=(Array.getElem?_eq_some_iff.1 hj).1
      rw[Nat.add_zero,g3 _ (by rw[Nat.add_mul,Nat.one_mul];omega),(key _).2,if_pos (by omega),show k*size+j-k*size=j by omega]
      exact hj
    | succ i =>
      have:=g4 i v' j u (by simpa using hi) hj
      rw[←this,show k+(i+1)=k+1+i by omega]
theorem do_buildSlice {o:Oper} {t e:TypeId} {ps:Array (Nat×Operand)} {N:Nat} {y:Dl} {acc:List Lab} {r:List T×List (Lab×Obj)} (ho:o.op=.buildSlice t N ps) (hc:Conc κ n s a w) (hdst:∀d',o.dst=some d'→d'<n)
  (hd:(tiOf P t).d=.slice e) (hr:∃acc',(reifyE (ps.toList.map fun p=>evA s.f p.2)).run s.h=some (r,acc')) (hidx:ps.toList.map (·.1)=List.range N) (hall:∀x∈r.1,x.cells.length=(tiOf P e).size)
  (hbig:N*(tiOf P e).size≤16777216) (hz:(tiOf P e).zero.length=(tiOf P e).size) (hs0:(tiOf P e).size≠0) (h:(fresh o.dst (tiOf P e).size r.1 N r.2).run s.h=some (y,acc)):Does P κ n a w o s y:=by
 obtain⟨hde,hs,φ,S,M,hsl⟩:=hc
 obtain⟨d,hd',hl,rfl⟩:=fresh_some h
 obtain⟨acc',hr⟩:=hr
 obtain⟨ts,ws⟩:=r
 have hps:ps.toList.length=N:=by have:=congrArg List.length hidx;simpa using this
 obtain⟨S',R,q2,q3⟩:=reifyE_sim (H:=s.h) (ps.toList.map fun p=>evA s.f p.2) (ps.toList.map fun p=>a.eval p.2) M (Frz.refl _) (by simp) (fun j x u hj hu=>by
   rw[List.getElem?_map,Option.map_eq_some_iff]at hj hu
   obtain⟨p,hp,rfl⟩:=hj
   obtain⟨p',hp',rfl⟩:=hu
   rw[hp]at hp';cases hp'
   exact evA_rep hsl _) hr
 have hlen:ts.length=N:=by rw[q2];simpa using hps
 obtain⟨i,zv,hi,hzv,hi1,hi2⟩:=elem_info hz hs0
 have hu:=(tiOf_info (P:=P) (t:=t) (by rw[hd];simp)).1
 rw[hd]at hu
 have hvals:∀v∈(ps.toList.map fun p=>a.eval p.2),v.cells.size=(tiOf P e).size:=by
  intro v hv
  obtain⟨j,hj⟩:=List.getElem?_of_mem hv
  have hjl:=(List.getElem?_eq_some_iff.1 hj).1
  have ht:=List.getElem?_eq_getElem (l:=ts) (i:=j) (by rw[q2];simpa using hjl)
  rw[(repT_cells (q3 j _ v ht hj)).1]
  exact hall _ (List.mem_of_getElem? ht)
 have hnz:N*(tiOf P e).size=0→N=0:=fun h=>by
  rcases Nat.mul_eq_zero.1 h with h|h
  ·exact h
  ·exact absurd h hs0
 obtain⟨cells,f1,f2,f3,f4⟩:=fill_seq (tiOf P e).size (ps.toList.map fun p=>a.eval p.2) 0 ((Array.range (N*(tiOf P e).size)).map ((if N*(tiOf P e).size=0 then (#[]:Array Value) else zv.cells)[· %(if N*(tiOf P e).size=0 then (#[]:Array Value) else zv.cells).size]!)) hvals (by simp[hps])
 have hparts:(ps.toList.map fun p=>a.eval p.2).zipIdx.map (fun x=>(x.2,x.1))=ps.toList.map fun p=>(p.1,a.eval p.2):=by
  apply List.ext_getElem?
  intro k
  rw[List.getElem?_map,List.getElem?_zipIdx,List.getElem?_map,List.getElem?_map]
  cases hk:ps.toList[k]? with
  |none=>rfl
  | some p =>
    have hlt:=(List.getElem?_eq_some_iff.1 hk).1
    have:(ps.toList.map (·.1))[k]?=(List.range N)[k]?:=by rw[hidx]
    rw[List.getElem?_map,hk,List.getElem?_range (by omega)]at this
    simp at this
    simp[this]
 rw[hparts]at f1
 have hrun:(Instr.buildSlice t N (ps.map fun x=>(x.1,a.eval x.2))).run P w=.ok (.slice (some ⟨w.heap.size,0,none⟩) N N) (w.alloc (.cells cells e)):=by
  have e1:(ps.map fun x=>(x.1,a.eval x.2)).toList=ps.toList.map fun p=>(p.1,a.eval p.2):=by simp
  unfold Instr.buildSlice
  simp only[Sem.run_bind,run_underlying hu,Result.andThen_ok,run_sizeOf_ti (tiOf_size hs0),if_neg (show ¬N*(tiOf P e).size>2^24 by omega)]
  by_cases h0:N*(tiOf P e).size=0
  ·simp only[h0,if_true]at f1
   simp only[h0,if_true,Sem.run_bind,Sem.run_pure,Result.andThen_ok,e1,f1]
   rfl
  ·simp only[h0,if_false]at f1
   have hzr:(zeroValue e).run P w=.ok zv w:=by simp[zeroValue,typeInfo,hi,hzv]
   simp only[h0,if_false,Sem.run_bind,hzr,Result.andThen_ok,Sem.run_pure,e1,f1]
   rfl
 have N2:=newRow_sl (κ:=κ) R.chg.mem (l:=.loc d 0) (w':=w.alloc (.cells cells e)) (cs:=cells) (ty:=e) (size:=(tiOf P e).size) (cap:=N) (v':=0) (frz':=0) (es:=ts)
  (.inl (R.frz.none hl)) rfl rfl rfl rfl rfl rfl hs0 hall (fun el hel c hc=>by
    obtain⟨j,hj⟩:=List.getElem?_of_mem hel
    have hjl:=(List.getElem?_eq_some_iff.1 hj).1
    have hv:=List.getElem?_eq_getElem (l:=ps.toList.map fun p=>a.eval p.2) (i:=j) (by simp;rw[q2]at hjl;simpa using hjl)
    exact(repT_cells (q3 j _ _ hj hv)).2.1 c hc)
  (by omega) (by rw[f2];simp) (fun i' j el c he hcj=>by
    have hjl:=(List.getElem?_eq_some_iff.1 he).1
    obtain⟨uv,hv⟩:∃uv,(ps.toList.map fun p=>a.eval p.2)[i']?=some uv:=⟨_,List.getElem?_eq_getElem (by simp;rw[q2]at hjl;simpa using hjl)⟩
    have hrep:=repT_cells (q3 i' _ _ he hv)
    have hlt:=(List.getElem?_eq_some_iff.1 hcj).1
    have hu':=Array.getElem?_eq_getElem (xs:=uv.cells) (i:=j) (by rw[hrep.1];exact hlt)
    refine⟨_,?_,hrep.2.2.2 j c _ hcj hu'⟩
    have:=f4 i' _ j _ hv hu'
    rwa [Nat.zero_add]at this)
 rw[hlen]at N2
 have e3:writes s.h (ws++[(.loc d 0,.arr (tiOf P e).size ts 0 0)])=upd (writes s.h ws) (.loc d 0) (some (.arr (tiOf P e).size ts 0 0)):=by rw[writes_append];rfl
 refine Does.of_value hde hs hdst hsl (v:=.slice (some ⟨w.heap.size,0,none⟩) N N) (w':=w.alloc (.cells cells e)) ?_ (by show Chg _ _ _ _ _ _ _ (writes s.h (ws++[(.loc d 0,.arr (tiOf P e).size ts 0 0)])) _ _;rw[e3];exact R.chg.trans N2.1)
  (by show RepA _ (writes s.h (ws++[(.loc d 0,.arr (tiOf P e).size ts 0 0)])) _ _ _ _;rw[e3];exact N2.2)
 unfold execOp;rw[ho]
 simp only[Sem.run_bind,hrun,Result.andThen_ok,Sem.run_pure]
end
section
variable {P:Program} {κ:Kap} {n:Nat} {a:Act} {w:World} {s:St} {φ:Inj} {S:Addr→Prop} {H H1:Heap}
theorem boxA_sim (M:Mem κ φ S s.h s.nxt w) {pool:Sites} {d:Option Tmp} {cs:List AV} {vs:Array Value} {t:TypeId} (hr:RepL φ s.h w S cs vs) {y:Dl} {acc:List Lab} (h:(boxA pool s.nxt d cs).run s.h=some (y,acc)):
  ∃φ',Chg κ φ S s.h w φ' S (writes s.h y.w) (s.nxt+y.nx) (w.alloc (.cells vs t))∧RepA φ' (writes s.h y.w) (w.alloc (.cells vs t)) S y.v (.pointer (some ⟨w.heap.size,0,none⟩)):=by
 have gen:∀l,s.h l=none→(∀id,l=.obj id→id=s.nxt)→(l.pool=true→∀c∈cs,poolCell c)→∀nx,(∀id,l=.obj id→nx=1)→
   Chg κ φ S s.h w (upd φ l (some w.heap.size)) S (upd s.h l (some (.box cs))) (s.nxt+nx) (w.alloc (.cells vs t))∧RepA (upd φ l (some w.heap.size)) (upd s.h l (some (.box cs))) (w.alloc (.cells vs t)) S (.bp l 0) (.pointer (some ⟨w.heap.size,0,none⟩)):=by
  intro l hl hobj hpc nx hnx
  refine⟨M.newRow (cs:=vs) (ty:=t) rfl rfl rfl rfl (.inl hl) (fun id e=>⟨hl,by rw[hobj id e,hnx id e];exact Nat.lt_succ_self _⟩) (fun _=>hl) (Nat.le_add_right _ _) fun av tv=> ?_,.bp l 0 _ cs (upd_same _ _ _) (upd_same _ _ _)⟩
  exact⟨w.heap.size,vs,t,upd_same _ _ _,heap_alloc_new w _,hr.1,hr.2.1,hpc,fun j c v hj hv=>av _ _ (hr.2.2 j c v hj hv)⟩
 unfold boxA at h
 split at h
 ·exact(Rd.run_fail_some h).elim
 ·rename_i d'
  split at h
  ·obtain⟨acc',h,_⟩:=Rd.run_ask_some h
   split at h
   ·rename_i hl
    split at h
    ·rename_i hall
     obtain⟨rfl,_⟩:=Rd.run_ret_some h
     exact⟨_,gen _ hl (fun id e=>by cases e;rfl) (fun _ c hc=>by
       have:=List.all_eq_true.1 hall c hc
       cases c<;>first|trivial|simp at this) 1 (fun _ _=>rfl)⟩
    ·exact(Rd.run_fail_some h).elim
   ·exact(Rd.run_fail_some h).elim
  ·obtain⟨acc',h,_⟩:=Rd.run_ask_some h
   split at h
   ·rename_i hl
    obtain⟨rfl,_⟩:=Rd.run_ret_some h
    exact⟨_,gen _ hl (fun id e=>by cases e) (fun e=>by cases e) 0 (fun id e=>by cases e)⟩
   ·exact(Rd.run_fail_some h).elim
theorem do_box {o:Oper} {t:TypeId} {x:Operand} {pool:Sites} {y:Dl} {acc:List Lab} (ho:o.op=.box t x) (hc:Conc κ n s a w) (hdst:∀d',o.dst=some d'→d'<n)
  (hok:okPart (evA s.f x)=true) (h:(boxA pool s.nxt o.dst (cellsA (evA s.f x))).run s.h=some (y,acc)):Does P κ n a w o s y:=by
 obtain⟨hde,hs,φ,S,M,hsl⟩:=hc
 obtain⟨φ',C,hv⟩:=boxA_sim (t:=t) M (okPart_rep hok (evA_rep hsl x)) h
 refine Does.of_value hde hs hdst hsl ?_ C hv
 unfold execOp;rw[ho]
 simp only[Instr.box,newVar,newRow,Sem.run_bind,run_newObj,Result.andThen_ok,Sem.run_pure]
 rfl
theorem do_alloc {o:Oper} {t:TypeId} {pool:Sites} {y:Dl} {acc:List Lab} (ho:o.op=.alloc t) (hc:Conc κ n s a w) (hdst:∀d',o.dst=some d'→d'<n)
  (hz:(tiOf P t).zero.length=(tiOf P t).size) (hs0:(tiOf P t).size≠0) (hall:(tiOf P t).zero.all scalB=true) (h:(boxA pool s.nxt o.dst ((tiOf P t).zero.map const1)).run s.h=some (y,acc)):Does P κ n a w o s y:=by
 obtain⟨hde,hs,φ,S,M,hsl⟩:=hc
 obtain⟨i,z,q1,q2,q3⟩:=zero_of hz hs0
 obtain⟨φ',C,hv⟩:=boxA_sim (t:=t) M (zero_repL hall) h
 refine Does.of_value hde hs hdst hsl ?_ C hv
 unfold execOp;rw[ho]
 have hzr:(zeroValue t).run P w=.ok z w:=by simp[zeroValue,typeInfo,q1,q2]
 simp only[Instr.alloc,Sem.run_bind,hzr,newVar,newRow,run_newObj,Result.andThen_ok,Sem.run_pure,q3]
 rfl
theorem run_storeAt {t:TypeId} {b o:Nat} {v:Value} {cur:Array Value} {ty:TypeId} (hs0:(tiOf P t).size≠0) (hv:v.cells.size=(tiOf P t).size) (hsc:∀u∈v.cells,u.scal) (hg:w.heap[b]?=some (.cells cur ty (0,0))) (hfit:o+(tiOf P t).size≤cur.size):
  (Instr.storeAt t (.pointer (some ⟨b,o,none⟩)) v).run P w=.ok () (w.setRow b (cur.toList.take o++v.cells.toList++cur.toList.drop (o+v.cells.toList.length)).toArray):=by
 have hst:=run_storeCells_at P b o ty v.cells.toList 0 cur w hg (by simp;omega) (fun u hu=>oneCell_of_scal (hsc u (by simpa using hu)))
 simp only[Nat.add_zero]at hst
 unfold Instr.storeAt storeVar
 simp only[Instr.sureAddr,Sem.run_bind,Sem.run_pure,Result.andThen_ok,run_sizeOf_ti (tiOf_size hs0),hv,ne_eq,not_true_eq_false,if_false,hst]
theorem exec_store {o:Oper} {t:TypeId} {p x:Operand} {w':World} (ho:o.op=.store t p x) (h:(Instr.storeAt t (a.eval p) (a.eval x)).run P w=.ok () w'):(execOp a.eval o).run P w=.ok .skip w':=by
 unfold execOp;rw[ho]
 simp only[Sem.run_bind,h,Result.andThen_ok,Sem.run_pure]
theorem Does.of_skip {o:Oper} {x:Dl} {w':World} {φ φ':Inj} {S S':Addr→Prop} (hd:a.defers=[]) (hs:a.tmps.size=n) (hdst:∀d',o.dst=some d'→d'<n)
  (hsl:Slots φ s.h w S a s.f) (hr:(execOp a.eval o).run P w=.ok .skip w') (C:Chg κ φ S s.h w φ' S' (writes s.h x.w) (s.nxt+x.nx) w') (hv:x.v=.und):Does P κ n a w o s x:=
 ⟨_,undef,w',hr,.inr ⟨rfl,rfl⟩,Conc.put hd hs hdst hsl C (by rw[hv];exact .und _)⟩
theorem do_makeBoxes {o:Oper} {t e:TypeId} {x c:Operand} {k k':IntKind} {m q:Int} {y:Dl} {acc:List Lab} (ho:o.op=.makeSlice t x c) (hc:Conc κ n s a w) (hdst:∀d',o.dst=some d'→d'<n)
  (hd:(tiOf P t).d=.slice e) (hx:evA s.f x=.t (.int k m)) (hq:evA s.f c=.t (.int k' q)) (h0:0≤m) (h1:m≤q) (h2:q<big) (hb:(tiOf P e).bytes≤100)
  (hmq:m=q) (hs1:(tiOf P e).size=1) (hall:(tiOf P e).zero.all scalB=true) (hzl:(tiOf P e).zero.length=(tiOf P e).size)
  (h:(freshB o.dst (List.replicate m.toNat (((tiOf P e).zero.map const1).headD .und)) m.toNat).run s.h=some (y,acc)):Does P κ n a w o s y:=by
 obtain⟨hde,hs,φ,S,M,hsl⟩:=hc
 have g1:=evA_rep hsl x
 have g2:=evA_rep hsl c
 rw[hx]at g1;rw[hq]at g2
 have g1:=repA_int g1
 have g2:=repA_int g2
 obtain⟨i,zv,q1,q2,q3⟩:=zero_of hzl (by omega)
 obtain⟨hu',i',hi,hi1,hi2,hi3⟩:=tiOf_info (tiOf_size (P:=P) (t:=e) (by omega))
 rw[q1]at hi
 cases hi
 have hu:=(tiOf_info (P:=P) (t:=t) (by rw[hd];simp)).1
 rw[hd]at hu
 have hq2:q<2199023255552:=h2
 have hbyt:(i.bytes:Int)*q≤281474976710656:=by
  have:i.bytes≤100:=by omega
  have:(i.bytes:Int)*q≤100*q:=Int.mul_le_mul_of_nonneg_right (by omega) (by omega)
  omega
 have hr:=run_make (P:=P) w t e i zv hu q1 q2 k k' m q h0 h1 hbyt (by omega)
 unfold freshB at h
 split at h
 ·rename_i d hdd
  obtain⟨acc',h,_⟩:=Rd.run_ask_some h
  split at h
  ·rename_i hl
   obtain⟨rfl,_⟩:=Rd.run_ret_some h
   obtain⟨z0,hz0⟩:∃z0,(tiOf P e).zero=[z0]:=by
    match hz:(tiOf P e).zero,hzl with
    |[z0],_=>exact⟨z0,rfl⟩
    |[],h=>rw[hs1]at h;simp at h
    |_::_::_,h=>rw[hs1]at h;simp at h
   have hisz:i.size=1:=by omega
   have hzc:zv.cells= #[z0]:=by rw[q3,hz0]
   have hvs:∀j,j<m.toNat→(madeCells zv.cells (q.toNat*i.size))[j]?=some z0:=fun j hj=>by
    rw[madeCells_get _ _ _ (by rw[hisz,Nat.mul_one];omega),hzc]
    simp[Nat.mod_one]
   have hvsz:(madeCells zv.cells (q.toNat*i.size)).size=m.toNat:=by rw[size_madeCells,hisz,Nat.mul_one,hmq]
   have hsc:z0.scal:=by
    have:=List.all_eq_true.1 hall z0 (by rw[hz0];simp)
    cases z0<;>first|trivial|simp[scalB]at this
   rw[hz0]
   have C:Chg κ φ S s.h w (upd φ (.loc d 0) (some w.heap.size)) S (upd s.h (.loc d 0) (some (.box (List.replicate m.toNat (const1 z0))))) s.nxt (w.alloc (.cells (madeCells zv.cells (q.toNat*i.size)) e)):=
    M.newRow rfl rfl rfl rfl (.inl hl) (fun id e=>by cases e) (fun e=>by cases e) (Nat.le_refl _) fun av _=>
     ⟨w.heap.size,madeCells zv.cells (q.toNat*i.size),e,upd_same _ _ _,heap_alloc_new w _,by rw[hvsz];simp,fun v hv=>by
       obtain⟨j,hj,rfl⟩:=Array.mem_iff_getElem.1 hv
       have:=hvs j (by omega)
       rw[Array.getElem?_eq_getElem hj]at this
       cases this
       exact hsc,fun e=>(by cases e),fun j c v hj hv=>by
       have hlt:j<m.toNat:=by have:=(List.getElem?_eq_some_iff.1 hj).1;simpa using this
       rw[hvs j hlt]at hv
       cases hv
       rw[List.getElem?_replicate,if_pos hlt]at hj
       cases hj
       exact const1_rep _ _ _ _ _⟩
   refine Does.of_value hde hs hdst hsl ?_ C (.sb _ _ _ q.toNat _ (upd_same _ _ _) (upd_same _ _ _) (by omega))
   unfold execOp;rw[ho]
   simp only[g1,g2,Sem.run_bind,hr,Result.andThen_ok,Sem.run_pure]
  ·exact(Rd.run_fail_some h).elim
 ·exact(Rd.run_fail_some h).elim
theorem store_elem (M:Mem κ φ S H n w) {l:Lab} {sz:Nat} {es:List T} {v frz i j b:Nat} {e t:T} {u:Value} {size:Nat} (hl:H l=some (.arr sz es v frz)) (hb:φ l=some b) (he:es[i]?=some e) (hf:frz≤i) (hj:j+size≤sz)
  (htl:t.cells.length=size) (hs0:size≠0) (hu:RepT φ.objs w S t u) {cur:Array Value} {ty:TypeId} (hg:w.heap[b]?=some (.cells cur ty (0,0))) (hcur:es.length*sz≤cur.size):
  Chg κ φ S H w φ S (upd H l (some (.arr sz (es.set i (if sz=1 then t else .agg (setCells e.cells j t.cells))) v frz))) n (w.setRow b (cur.toList.take (i*sz+j)++u.cells.toList++cur.toList.drop (i*sz+j+u.cells.toList.length)).toArray):=by
 obtain⟨o1,o2,o3,o4,o5,o6⟩:=M.objs l _ hl
 obtain⟨cs,ty',g1,g2,g3,g4⟩:=o6 b hb
 rw[hg]at g1
 have g1:=Option.some.inj g1
 injection g1 with e1 e2 e3
 subst e1
 obtain⟨r1,r2,r3,r4⟩:=repT_cells hu
 have hi:=(List.getElem?_eq_some_iff.1 he).1
 have hem:=List.mem_of_getElem? he
 have hel:=o2 e hem
 have hin:i*sz+sz≤es.length*sz:=by
  have:=Nat.mul_le_mul_right sz (show i+1≤es.length by omega)
  rwa [Nat.add_mul,Nat.one_mul]at this
 have hul:u.cells.toList.length=size:=by simp;omega
 have hlenT:(cur.toList.take (i*sz+j)).length=i*sz+j:=by simp;omega
 have hget:∀k,(cur.toList.take (i*sz+j)++u.cells.toList++cur.toList.drop (i*sz+j+u.cells.toList.length))[k]?=
   if k<i*sz+j then cur[k]? else if k<i*sz+j+size then u.cells[k-(i*sz+j)]? else cur[k]?:=by
  intro k
  rw[getElem?_append3,hlenT,hul]
  split
  ·rename_i hk
   rw[List.getElem?_take,if_pos hk];simp
  ·split
   ·simp
   ·rename_i hk1 hk2
    rw[List.getElem?_drop,show i*sz+j+size+(k-(i*sz+j+size))=k by omega];simp
 -- the new element's cells
 have hnew:(if sz=1 then t else T.agg (setCells e.cells j t.cells)).cells=setCells e.cells j t.cells:=by
  by_cases h1:sz=1
  ·rw[if_pos h1]
   obtain⟨c0,hc0⟩:=List.length_eq_one_iff.1 (hel.trans h1)
   obtain⟨c1,hc1⟩:=List.length_eq_one_iff.1 (show t.cells.length=1 by omega)
   have:j=0:=by omega
   subst this
   rw[hc0,hc1];rfl
  ·rw[if_neg h1];rfl
 have hfz:frz*sz≤i*sz:=Nat.mul_le_mul_right _ hf
 have hSm:∀off,S ⟨b,off,none⟩→off<frz*sz:=fun off hS=>by
  rcases Nat.lt_or_ge off (frz*sz) with h'|h'
  ·exact h'
  ·exact absurd ⟨l,_,hl,hb,h'⟩ (M.stab _ hS)
 refine M.write (o':=.arr sz (es.set i (if sz=1 then t else .agg (setCells e.cells j t.cells))) v frz) hl hb hg (fun k hk=>setRow_other w b k _ hk) (setRow_heap w b cur _ ty _ hg) (size_setRow _ _ _) rfl rfl rfl
  (by simp;omega) (fun off hS=>by rw[List.getElem?_toArray,hget,if_pos (by have:=hSm off hS;omega)])
  ⟨Nat.le_refl _,fun _=>⟨rfl,by simp,rfl,fun b' cs' ty' fr' hb' hc'=> ?_⟩⟩ (fun ad' h' hb' hop=>M.stab ad' h' ⟨l,_,hl,by rw[hb'];exact hb,hop⟩) (fun av tv=> ?_)
 ·rw[hb]at hb'
  cases hb'
  rw[hg]at hc'
  cases hc'
  exact⟨_,ty,_,setRow_heap w b cur _ ty _ hg,by simp;omega⟩
 ·refine⟨o1,fun el hel'=> ?_,fun el hel' c hc=> ?_,by simpa using o4,fun h'=>(by rw[hb]at h';cases h'),fun b' hb'=> ?_⟩
  ·rcases List.mem_or_eq_of_mem_set hel' with h'|rfl
   ·exact o2 el h'
   ·rw[hnew,setCells_length,hel]
  ·rcases List.mem_or_eq_of_mem_set hel' with h'|rfl
   ·exact o3 el h' c hc
   ·rw[hnew]at hc
    obtain⟨k,hk⟩:=List.getElem?_of_mem hc
    rw[setCells_get _ _ _ _ (by omega)]at hk
    split at hk
    ·exact r2 c (List.mem_of_getElem? hk)
    ·exact o3 e hem c (List.mem_of_getElem? hk)
  ·rw [hb] at hb'
   cases hb'
   refine⟨_,ty,setRow_heap w b cur _ ty _ hg,by simp;omega,fun i' j' el c hel' hc=> ?_,g4⟩
   simp only[List.getElem?_toArray]
   rw[List.getElem?_set]at hel'
   split at hel'
   ·rename_i hii
    subst hii
    have hel':some (if sz=1 then t else T.agg (setCells e.cells j t.cells))=some el:=by first|exact hel'|(rw[if_pos hi]at hel';exact hel')
    cases hel'
    rw[hnew,setCells_get _ _ _ _ (by omega)]at hc
    have hj':j'<sz:=by
     split at hc
     ·omega
     ·have:=(List.getElem?_eq_some_iff.1 hc).1;omega
    rw[hget]
    split at hc
    ·rename_i hr
     rw[if_neg (by omega),if_pos (by omega),show i*sz+j'-(i*sz+j)=j'-j by omega]
     have hlt:=(List.getElem?_eq_some_iff.1 hc).1
     have hu':=Array.getElem?_eq_getElem (xs:=u.cells) (i:=j'-j) (by omega)
     exact⟨_,hu',tv _ _ (r4 _ _ _ hc hu')⟩
    ·rename_i hr
     obtain⟨u',q1,q2⟩:=g3 i j' e c he hc
     refine⟨u',?_,tv _ _ q2⟩
     split
     ·exact q1
     ·rw[if_neg (by omega)];exact q1
   ·rename_i hii
    obtain⟨u',q1,q2⟩:=g3 i' j' el c hel' hc
    refine⟨u',?_,tv _ _ q2⟩
    have hj':j'<sz:=by
     have:=(List.getElem?_eq_some_iff.1 hc).1
     rw[o2 el (List.mem_of_getElem? hel')]at this
     exact this
    have hout:i'*sz+j'<i*sz∨i*sz+sz≤i'*sz+j':=by
     rcases Nat.lt_or_ge i' i with h'|h'
     ·left
      have:=Nat.mul_le_mul_right sz (show i'+1≤i by omega)
      rw[Nat.add_mul,Nat.one_mul]at this
      omega
     ·right
      have:=Nat.mul_le_mul_right sz (show i+1≤i' by omega)
      rw[Nat.add_mul,Nat.one_mul]at this
      omega
    rw[hget]
    split
    ·exact q1
    ·rw[if_neg (by omega)];exact q1
theorem store_cell (M:Mem κ φ S H n w) {l:Lab} {cs:List AV} {j b:Nat} {x:AV} {u:Value} (hl:H l=some (.box cs)) (hb:φ l=some b) (hj:j<cs.length) (hx:RepA φ H w S x u) (hsc:u.scal) (hpx:l.pool=true→poolCell x)
  {cur:Array Value} {ty:TypeId} (hg:w.heap[b]?=some (.cells cur ty (0,0))):
  Chg κ φ S H w φ S (upd H l (some (.box (cs.set j x)))) n (w.setRow b (cur.toList.take j++[u]++cur.toList.drop (j+1)).toArray):=by
 obtain⟨b',vs,ty',g0,g1,g2,g3,hpc,g4⟩:=M.objs l _ hl
 rw[hb]at g0
 cases g0
 rw[hg]at g1
 have g1:=Option.some.inj g1
 injection g1 with e1 e2 e3
 subst e1
 have hlenT:(cur.toList.take j).length=j:=by simp;omega
 have hget:∀k,(cur.toList.take j++[u]++cur.toList.drop (j+1))[k]?=if k<j then cur[k]? else if k<j+1 then some u else cur[k]?:=by
  intro k
  rw[getElem?_append3,hlenT,List.length_singleton]
  split
  ·rename_i hk
   rw[List.getElem?_take,if_pos hk];simp
  ·split
   ·rw[show k-j=0 by omega];rfl
   ·rename_i hk1 hk2
    rw[List.getElem?_drop,show j+1+(k-(j+1))=k by omega];simp
 refine M.write (o':=.box (cs.set j x)) hl hb hg (fun k hk=>setRow_other w b k _ hk) (setRow_heap w b cur _ ty _ hg) (size_setRow _ _ _) rfl rfl rfl
  (by simp;omega) (fun off hS=>absurd ⟨l,_,hl,hb,trivial⟩ (M.stab _ hS)) rfl (fun ad' h' hb' _=>M.stab ad' h' ⟨l,_,hl,by rw[hb'];exact hb,trivial⟩) (fun av tv=> ?_)
 refine⟨b,_,ty,hb,setRow_heap w b cur _ ty _ hg,by simp;omega,fun v hv=> ?_,fun hob c hc=> ?_,fun k c v hk hv=> ?_⟩
 ·obtain⟨k,hk⟩:=List.getElem?_of_mem (show v∈cur.toList.take j++[u]++cur.toList.drop (j+1) by simpa using hv)
  rw[hget]at hk
  split at hk
  ·exact g3 _ (Array.mem_of_getElem? hk)
  ·split at hk
   ·cases hk;exact hsc
   ·exact g3 _ (Array.mem_of_getElem? hk)
 ·rcases List.mem_or_eq_of_mem_set hc with h'|rfl
  ·exact hpc hob c h'
  ·exact hpx hob
 ·rw[List.getElem?_toArray,hget]at hv
  rw[List.getElem?_set]at hk
  by_cases e:j=k
  ·subst e
   rw[if_pos rfl,if_pos hj]at hk
   cases hk
   rw[if_neg (by omega),if_pos (by omega)]at hv
   cases hv
   exact av _ _ hx
  ·rw[if_neg e]at hk
   have hv':cur[k]?=some v:=by
    split at hv
    ·exact hv
    ·rw[if_neg (by omega)]at hv;exact hv
   exact av _ _ (g4 _ _ _ hk hv')
theorem store_cells (M:Mem κ φ S H n w) {l:Lab} {cs xs:List AV} {j b:Nat} {u:Value} (hl:H l=some (.box cs)) (hb:φ l=some b) (hj:j+xs.length≤cs.length) (hx:RepL φ H w S xs u.cells) (hp:l.pool=true→∀c∈xs,poolCell c)
  {cur:Array Value} {ty:TypeId} (hg:w.heap[b]?=some (.cells cur ty (0,0))):
  Chg κ φ S H w φ S (upd H l (some (.box (setCells cs j xs)))) n (w.setRow b (cur.toList.take j++u.cells.toList++cur.toList.drop (j+u.cells.toList.length)).toArray):=by
 obtain⟨b',vs,ty',g0,g1,g2,g3,hpc,g4⟩:=M.objs l _ hl
 rw[hb]at g0
 cases g0
 rw[hg]at g1
 have g1:=Option.some.inj g1
 injection g1 with e1 e2 e3
 subst e1
 obtain⟨x1,x2,x3⟩:=hx
 have hlenT:(cur.toList.take j).length=j:=by simp;omega
 have hlu:u.cells.toList.length=xs.length:=by simpa using x1
 have hget:∀k,(cur.toList.take j++u.cells.toList++cur.toList.drop (j+u.cells.toList.length))[k]?=if j≤k∧k<j+xs.length then u.cells[k-j]? else cur[k]?:=by
  intro k
  rw[getElem?_append3,hlenT,hlu]
  by_cases h1:k<j
  ·rw[if_pos h1,if_neg (by omega),List.getElem?_take,if_pos h1];simp
  ·rw[if_neg h1]
   by_cases h2:k<j+xs.length
   ·rw[if_pos h2,if_pos ⟨by omega,h2⟩];simp
   ·rw[if_neg h2,if_neg (by omega),List.getElem?_drop,show j+xs.length+(k-(j+xs.length))=k by omega];simp
 refine M.write (o':=.box (setCells cs j xs)) hl hb hg (fun k hk=>setRow_other w b k _ hk) (setRow_heap w b cur _ ty _ hg) (size_setRow _ _ _) rfl rfl rfl
  (by simp;omega) (fun off hS=>absurd ⟨l,_,hl,hb,trivial⟩ (M.stab _ hS)) rfl (fun ad' h' hb' _=>M.stab ad' h' ⟨l,_,hl,by rw[hb'];exact hb,trivial⟩) (fun av tv=> ?_)
 refine⟨b,_,ty,hb,setRow_heap w b cur _ ty _ hg,by simp[setCells_length];omega,fun v hv=> ?_,fun hob c hc=> ?_,fun k c v hk hv=> ?_⟩
 ·obtain⟨k,hk⟩:=List.getElem?_of_mem (show v∈cur.toList.take j++u.cells.toList++cur.toList.drop (j+u.cells.toList.length) by simpa using hv)
  rw[hget]at hk
  split at hk
  ·exact x2 _ (Array.mem_of_getElem? hk)
  ·exact g3 _ (Array.mem_of_getElem? hk)
 ·obtain⟨k,hk⟩:=List.getElem?_of_mem hc
  rw[setCells_get _ _ _ _ hj]at hk
  split at hk
  ·exact hp hob _ (List.mem_of_getElem? hk)
  ·exact hpc hob _ (List.mem_of_getElem? hk)
 ·rw[List.getElem?_toArray,hget]at hv
  rw[setCells_get _ _ _ _ hj]at hk
  split at hk
  ·rename_i hc
   rw[if_pos hc]at hv
   exact av _ _ (x3 _ _ _ hk hv)
  ·rename_i hc
   rw[if_neg hc]at hv
   exact av _ _ (g4 _ _ _ hk hv)
theorem plainL_pool:∀{cs:List AV},plainL cs=true→∀c∈cs,poolCell c
 |[],_,_,h=>by cases h
 | .t t :: r, h, c, hc => by
   rcases List.mem_cons.1 hc with rfl|hc
   ·exact trivial
   ·exact plainL_pool (cs:=r) h c hc
 | .nil :: r, h, c, hc => by
   rcases List.mem_cons.1 hc with rfl|hc
   ·exact trivial
   ·exact plainL_pool (cs:=r) h c hc
 |.und::_,h,_,_|.sl ..::_,h,_,_|.ep ..::_,h,_,_|.tp _::_,h,_,_|.bp _ _::_,h,_,_|.mp _::_,h,_,_|.sb _ _::_,h,_,_|.agg _::_,h,_,_|.tup _::_,h,_,_=>by cases h
theorem do_store {o : Oper} {t : TypeId} {p x : Operand} {y : Dl} {acc : List Lab} (ho : o.op = .store t p x) (hc : Conc κ n s a w) (hdst : ∀ d', o.dst = some d' → d' < n)
  (h:(storeA (tiOf P t) (evA s.f p) (evA s.f x)).run s.h=some (y,acc)):Does P κ n a w o s y:=by
 obtain⟨hde,hs,φ,S,M,hsl⟩:=hc
 have hp:=evA_rep hsl p
 have hx:=evA_rep hsl x
 unfold storeA at h
 split at h
 ·exact(Rd.run_fail_some h).elim
 rename_i hs0
 generalize hpe:evA s.f p=pe at hp h
 generalize hpv:a.eval p=pv at hp
 cases hp with
 | ep l ver i j v o' hl hv' hh =>
   obtain⟨⟨tt,ws⟩,a1,a2,h1,h2,_⟩:=Rd.run_bind_some h
   obtain⟨a3,h3,_⟩:=Rd.run_ask_some h2
   rw[hl]at h3
   cases o' with
   |box=>exact(Rd.run_fail_some h3).elim
   |dead=>exact(Rd.run_fail_some h3).elim
   |map=>exact(Rd.run_fail_some h3).elim
   | arr sz es v0 frz =>
     simp only at h3
     split at h3
     ·rename_i hcond
      obtain⟨hver,c2,c3,c4,c5⟩:=hcond
      subst hver
      split at h3
      ·rename_i e he
       obtain⟨rfl,_⟩:=Rd.run_ret_some h3
       obtain⟨q1,b,hb,rfl⟩:=(hh _ _ _ _ rfl).2 rfl
       obtain⟨S',R,hrep⟩:=reify_sim (H:=s.h) M (Frz.refl _) hx h1
       have hl1:writes s.h ws l=some (.arr sz es ver frz):=by
        have:∀(ws:List (Lab×Obj)) (h:Heap),(∀q∈ws,q.1≠l)→writes h ws l=h l:=by
         intro ws
         induction ws with
         |nil=>intro h _;rfl
         | cons q r ih =>
           intro h hq
           obtain⟨ql,qo⟩:=q
           rw[writes_cons,ih _ (fun q' hq'=>hq q' (by simp[hq'])),upd_ne _ _ _ _ (show l≠ql from(hq (ql,qo) (by simp)).symm)]
        rw[this ws s.h (fun q hq=>by simpa using List.all_eq_true.1 c5 q hq)]
        exact hl
       obtain⟨o1,o2,o3,o4,o5,o6⟩:=R.chg.mem.objs l _ hl1
       obtain⟨cs,ty,g1,g2,g3,g4⟩:=o6 b hb
       obtain⟨r1,r2,r3,r4⟩:=repT_cells hrep
       have hi:=(List.getElem?_eq_some_iff.1 he).1
       have hin:i*sz+sz≤es.length*sz:=by
        have:=Nat.mul_le_mul_right sz (show i+1≤es.length by omega)
        rwa [Nat.add_mul,Nat.one_mul]at this
       have C:=store_elem R.chg.mem hl1 hb he c2 c4 c3 hs0 hrep g1 g2
       have e3:writes s.h (ws++[(l,.arr sz (es.set i (if sz=1 then tt else .agg (setCells e.cells j tt.cells))) ver frz)])=upd (writes s.h ws) l (some (.arr sz (es.set i (if sz=1 then tt else .agg (setCells e.cells j tt.cells))) ver frz)):=by rw[writes_append];rfl
       refine Does.of_skip (φ':=φ) (S':=S') hde hs hdst hsl (exec_store ho (by rw[hpv];exact run_storeAt hs0 (by rw[r1,c3]) r3 g1 (by omega))) ?_ rfl
       show Chg _ _ _ _ _ _ _ (writes s.h (ws++[(l,.arr sz (es.set i (if sz=1 then tt else .agg (setCells e.cells j tt.cells))) ver frz)])) _ _
       rw[e3]
       exact R.chg.trans C
      ·exact(Rd.run_fail_some h3).elim
     ·exact(Rd.run_fail_some h3).elim
 | bp l j b cs hl hb =>
   simp only at h
   split at h
   ·split at h
    ·rename_i hcc
     obtain⟨a3,h3,_⟩:=Rd.run_ask_some h
     rw[hl]at h3
     simp only at h3
     split at h3
     ·rename_i hcond
      obtain⟨c1,c2⟩:=hcond
      obtain⟨rfl,_⟩:=Rd.run_ret_some h3
      obtain⟨b',vs,ty,g0,g1,g2,g3,_,g4⟩:=M.objs l _ hl
      rw[hb]at g0
      cases g0
      have hr0:=okPart_rep hcc.2 hx
      have C:=store_cells M hl hb (by rw[c2];exact c1) hr0 (fun hob=>hcc.1.elim (fun e=>by rw[hob]at e;cases e) fun e=>plainL_pool e) g1
      have hr:=run_storeAt (P:=P) (w:=w) (t:=t) (b:=b) (o:=j) (v:=a.eval x) hs0 (hr0.1.trans c2) hr0.2.1 g1 (by omega)
      exact Does.of_skip (φ':=φ) (S':=S) hde hs hdst hsl (exec_store ho (by rw[hpv];exact hr)) C rfl
     ·exact(Rd.run_fail_some h3).elim
    ·exact(Rd.run_fail_some h).elim
   obtain⟨⟨xc,ws⟩,a1,a2,h1,h2,_⟩:=Rd.run_bind_some h
   obtain⟨a3,h3,_⟩:=Rd.run_ask_some h2
   rw[hl]at h3
   simp only at h3
   split at h3
   ·rename_i hcond
    obtain⟨c1,c2⟩:=hcond
    obtain⟨rfl,_⟩:=Rd.run_ret_some h3
    -- the cell's value, behind what is moved
    obtain ⟨φ', C1, hx1, hsc, hl1, hb1, hpx⟩ : ∃ φ', Chg κ φ S s.h w φ' S (writes s.h ws) s.nxt w ∧ RepA φ' (writes s.h ws) w S xc (a.eval x) ∧ (a.eval x).scal ∧ writes s.h ws l = some (.box cs) ∧ φ' l = some b ∧ (l.pool = true → poolCell xc) := by
     have same:evA s.f x=xc→ws=[]→okPart (evA s.f x)=true→isAggA (evA s.f x)=false→(l.pool=true→poolCell xc)→∃φ',Chg κ φ S s.h w φ' S (writes s.h ws) s.nxt w∧RepA φ' (writes s.h ws) w S xc (a.eval x)∧(a.eval x).scal∧writes s.h ws l=some (.box cs)∧φ' l=some b∧(l.pool=true→poolCell xc):=by
      intro e1 e2 e3 e4 e5
      subst e1
      subst e2
      refine⟨φ,Chg.refl M,hx,?_,hl,hb,e5⟩
      have hr:=okPart_rep e3 hx
      have hc1:cellsA (evA s.f x)=[evA s.f x]:=by
       generalize evA s.f x=z at e4
       cases z with
       |agg=>simp[isAggA]at e4
       |t t0=>cases t0<;>first|rfl|simp[isAggA]at e4
       |_=>rfl
      cases hv:a.eval x with
      | agg vs =>
        rw[hv]at hr hx
        rw[hc1]at hr
        exfalso
        generalize evA s.f x=z at*
        cases hx with
        |und=>simp[okPart]at e3
        |t t0 _ h0=>cases h0 with|agg=>simp[isAggA]at e4
        |sl _ _ _ _ _ _ _ hv'=>exact hv'
        |ep _ _ _ _ _ _ _ hv'=>exact hv'
        |agg=>simp[isAggA]at e4
      | tuple vs =>
        rw[hv]at hx
        generalize evA s.f x=z at*
        cases hx with
        |und=>simp[okPart]at e3
        |t t0 _ h0=>cases h0
        |sl _ _ _ _ _ _ _ hv'=>exact hv'
        |ep _ _ _ _ _ _ _ hv'=>exact hv'
        |tup=>simp[okPart]at e3
      |_=>trivial
     have ldone:l.pool=false→∀{q:Rd (AV×List (Lab×Obj))},q=(if okPart (evA s.f x)=true∧isAggA (evA s.f x)=false then .ret (evA s.f x,[]) else .fail)→q.run s.h=some ((xc,ws),a1)→∃φ',Chg κ φ S s.h w φ' S (writes s.h ws) s.nxt w∧RepA φ' (writes s.h ws) w S xc (a.eval x)∧(a.eval x).scal∧writes s.h ws l=some (.box cs)∧φ' l=some b∧(l.pool=true→poolCell xc):=by
      intro hno q hq hr
      subst hq
      split at hr
      ·rename_i hcc
       obtain⟨e,_⟩:=Rd.run_ret_some hr
       cases e
       exact same rfl rfl hcc.1 hcc.2 (fun e=>by rw[hno]at e;cases e)
      ·exact(Rd.run_fail_some hr).elim
     cases l with
     |loc d k=>exact ldone rfl rfl h1
     |arg i=>exact(Rd.run_fail_some h1).elim
     |fld i k=>exact(Rd.run_fail_some h1).elim
     |res k=>exact ldone rfl rfl h1
     | obj id =>
       simp only[toCell]at h1
       split at h1
       ·-- a row of the call's own is moved
        rename_i d k v off nn hxe
        split at h1
        ·rename_i hoff
         subst hoff
         obtain⟨a4,h4,_⟩:=Rd.run_ask_some h1
         split at h4
         ·rename_i size es v' frz hlr
          split at h4
          ·rename_i hcc
           obtain⟨rfl,rfl,rfl⟩:=hcc
           obtain⟨a5,h5,_⟩:=Rd.run_ask_some h4
           rw[hxe]at hx
           generalize hxv:a.eval x=xv at hx
           cases hx with
           | sl _ _ _ _ _ o' ho' hv' hh =>
             rw[hlr]at ho'
             cases ho'
             obtain⟨k1,ad,cap,rfl,k3,k4,k5⟩:=(hh _ _ _ _ rfl).2 rfl
             have moved:∀vn,(s.h (.fld id j)=none∨∃size' es' v' frz',s.h (.fld id j)=some (.arr size' es' v' frz')∧v'<vn)→xc=.sl (.fld id j) vn 0 es.length→ws=[(.loc d k,.dead),(.fld id j,.arr size es vn 0)]→
              ∃φ',Chg κ φ S s.h w φ' S (writes s.h ws) s.nxt w∧RepA φ' (writes s.h ws) w S xc (.slice ad es.length cap)∧(Value.slice ad es.length cap).scal∧writes s.h ws (.obj id)=some (.box cs)∧φ' (.obj id)=some b∧(Lab.pool (.obj id)=true→poolCell xc):=by
              intro vn ht e1 e2
              subst e1
              subst e2
              have C:=M.move (vn:=vn) hlr ht
              refine⟨_,C,?_,trivial,?_,?_,fun _=>trivial⟩
              ·refine .sl _ _ _ _ _ _ (upd_same _ _ _) trivial fun size' es' v'' frz' e'=> ?_
               cases e'
               refine⟨Nat.le_refl _,fun _=>⟨by omega,ad,cap,rfl,k3,?_,?_⟩⟩
               ·rw[upd_same];exact k4
               ·rw[upd_same];exact k5
              ·show upd (upd s.h (.loc d k) (some .dead)) (.fld id j) (some (.arr size es vn 0)) (.obj id)=_
               rw[upd_ne _ _ _ _ (by simp),upd_ne _ _ _ _ (by simp)];exact hl
              ·rw[upd_ne _ _ _ _ (by simp),upd_ne _ _ _ _ (by simp)];exact hb
             split at h5
             ·rename_i hf
              obtain⟨e,_⟩:=Rd.run_ret_some h5
              cases e
              exact moved 0 (.inl hf) rfl rfl
             ·rename_i s1 e1 v'' f1 hf
              obtain⟨e,_⟩:=Rd.run_ret_some h5
              cases e
              exact moved (v''+1) (.inr ⟨_,_,_,_,hf,Nat.lt_succ_self _⟩) rfl rfl
             ·exact(Rd.run_fail_some h5).elim
          ·exact(Rd.run_fail_some h4).elim
         ·exact(Rd.run_fail_some h4).elim
        ·exact(Rd.run_fail_some h1).elim
       ·rename_i l' v off nn hnot hxe
        split at h1
        ·rename_i hfl
         obtain⟨e,_⟩:=Rd.run_ret_some h1
         cases e
         exact same hxe rfl (by rw[hxe];rfl) (by rw[hxe];rfl) (fun _=>by rw[hfl];trivial)
        ·exact(Rd.run_fail_some h1).elim
       ·rename_i t0 hxe
        split at h1
        ·rename_i hag
         obtain⟨e,_⟩:=Rd.run_ret_some h1
         cases e
         exact same hxe rfl (by rw[hxe];rfl) (by rw[hxe];exact hag) (fun _=>trivial)
        ·exact(Rd.run_fail_some h1).elim
       ·rename_i hxe
        obtain⟨e,_⟩:=Rd.run_ret_some h1
        cases e
        exact same hxe rfl (by rw[hxe];rfl) (by rw[hxe];rfl) (fun _=>trivial)
       ·rename_i k hxe
        obtain⟨e,_⟩:=Rd.run_ret_some h1
        cases e
        rw[hxe]at hx
        obtain⟨b',cs',q1,q2,q3⟩:=repA_bp hx
        exact⟨φ,Chg.refl M,.t _ _ (by rw[q3];exact .ptr k b' q2),by rw[q3];trivial,hl,hb,fun _=>trivial⟩
       ·exact(Rd.run_fail_some h1).elim
    obtain⟨b',vs,ty,g0,g1,g2,g3,_,g4⟩:=C1.mem.objs l _ hl1
    rw[hb1]at g0
    cases g0
    have C:=store_cell C1.mem hl1 hb1 c1 hx1 hsc hpx g1
    have hcl:=Value.scal_cells hsc
    have hr:=run_storeAt (P:=P) (w:=w) (t:=t) (b:=b) (o:=j) (v:=a.eval x) hs0 (by rw[hcl,c2];rfl) (by rw[hcl];simpa using hsc) g1 (by omega)
    rw[hcl]at hr
    have e3:writes s.h (ws++[(l,.box (cs.set j xc))])=upd (writes s.h ws) l (some (.box (cs.set j xc))):=by rw[writes_append];rfl
    refine Does.of_skip (φ':=φ') (S':=S) hde hs hdst hsl (exec_store ho (by rw[hpv];exact hr)) ?_ rfl
    show Chg _ _ _ _ _ _ _ (writes s.h (ws++[(l,.box (cs.set j xc))])) _ _
    rw[e3]
    exact C1.trans C
   ·exact(Rd.run_fail_some h3).elim
 |_=>exact(Rd.run_fail_some h).elim
theorem do_makeMap {o:Oper} {t:TypeId} {d:Tmp} (ho:o.op=.makeMap t none) (hd:o.dst=some d) (hc:Conc κ n s a w) (hdst:∀d',o.dst=some d'→d'<n) (hl:s.h (.loc d 0)=none):
  Does P κ n a w o s {v:=.mp (.loc d 0),w:=[(.loc d 0,.map [])]}:=by
 obtain⟨hde,hs,φ,S,M,hsl⟩:=hc
 have C:Chg κ φ S s.h w (upd φ (.loc d 0) (some w.heap.size)) S (upd s.h (.loc d 0) (some (.map []))) s.nxt (w.alloc (.map #[] 0)):=
  M.newAny (ob:=.map #[] 0) rfl rfl rfl rfl (.inl hl) (fun id e=>by cases e) (fun e=>by cases e) (Nat.le_refl _) fun _ _=>
   ⟨rfl,w.heap.size,#[],0,upd_same _ _ _,heap_alloc_new w _,rfl⟩
 refine Does.of_value hde hs hdst hsl ?_ C (.mp _ _ _ (upd_same _ _ _) (upd_same _ _ _))
 unfold execOp;rw[ho]
 rfl
theorem entries_find {k:Int}:∀(es:List MapEntry) (kvs:List (Int×Int)) (i:Nat),es.map (fun e=>(e.key,e.val))=kvs.map (fun p=>(Value.int .i64 p.1,Value.int .i64 p.2))→
  Instr.findNow (.int .i64) (.int .i64 k) es i=some ((midx kvs k).map fun j=>(i+j,.int .i64 (kvs.getD j (0,0)).2))
 |[],[],i,_=>rfl
 |[],_::_,i,h=>by simp at h
 |_::_,[],i,h=>by simp at h
 | e :: es, p :: r, i, h => by
   simp only[List.map_cons,List.cons.injEq,Prod.mk.injEq]at h
   obtain⟨⟨h1,h2⟩,h3⟩:=h
   have ih:=entries_find (k:=k) es r (i+1) h3
   unfold Instr.findNow
   rw[h1]
   simp only[Instr.sameNow,if_true]
   by_cases hk:k=p.1
   ·subst hk
    simp[midx,List.findIdx?_cons,h2]
   ·rw[show(k==p.1)=false by simpa using hk]
    simp only
    rw[ih]
    have:(p.1==k)=false:=by simpa using fun e=>hk (Eq.symm e)
    simp only[midx,List.findIdx?_cons,this,Option.map_map]
    congr 1
    cases List.findIdx? (fun p=>p.1==k) r with
    |none=>rfl
    |some j=>simp;omega
theorem midx_some {kvs:List (Int×Int)} {k:Int} {i:Nat} (h:midx kvs k=some i):∃x,kvs[i]?=some (k,x):=by
 unfold midx at h
 rw[List.findIdx?_eq_some_iff_getElem]at h
 obtain⟨h1,h2,_⟩:=h
 have h2:kvs[i].1=k:=by simpa using h2
 exact⟨kvs[i].2,by rw[List.getElem?_eq_getElem h1,←h2]⟩
theorem i64T_desc {ti:TI} (h:i64T ti=true):ti.d=.int .i64:=by
 unfold i64T at h
 split at h
 ·assumption
 ·cases h
theorem und_run {t:TypeId} {d:TypeDesc} (h:(tiOf P t).d=d) (hd:d≠.invalid):P.underlying t=some d:=by
 have:=(tiOf_info (P:=P) (t:=t) (by rw[h];exact hd)).1
 rw[this,h]
theorem run_underlying' {t:TypeId} {d:TypeDesc} (h:(tiOf P t).d=d) (hd:d≠.invalid):(underlying t).run P w=.ok d w:=by
 have:=und_run (P:=P) h hd
 simp[underlying,this]
theorem run_checkKey {t:TypeId} {k:Int} {b:Bool} (h:(tiOf P t).d=.int .i64):(Instr.checkKey b 10000 t (.int .i64 k)).run P w=.ok () w:=by
 have h:=run_underlying' (P:=P) (w:=w) h (by simp)
 unfold Instr.checkKey
 simp only[Sem.run_bind,h,Result.andThen_ok,Sem.run_pure]
theorem run_findKey {t:TypeId} {k:Int} {es:List MapEntry} {kvs:List (Int×Int)} (h:(tiOf P t).d=.int .i64) (he:es.map (fun e=>(e.key,e.val))=kvs.map (fun p=>(Value.int .i64 p.1,Value.int .i64 p.2))):
  (Instr.findKey t (.int .i64 k) es).run P w=.ok ((midx kvs k).map fun j=>(j,.int .i64 (kvs.getD j (0,0)).2)) w:=by
 have h:=run_underlying' (P:=P) (w:=w) h (by simp)
 unfold Instr.findKey
 simp only[Sem.run_bind,h,Result.andThen_ok,entries_find es kvs 0 he,Sem.run_pure,Nat.zero_add]
theorem get_map {r:Nat} {es:Array MapEntry} {c:Nat} (h:w.heap[r]?=some (.map es c)):(getObj r).run P w=.ok (.map es c) w:=by simp[getObj,Sem.run,h]
theorem set_map_run {r:Nat} {es:Array MapEntry} {c:Nat} (ob:Go.Obj) (h:w.heap[r]?=some (.map es c)):(setObj r ob).run P w=.ok () {w with heap:=w.heap.setIfInBounds r ob}:=by
 simp[setObj,Sem.run,h]
theorem keyStays {k:Int}:(Instr.keyThatStays (.int .i64 k) (.int .i64 k)).run P w=.ok (.int .i64 k) w:=by
 unfold Instr.keyThatStays
 simp[Instr.sameBits,Sem.run_pure]
theorem do_lookup {o:Oper} {t kt et:TypeId} {m k:Operand} {l:Lab} {ki:Int} {kvs:List (Int×Int)} (ho:o.op=.lookup t m k false) (hd:(tiOf P t).d=.map kt et) (hk:i64T (tiOf P kt)=true)
  (hm:evA s.f m=.mp l) (hki:evA s.f k=.t (.int .i64 ki)) (hl:s.h l=some (.map kvs)) (hi:(midx kvs ki).isSome=true) (hc:Conc κ n s a w) (hdst:∀d',o.dst=some d'→d'<n):
  Does P κ n a w o s {v:=.t (.int .i64 (mget kvs ki))}:=by
 obtain⟨hde,hs,φ,S,M,hsl⟩:=hc
 have hkt:=i64T_desc hk
 have hp:=evA_rep hsl m
 have hkr:=repA_int (hki▸evA_rep hsl k)
 rw[hm]at hp
 generalize hpv:a.eval m=pv at hp
 cases hp with
 | mp _ b kvs' ho' hb =>
   rw[hl]at ho'
   cases ho'
   obtain⟨_,b',es,c,hb',hg,hes⟩:=M.objs l _ hl
   rw[hb]at hb'
   cases hb'
   refine Does.of_pure hde hs hdst hsl (M:=M) (v:=.int .i64 (mget kvs ki)) ?_ (.t _ _ (.int _ _))
   unfold execOp;rw[ho]
   simp only[hpv,hkr]
   unfold Instr.lookup
   obtain⟨i,hi⟩:=Option.isSome_iff_exists.1 hi
   have e:mget kvs ki=(kvs.getD i (0,0)).2:=by unfold mget;rw[hi]
   simp only[Sem.run_bind,run_underlying' (P:=P) hd (by simp),Result.andThen_ok,get_map hg,Sem.run_pure,run_checkKey hkt,run_findKey hkt hes,hi,Option.map_some]
   rw[e]
   rfl
theorem do_mapUpdate {o:Oper} {t kt et:TypeId} {m k x:Operand} {l:Lab} {ki xi:Int} {kvs:List (Int×Int)} (ho:o.op=.mapUpdate t m k x) (hd:(tiOf P t).d=.map kt et) (hk:i64T (tiOf P kt)=true)
  (hm:evA s.f m=.mp l) (hki:evA s.f k=.t (.int .i64 ki)) (hxi:evA s.f x=.t (.int .i64 xi)) (hl:s.h l=some (.map kvs)) (hc:Conc κ n s a w) (hdst:∀d',o.dst=some d'→d'<n):
  Does P κ n a w o s {v:=.und,w:=[(l,.map (mput kvs ki xi))]}:=by
 obtain⟨hde,hs,φ,S,M,hsl⟩:=hc
 have hkt:=i64T_desc hk
 have hp:=evA_rep hsl m
 have hkr:=repA_int (hki▸evA_rep hsl k)
 have hxr:=repA_int (hxi▸evA_rep hsl x)
 rw[hm]at hp
 generalize hpv:a.eval m=pv at hp
 cases hp with
 | mp _ b kvs' ho' hb =>
   rw[hl]at ho'
   cases ho'
   obtain⟨_,b',es,c,hb',hg,hes⟩:=M.objs l _ hl
   rw[hb]at hb'
   cases hb'
   have hbs:b<w.heap.size:=M.lt _ _ hb
   have done:∀es' c',es'.toList.map (fun e=>(e.key,e.val))=(mput kvs ki xi).map (fun p=>(Value.int .i64 p.1,Value.int .i64 p.2))→
    (Instr.mapUpdate t (.map (some b)) (.int .i64 ki) (.int .i64 xi)).run P w=.ok () {w with heap:=w.heap.setIfInBounds b (.map es' c')}→Does P κ n a w o s {v:=.und,w:=[(l,.map (mput kvs ki xi))]}:=by
    intro es' c' he hr
    have C:=M.writeMap (kvs':=mput kvs ki xi) (es':=es') (c':=c') (w':={w with heap:=w.heap.setIfInBounds b (.map es' c')}) hl hb hg
     (fun k hk=>by simp only[Array.getElem?_setIfInBounds];rw[if_neg (fun e=>hk e.symm)]) (by simp[Array.getElem?_setIfInBounds,hbs]) (by simp) rfl rfl rfl he
    refine Does.of_skip (φ':=φ) (S':=S) hde hs hdst hsl ?_ C rfl
    unfold execOp;rw[ho]
    simp only[hpv,hkr,hxr,Sem.run_bind,hr,Result.andThen_ok,Sem.run_pure]
   cases hi:midx kvs ki with
   | none =>
     refine done (es.push {key:=.int .i64 ki,val:=.int .i64 xi,born:=c}) (c+1) (by simp[mput,hi,hes]) ?_
     unfold Instr.mapUpdate
     simp only[Sem.run_bind,run_underlying' (P:=P) hd (by simp),Result.andThen_ok,get_map hg,run_checkKey hkt,run_findKey hkt hes,hi,Option.map_none,set_map_run _ hg]
   | some i =>
     obtain⟨y,hy⟩:=midx_some hi
     have hei:∃e,es.toList[i]?=some e∧e.key=.int .i64 ki∧e.val=.int .i64 y:=by
      have:=congrArg (fun l=>l[i]?) hes
      simp only[List.getElem?_map,hy,Option.map_some]at this
      rw[Option.map_eq_some_iff]at this
      obtain⟨e,h1,h2⟩:=this
      cases e
      simp at h2
      exact⟨_,h1,h2.1,h2.2⟩
     obtain⟨e,he1,he2,he3⟩:=hei
     have he1':es[i]?=some e:=by simpa using he1
     refine done (es.modify i fun e=>{e with key:=.int .i64 ki,val:=.int .i64 xi}) c ?_ ?_
     ·apply List.ext_getElem?
      intro j
      simp only[mput,hi,List.getElem?_map,Array.toList_modify,List.getElem?_modify]
      have:=congrArg (fun l=>l[j]?) hes
      simp only[List.getElem?_map]at this
      by_cases hj:i=j
      ·subst hj
       rw[he1,hy]
       simp
      ·simp[hj]
       simpa using this
     ·unfold Instr.mapUpdate
      simp only[Sem.run_bind,run_underlying' (P:=P) hd (by simp),Result.andThen_ok,get_map hg,run_checkKey hkt,run_findKey hkt hes,hi,Option.map_some,he1',Option.getD_some,he2,keyStays,set_map_run _ hg]
theorem capA_rep {φ:Inj} {H:Heap} {S:Addr→Prop} {x:AV} {t:T} {u:Value} (h:capA x=some t) (hx:RepA φ H w S x u):RepT φ.objs w S t u:=by
 unfold capA at h
 split at h
 ·cases h
 ·cases h
  cases hx with
  |t _ _ h=>exact h
 ·cases h
  cases hx with
  |bp l j b cs ho hb=>exact .ptr _ _ hb
 ·cases h
theorem capL_rep {φ : Inj} {H : Heap} {S : Addr → Prop} : ∀ {xs : List AV} {ts : List T} {us : List Value}, capL xs = some ts → us.length = xs.length → (∀ (j : Nat) (x : AV) (u : Value), xs[j]? = some x → us[j]? = some u → RepA φ H w S x u) →
  ts.length=xs.length∧∀(j:Nat) (t:T) (u:Value),ts[j]?=some t→us[j]?=some u→RepT φ.objs w S t u
 | [], ts, us, h, hl, hr => by
   cases h
   exact⟨rfl,fun j t u ht=>by simp at ht⟩
 | x :: r, ts, us, h, hl, hr => by
   unfold capL at h
   split at h
   ·rename_i t l h1 h2
    cases h
    match us,hl with
    | u :: us, hl =>
      obtain⟨g1,g2⟩:=capL_rep (us:=us) h2 (by simpa using hl) fun j x u hx hu=>hr (j+1) x u (by simpa using hx) (by simpa using hu)
      refine⟨by simp[g1],fun j t' u' ht hu=> ?_⟩
      cases j with
      | zero =>
        simp at ht hu
        subst ht;subst hu
        exact capA_rep h1 (hr 0 x u rfl rfl)
      |succ j=>exact g2 j t' u' (by simpa using ht) (by simpa using hu)
   ·cases h
theorem do_makeFunc {o:Oper} {g:FuncId} {first caps:Array Operand} {l:List T} (ho:o.op=.makeFunc (.func g) first caps) (hc:Conc κ n s a w) (hdst:∀d',o.dst=some d'→d'<n) (hf:first.size=0)
  (h:capL (caps.toList.map (evA s.f))=some l):Does P κ n a w o s {v:=.t (.fn g l)}:=by
 obtain⟨hde,hs,φ,S,M,hsl⟩:=hc
 obtain rfl:first= #[]:=Array.eq_empty_of_size_eq_zero hf
 obtain⟨g1,g2⟩:=capL_rep (us:=caps.toList.map a.eval) h (by simp) fun j x u hx hu=>by
  rw[List.getElem?_map,Option.map_eq_some_iff]at hx hu
  obtain⟨q,hq,rfl⟩:=hx
  obtain⟨q',hq',rfl⟩:=hu
  rw[hq]at hq'
  cases hq'
  exact evA_rep hsl q
 refine Does.of_pure (v:=.func (.func g) #[] (caps.map a.eval)) hde hs hdst M hsl ?_ (.t _ _ (.fn g l _ (by simp[g1]) fun j c v hj hv=>g2 j c v hj (by rw[←hv,List.getElem?_map];simp)))
 unfold execOp;rw[ho]
 simp[Instr.makeFunc]
end
end Go.Fm
