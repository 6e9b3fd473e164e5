import Derived.OrdersHeld
import Derived.KernelRfl
import Derived.Laws.Sem
import Derived.Laws.Cells
set_option linter.unusedVariables false
set_option linter.unusedSimpArgs false
open Nat renaming le_trans→Aaa,le_refl→Aac,lt_of_lt_of_le→Aad
open List renaming mem_of_getElem?→Aab
namespace Go.AM
theorem aR{p:Prop}[i:Decidable p](h:p):decide p=true:=decide_eq_true h
theorem aW{p:Prop}[i:Decidable p](h:¬p):decide p=false:=decide_eq_false h
inductive AV where
 | any
 | bool (b:Bool)
 | int (k:IntKind) (n:Int)
 | str (s:ByteArray)
 | nilp|nils|nilf
 | opq (v:Value)
 | lp (i off:Nat)
 | gp (b g off:Nat)
 | ip (β:Bool) (cs:List AV)
 | gs (b g off len cap sz:Nat) (ex:Bool)
 | vs (β:Bool) (sz:Nat) (ex:Bool) (xs:List (List AV))
 | fn (f:FuncId) (first caps:List AV)
 | agg (cs:List AV)
 | tup (vs:List AV)
 deriving Inhabited
inductive TK where
 | int (k:IntKind)|bool|str|ptr (e:TypeId)|slice (e:TypeId)|arr (n:Nat) (e:TypeId)
 | strct (fs:List (Nat×TypeId))|iface|fn|other
 deriving Inhabited,DecidableEq
structure TI where
 kd:TK
 size:Nat
 bytes:Nat
 zero:List AV
 plainEq:Option (List TK)
 deriving Inhabited
def TI.isAgg(t:TI):Bool:=match t.kd with|.strct _|.arr _ _=>true|_=>false
abbrev AH:=List (Option (Nat×List AV))
structure St where
 env:List AV
 loc:List (List AV)
 heap:AH
 deriving Inhabited
def cF(h:AH)(b:Nat):Option (Nat×List AV):=(h[b]?).bind id
theorem fC{h:AH}{b:Nat}{x:Nat×List AV}(e:cF h b=some x):h[b]? = some (some x):=by
 unfold cF at e;cases hb:h[b]? with
 | none=>simp[hb]at e
 | some y=>simp[hb]at e;rw[e]
theorem DE{h:AH}{b:Nat}{x:Nat×List AV}(e:h[b]? = some (some x)):cF h b=some x:=by simp[cF,e]
abbrev ub:=TypeId→Option TI
abbrev bG:=Nat→Option (List AV)
inductive X where
 | t (n:Nat)|c (v:AV)|g (n:Nat)
 deriving Inhabited
inductive EK where|num|bool|agg (ks:List TK)|nilp|nils|nilf|iface
 deriving Inhabited,DecidableEq
inductive SK where|str|sl (sz:Nat)|arr (n:Nat)
 deriving Inhabited,DecidableEq
inductive I where
 | mov (x:X)
 | pick (c a b:X)
 | alloc (z:List AV)
 | box (x:X)
 | build (z:List AV) (parts:List (Nat×Nat×X))
 | bsl (sz len:Nat) (z:List AV) (parts:List (Nat×X))
 | load (n:Nat) (agg:Bool) (a:X)
 | store (n:Nat) (a v:X)
 | nilchk (x:X)
 | bin (op:BinOp) (ek:EK) (x y:X)
 | un (op:UnOp) (x:X)
 | cvi (k:IntKind) (x:X)
 | cvs (x:X)
 | cvb (x:X)
 | cvt (x:X)
 | mkf (f:FuncId) (first caps:List X)
 | mks (sz bytes:Nat) (z:List AV) (l c:X)
 | slice (k:SK) (x:X) (lo hi mx:Option X)
 | fld (off:Nat) (x:X)
 | idxs (sz:Nat) (x i:X)
 | idxa (n sz:Nat) (x i:X)
 | idxstr (x i:X)
 | idxagg (n sz:Nat) (agg:Bool) (x i:X)
 | extr (x:X) (i:Nat)
 | len (str:Bool) (x:X)
 | lenc (n:Nat)
 | cap (x:X)
 | app (sz bytes:Nat) (z:List AV) (str:Bool) (x y:X)
 | appz (sz bytes:Nat) (z:List AV) (x n:X)
 | clr (sz:Nat) (z:List AV) (x:X)
 | copy (sz:Nat) (str:Bool) (x y:X)
 | mm (mx:Bool) (xs:List X)
 | call (f:X) (args:List X)
 | bad
 deriving Inhabited
structure O where
 dst:Option Nat
 gd:Option (Nat×Bool)
 op:I
 deriving Inhabited
inductive C where
 | skip
 | reg (os:List O)
 | regD (os:List O) (after:List (List Nat))
 | seq (a b:C)
 | cond (c:X) (thn els:C)
 | block (id:Nat) (body:C)
 | loop (body:C)
 | exit (id:Nat)
 | ret
 deriving Inhabited
def BK:Value→AV
 | .bool b=>.bool b
 | .int k n=>.int k n
 | .string s=>.str s
 | .pointer none=>.nilp
 | .slice none 0 0=>.nils
 | .nilFunc=>.nilf
 | v=>.opq v
def T5:Value→AV
 | .agg cs=>.agg (cs.toList.map BK)
 | v=>BK v
def lU:Operand→X
 | .tmp t=>.t t
 | .const v=>.c (T5 v)
 | .global g=>.g g
 | .func f=>.c (.fn f [] [])
def J9(ti:TI):Option EK:=
 match ti.kd with
 | .int _|.str=>some .num
 | .bool=>some .bool
 | .strct _=>ti.plainEq.map .agg
 | .ptr _=>some .nilp
 | .slice _=>some .nils
 | .fn=>some .nilf
 | .iface=>some .iface
 | _=>none
variable (Θ:ub)
def LN(t:TypeId):Option SK:=
 (Θ t).bind fun ti=>match ti.kd with
 | .str=>some .str
 | .slice e=>(Θ e).map fun ei=>.sl ei.size
 | .arr n e=>(Θ e).bind fun ei=>if ei.size=1 then some (.arr n)else none
 | _=>none
def elemOf(t:TypeId):Option TI:=
 (Θ t).bind fun ti=>match ti.kd with
 | .slice e=>Θ e
 | _=>none
def GK(c:Call):Option I:=
 match c.callee with
 | .value f=>some (.call (lU f) (c.args.toList.map lU))
 | .invoke _ _=>none
 | .builtin b=>
  match b,c.argTypes.toList,c.args.toList with
  | .len,[t],[x]=>(Θ t).bind fun ti=>match ti.kd with
   | .str=>some (.len true (lU x))
   | .slice _=>some (.len false (lU x))
   | .arr n _=>some (.lenc n)
   | _=>none
  | .cap,[t],[x]=>(Θ t).bind fun ti=>match ti.kd with
   | .slice _=>some (.cap (lU x))
   | _=>none
  | .append,[t,tx],[x,y]=>(elemOf Θ t).bind fun ei=>(Θ tx).bind fun yi=>match yi.kd with
   | .str=>some (.app ei.size ei.bytes ei.zero true (lU x) (lU y))
   | .slice _=>some (.app ei.size ei.bytes ei.zero false (lU x) (lU y))
   | .int _=>some (.appz ei.size ei.bytes ei.zero (lU x) (lU y))
   | _=>none
  | .clear,[t],[x]=>(elemOf Θ t).map fun ei=>.clr ei.size ei.zero (lU x)
  | .max,_,xs=>some (.mm true (xs.map lU))
  | .min,_,xs=>some (.mm false (xs.map lU))
  | _,_,_=>none
def Nl:Op→Option I
 | .move x|.assign x=>some (.mov (lU x))
 | .pick c a b=>some (.pick (lU c) (lU a) (lU b))
 | .alloc e=>(Θ e).map fun ti=>.alloc ti.zero
 | .box _ x=>some (.box (lU x))
 | .build t parts=>(Θ t).bind fun ti=>match ti.kd with
  | .strct fs=>if fs.all (fun f=>(Θ f.2).isSome)then (parts.toList.mapM fun(p:Nat×Operand)=>(fs[p.1]?).bind fun f=>(Θ f.2).map fun fi=>(f.1,fi.size,lU p.2)).map fun ps=>.build ti.zero ps else none
  | .arr _ e=>(Θ e).map fun ei=>.build ti.zero (parts.toList.map fun p=>(p.1*ei.size,ei.size,lU p.2))
  | _=>none
 | .buildSlice t len parts=>(elemOf Θ t).bind fun ei=>if len*ei.size≤16777216 then some (.bsl ei.size len ei.zero (parts.toList.map fun p=>(p.1,lU p.2)))else none
 | .load t a=>(Θ t).map fun ti=>.load ti.size ti.isAgg (lU a)
 | .store t a x=>(Θ t).map fun ti=>.store ti.size (lU a) (lU x)
 | .nilCheck x=>some (.nilchk (lU x))
 | .binOp op t x y _=>(Θ t).bind fun ti=>(J9 ti).bind fun k=>if k=.iface∧!(Region.isConst x || Region.isConst y)then none else some (.bin op k (lU x) (lU y))
 | .unOp op _ x=>some (.un op (lU x))
 | .convert src dst x=>(Θ src).bind fun a=>(Θ dst).bind fun b=>
  match a.kd,b.kd with
  | .int _,.int k=>some (.cvi k (lU x))
  | .str,.str=>some (.cvs (lU x))
  | .str,.slice e=>(Θ e).bind fun ei=>if ei.kd=.int .u8 then some (.cvb (lU x))else none
  | .slice e,.str=>(Θ e).bind fun ei=>if ei.kd=.int .u8 then some (.cvt (lU x))else none
  | _,_=>none
 | .makeFunc (.func f) first caps=>some (.mkf f (first.toList.map lU) (caps.toList.map lU))
 | .makeSlice t l c=>(elemOf Θ t).map fun ei=>.mks ei.size ei.bytes ei.zero (lU l) (lU c)
 | .slice t x lo hi mx=>(LN Θ t).map fun k=>.slice k (lU x) (lo.map lU) (hi.map lU) (mx.map lU)
 | .fieldAddr t x f=>(Θ t).bind fun ti=>match ti.kd with
  | .strct fs=>(fs[f]?).bind fun p=>(Θ p.2).bind fun fi=>if fi.size=0 then none else some (.fld p.1 (lU x))
  | _=>none
 | .indexAddr t x ix=>(Θ t).bind fun ti=>match ti.kd with
  | .slice e=>(Θ e).map fun ei=>.idxs ei.size (lU x) (lU ix)
  | .arr n e=>(Θ e).map fun ei=>.idxa n ei.size (lU x) (lU ix)
  | _=>none
 | .index t x ix=>(Θ t).bind fun ti=>match ti.kd with
  | .str=>some (.idxstr (lU x) (lU ix))
  | .arr n e=>(Θ e).map fun ei=>.idxagg n ei.size ei.isAgg (lU x) (lU ix)
  | _=>none
 | .extract x i=>some (.extr (lU x) i)
 | .call c=>GK Θ c
 | _=>none
def Tl(op:Op):Option I:=some ((Nl Θ op).getD .bad)
def JR(o:Oper):Option O:=(Tl Θ o.op).map fun i=>⟨o.dst,o.guard,i⟩
def sN:Code→Option C
 | .skip=>some .skip
 | .region _ ops false=>(ops.toList.mapM (JR Θ)).map .reg
 | .region _ ops true=>(ops.toList.mapM (JR Θ)).map fun l=>.regD l (ops.toList.map fun o=>o.after.toList.filterMap fun e=>if Region.binds .any e then some e.on else none)
 | .seq a b=>(sN a).bind fun x=>(sN b).map fun y=>.seq x y
 | .cond c a b=>(sN a).bind fun x=>(sN b).map fun y=>.cond (lU c) x y
 | .block id c=>(sN c).map fun x=>.block id x
 | .loop c=>(sN c).map .loop
 | .exit id=>some (.exit id)
 | .ret=>some .ret
 | _=>none
variable (Γ:bG)
def St.eval(s:St):X→AV
 | .t n=>s.env.getD n .any
 | .c v=>v
 | .g n=>match Γ n with|some cs=>.ip false cs|none=>.any
def St.put(s:St)(dst:Option Nat)(v:AV):St:=
 match dst with|some d=>{ s with env:=s.env.set d v } | none=>s
def cn:AV→Bool
 | .any|.agg _|.tup _=>false
 | .opq v=>v.oneCell'
 | _=>true
def mo:AV→Bool
 | .any|.lp _ _|.agg _|.tup _|.fn _ _ _=>false
 | .opq v=>v.oneCell'
 | _=>true
def bM:AV→Bool
 | .any|.lp _ _|.agg _|.tup _=>false
 | .fn _ first caps=>first.all mo && caps.all mo
 | .opq v=>v.oneCell'
 | _=>true
def cellsOf:AV→Option (List AV)
 | .agg cs=>some cs
 | .any|.tup _=>none
 | .opq v=>if v.oneCell'=true then some [.opq v]else none
 | v=>some [v]
inductive AR where
 | val (v:AV) (s:St)
 | call (f:FuncId) (args:List AV)
 | stuck
def sub(l:List AV)(off n:Nat):Option (List AV):=if off+n≤l.length then some ((l.drop off).take n)else none
def St.cells(s:St):AV→Nat→Option (List AV)
 | .lp i off,n=>(s.loc[i]?).bind fun l=>sub l off n
 | .gp b g off,n=>(cF s.heap b).bind fun e=>if e.1=g then sub e.2 off n else none
 | .ip _ cs,n=>sub cs 0 n
 | _,_=>none
def c8(l:List AV)(off:Nat)(cs:List AV):List AV:=l.take off++cs++l.drop (off+cs.length)
def St.store(s:St)(a:AV)(cs:List AV):Option St:=
 match a with
 | .lp i off=>(s.loc[i]?).bind fun l=>if off+cs.length≤l.length then (if cs.all cn then some { s with loc:=s.loc.set i (c8 l off cs) }else none)else none
 | .gp b g off=>(cF s.heap b).bind fun e=>
  if e.1=g then (if off+cs.length≤e.2.length then (if cs.all bM then some { s with heap:=s.heap.set b (some (e.1,c8 e.2 off cs)) }else none)else none)else none
 | _=>none
def nY(agg:Bool)(cs:List AV):Option AV:=
 match agg,cs with
 | true,cs=>some (.agg cs)
 | false,[x]=>some x
 | _,_=>none
def rH(off:Nat):AV→Option AV
 | .lp i o=>some (.lp i (o+off))
 | .gp b g o=>some (.gp b g (o+off))
 | .ip β cs=>some (.ip β (cs.drop off))
 | _=>none
def JC:AV→Option Int|.int _ n=>some n|_=>none
def fh(sz:Nat)(x:AV)(i:Int):Option AV:=
 match x with
 | .vs β sz' _ xs=>if sz=sz' then (if 0≤i then (xs[i.toNat]?).map fun l=>.ip β l else none)else none
 | .gs b g off len _ sz' _=>if sz=sz' then (if 0≤i∧i<len then some (.gp b g (off+i.toNat*sz))else none)else none
 | _=>none
def LU(n sz:Nat)(x:AV)(i:Int):Option AV:=
 if 0≤i∧i<n then rH (i.toNat*sz) x else none
def xy:TK→AV→AV→Option Bool
 | .int _,.int k a,.int k' b=>if k=k' then some (a == b)else none
 | .bool,.bool a,.bool b=>some (a == b)
 | .str,.str a,.str b=>some (a.toList == b.toList)
 | _,_,_=>none
def uO:List TK→List AV→List AV→Option Bool
 | [],[],[]=>some true
 | t::ts,x::xs,y::ys=>(xy t x y).bind fun a=>(uO ts xs ys).map fun b=>a && b
 | _,_,_=>none
def isNil:AV→Option Bool
 | .nilp|.nils|.nilf=>some true
 | .lp _ _|.gp _ _ _|.ip _ _|.gs _ _ _ _ _ _ _|.fn _ _ _=>some false
 | _=>none
def Ez:AV→AV→Option Bool
 | .nilp,.nilp=>some true
 | .nilp,.lp _ _|.nilp,.gp _ _ _|.nilp,.ip _ _=>some false
 | .lp _ _,.nilp|.gp _ _ _,.nilp|.ip _ _,.nilp=>some false
 | _,_=>none
def DO:AV→AV→Option Bool
 | .nils,.nils=>some true
 | .nils,.gs _ _ _ _ _ _ _|.nils,.vs _ _ _ (_::_)|.nils,.opq (.slice (some _) _ _)=>some false
 | .gs _ _ _ _ _ _ _,.nils|.vs _ _ _ (_::_),.nils|.opq (.slice (some _) _ _),.nils=>some false
 | _,_=>none
def EH:AV→AV→Option Bool
 | .nilf,.nilf=>some true
 | .nilf,.fn _ _ _=>some false
 | .fn _ _ _,.nilf=>some false
 | _,_=>none
def sY(ek:EK)(x y:AV):Option Bool:=
 match ek with
 | .bool=>(match x,y with|.bool a,.bool b=>some (a == b)|_,_=>none)
 | .agg ks=>match x,y with|.agg xs,.agg ys=>uO ks xs ys|_,_=>none
 | .num=>none
 | .nilp=>Ez x y
 | .nils=>DO x y
 | .nilf=>EH x y
 | .iface=>match x,y with
  | .opq .nilIface,.opq .nilIface=>some true
  | .opq .nilIface,.opq (.iface _ _)=>some false
  | .opq (.iface _ _),.opq .nilIface=>some false
  | _,_=>none
def lF(op:BinOp)(k:IntKind)(a b:Int):Option AV:=
 match op with
 | .add=>some (.int k (k.wrap (a+b)))
 | .sub=>some (.int k (k.wrap (a-b)))
 | .mul=>some (.int k (k.wrap (a*b)))
 | .quo=>if b=0 then none else some (.int k (k.wrap (a.tdiv b)))
 | .rem=>if b=0 then none else some (.int k (a.tmod b))
 | .and=>some (.int k (k.wrap (BitVec.ofInt k.bits a &&& BitVec.ofInt k.bits b).toNat))
 | .or=>some (.int k (k.wrap (BitVec.ofInt k.bits a ||| BitVec.ofInt k.bits b).toNat))
 | .xor=>some (.int k (k.wrap (BitVec.ofInt k.bits a ^^^ BitVec.ofInt k.bits b).toNat))
 | .andNot=>some (.int k (k.wrap (BitVec.ofInt k.bits a &&& ~~~(BitVec.ofInt k.bits b)).toNat))
 | .eql=>some (.bool (a == b))
 | .neq=>some (.bool (a != b))
 | .lss=>some (.bool (decide (a<b)))
 | .leq=>some (.bool (decide (a≤b)))
 | .gtr=>some (.bool (decide (a>b)))
 | .geq=>some (.bool (decide (a≥b)))
 | _=>none
def fg(op:BinOp)(ek:EK)(x y:AV):Option AV:=
 match x,y with
 | .int k a,.int k' b=>
  match op with
  | .shl=>if 0≤b then some (.int k (k.wrap (a*2 ^ (min b.toNat k.bits))))else none
  | .shr=>if 0≤b then some (.int k (a.fdiv (2 ^ (min b.toNat k.bits))))else none
  | op=>if k=k' then lF op k a b else none
 | .str a,.str b=>
  match op with
  | .add=>if ((a.size+b.size:Nat):Int)>IntKind.i64.max then none else some (.str (a++b))
  | .eql=>some (.bool (a.toList == b.toList))
  | .neq=>some (.bool !(a.toList == b.toList))
  | _=>none
 | x,y=>
  match op with
  | .eql=>(sY ek x y).map .bool
  | .neq=>(sY ek x y).map fun b=>.bool !b
  | _=>none
def Zn(op:UnOp)(x:AV):Option AV:=
 match op,x with
 | .not,.bool b=>some (.bool !b)
 | .neg,.int k n=>some (.int k (k.wrap (0-n)))
 | _,_=>none
def j7(s:ByteArray):List AV:=s.data.toList.map fun b=>.int .u8 b.toNat
def jx:List AV→Option (List UInt8)
 | []=>some []
 | .int .u8 n::r=>(jx r).map fun l=>UInt8.ofNat n.toNat::l
 | _=>none
def St.b6(s:St)(sz:Nat):AV→Option (List AV)
 | .nils=>some []
 | .vs _ sz' _ xs=>if sz=sz' then some xs.flatten else none
 | .opq (.slice (some _) 0 _)=>some []
 | .gs b g off len _ sz' _=>if sz=sz' then (cF s.heap b).bind fun e=>if e.1=g then sub e.2 off (len*sz)else none else none
 | _=>none
def lenOf:AV→Option Nat
 | .nils=>some 0
 | .opq (.slice (some _) 0 _)=>some 0
 | .vs _ _ _ xs=>some xs.length
 | .gs _ _ _ len _ _ _=>some len
 | .str s=>some s.size
 | _=>none
def AF:Bool→AV→Option Nat
 | true,.str s=>some s.size
 | false,.nils=>some 0
 | false,.opq (.slice (some _) 0 _)=>some 0
 | false,.vs _ _ _ xs=>some xs.length
 | false,.gs _ _ _ len _ _ _=>some len
 | _,_=>none
def aU:Nat:=1099511627776
def St.push(s:St)(cs:List AV):St:={ s with heap:=s.heap++[some (0,cs)] }
def Jo(s:St)(sz bytes:Nat)(z:List AV)(ln cp:Int):Option (AV×St):=
 if ln=cp∧0≤ln∧ln.toNat*(bytes+sz+1)≤aU then
  (if z.all bM then some (.gs s.heap.length 0 0 ln.toNat ln.toNat sz true,s.push (List.replicate ln.toNat z).flatten)else none)
 else none
def Gj(s:St)(sz bytes:Nat)(z:List AV)(n:Int):Option (AV×St):=
 if 0<n∧0<sz∧n.toNat*(sz+bytes)≤aU then
  (if z.all bM then some (.gs s.heap.length 0 0 n.toNat n.toNat sz false,s.push (List.replicate n.toNat z).flatten)else none)
 else none
def mg(cells:List AV):List (Nat×Nat×AV)→Option (List AV)
 | []=>some cells
 | (off,size,v)::rest=>
  match cellsOf v with
  | some cs=>if cs.length=size then (if off+cs.length≤cells.length then mg (c8 cells off cs) rest else none)else none
  | none=>none
def AG(s:St)(d:Nat):Option X→Option Nat
 | none=>some d
 | some v=>(JC (s.eval Γ v)).bind fun i=>if 0≤i then some i.toNat else none
def pO(k:SK)(x:AV)(l:Nat)(h:Option Nat)(m:Option Nat):Option AV:=
 if h.isNone && m.isSome then none else
 match k,x with
 | .str,.str s=>if m.isNone then (if l≤h.getD s.size∧h.getD s.size≤s.size then some (.str (s.extract l (h.getD s.size)))else none)else none
 | .sl _,.nils=>if l=0∧h.getD 0=0∧m.getD 0=0 then some .nils else none
 | .sl sz,.vs β sz' ex xs=>
  if sz=sz' then (if l≤h.getD xs.length∧h.getD xs.length≤xs.length then
   match m with
   | none=>some (.vs β sz (ex && h.getD xs.length == xs.length) ((xs.take (h.getD xs.length)).drop l))
   | some m=>if m=h.getD xs.length then some (.vs β sz true ((xs.take (h.getD xs.length)).drop l))else none
  else none)else none
 | .sl sz,.gs b g off len cap sz' ex=>
  if sz=sz' then (if l≤h.getD len∧h.getD len≤m.getD cap∧m.getD cap≤cap then some (.gs b g (off+l*sz) (h.getD len-l) (m.getD cap-l) sz (ex || m.isSome))else none)else none
 | .arr n,.ip β cs=>if l=0∧h.isNone∧m.isNone∧cs.length=n∧0<n then some (.vs β 1 true (cs.map fun c=>[c]))else none
 | _,_=>none
def sS(s:St)(sz bytes:Nat)(x:AV)(ys:List AV)(n m:Nat):Option (AV×St):=
 if sz=0 then none else if (m+n)*(sz+bytes)>aU then none else
 match x with
 | .nils=>if n=0 then some (.nils,s)else if ys.all bM then some (.gs s.heap.length 0 0 n n sz false,s.push ys)else none
 | .vs β sz' ex xs=>
  if n=0 then some (.vs β sz' ex xs,s)
  else if ex then (if sz=sz' then (if ys.all bM then (if xs.flatten.all bM then some (.gs s.heap.length 0 0 (m+n) (m+n) sz false,s.push (xs.flatten++ys))else none)else none)else none)
  else none
 | .gs b g off len cap sz' ex=>
  (cF s.heap b).bind fun e=>
  if e.1=g then (if sz=sz' then (if ys.all bM then
   (if len+n≤cap then
    (if off+(len+n)*sz≤e.2.length then some (.gs b g off (len+n) cap sz ex,{ s with heap:=s.heap.set b (some (g,c8 e.2 (off+len*sz) ys)) })else none)
   else (sub e.2 off (len*sz)).map fun xs=>
    (.gs b (g+1) 0 (len+n) (len+n) sz false,{ s with heap:=s.heap.set b (some (g+1,xs++ys)) }))
   else none)else none)else none
 | _=>none
def Cx(s:St)(sz:Nat)(z:List AV)(x:AV):Option St:=
 match x with
 | .nils=>some s
 | .gs b g off len _ sz' _=>if len=0 then some s else if sz=sz' then s.store (.gp b g off) (List.replicate len z).flatten else none
 | .vs _ _ _ []=>some s
 | _=>none
def Iv(s:St)(sz:Nat)(x:AV)(ys:List AV)(n:Nat):Option (AV×St):=
 match x with
 | .nils=>some (.int .i64 0,s)
 | .gs b g off len _ sz' _=>if sz=sz' then (s.store (.gp b g off) (ys.take (min n len*sz))).map fun s'=>(.int .i64 ((min n len:Nat):Int),s')else none
 | _=>none
def aMM(mx:Bool):List AV→Option AV
 | [.int k a,.int k' c]=>if k=k' then some (.int k (if mx=true then (if c>a then c else a)else (if c<a then c else a)))else none
 | _=>none
def AR.nD(s:St):Option AV→AR|some v=>.val v s|none=>.stuck
def AR.G5:Option St→AR|some s=>.val (.tup []) s|none=>.stuck
def AR.JA:Option (AV×St)→AR|some p=>.val p.1 p.2|none=>.stuck
def iU(s:St)(sz:Nat)(str:Bool)(y:AV):Option (List AV):=
 match str,y with
 | true,.str v=>if sz=1 then some (j7 v)else none
 | false,y=>s.b6 sz y
 | _,_=>none
def step(gl:Bool)(s:St):I→AR
 | .mov x=>.val (s.eval Γ x) s
 | .pick c a b=>match s.eval Γ c with|.bool t=>.val (if t=true then s.eval Γ a else s.eval Γ b) s|_=>.stuck
 | .alloc z=>if gl=true then (if z.all bM then .val (.gp s.heap.length 0 0) (s.push z)else .stuck)
  else .val (.lp s.loc.length 0) { s with loc:=s.loc++[z] }
 | .box x=>match cellsOf (s.eval Γ x)with
  | some cs=>if gl=true then (if cs.all bM then .val (.gp s.heap.length 0 0) (s.push cs)else .stuck)
   else .val (.lp s.loc.length 0) { s with loc:=s.loc++[cs] }
  | none=>.stuck
 | .build z ps=>.nD s ((mg z (ps.map fun p=>(p.1,p.2.1,s.eval Γ p.2.2))).map .agg)
 | .bsl sz len z ps=>match mg (List.replicate len z).flatten (ps.map fun p=>(p.1*sz,sz,s.eval Γ p.2))with
  | some cs=>if cs.all bM then .val (.gs s.heap.length 0 0 len len sz true) (s.push cs)else .stuck
  | none=>.stuck
 | .load n agg a=>.nD s ((s.cells (s.eval Γ a) n).bind (nY agg))
 | .store n a v=>match cellsOf (s.eval Γ v)with
  | some cs=>if cs.length=n then .G5 (s.store (s.eval Γ a) cs)else .stuck
  | none=>.stuck
 | .nilchk x=>match isNil (s.eval Γ x)with|some false=>.val (s.eval Γ x) s|_=>.stuck
 | .bin op ek x y=>.nD s (fg op ek (s.eval Γ x) (s.eval Γ y))
 | .un op x=>.nD s (Zn op (s.eval Γ x))
 | .cvi k x=>match s.eval Γ x with|.int _ n=>.val (.int k (k.wrap n)) s|_=>.stuck
 | .cvs x=>match s.eval Γ x with|.str v=>.val (.str v) s|_=>.stuck
 | .cvb x=>match s.eval Γ x with
  | .str v=>if v.size≤aU then .val (.gs s.heap.length 0 0 v.size v.size 1 false) (s.push (j7 v))else .stuck
  | _=>.stuck
 | .cvt x=>.nD s (((s.b6 1 (s.eval Γ x)).bind jx).map fun l=>.str ⟨l.toArray⟩)
 | .mkf f first caps=>.val (.fn f (first.map (s.eval Γ)) (caps.map (s.eval Γ))) s
 | .mks sz bytes z l c=>match s.eval Γ l,s.eval Γ c with
  | .int _ ln,.int _ cp=>.JA (Jo s sz bytes z ln cp)
  | _,_=>.stuck
 | .slice k x lo hi mx=>match AG Γ s 0 lo,(match hi with|none=>some none|some h=>(AG Γ s 0 (some h)).map some),(match mx with|none=>some none|some m=>(AG Γ s 0 (some m)).map some)with
  | some l,some h,some m=>.nD s (pO k (s.eval Γ x) l h m)
  | _,_,_=>.stuck
 | .fld off x=>.nD s (rH off (s.eval Γ x))
 | .idxs sz x i=>match s.eval Γ i with|.int _ n=>.nD s (fh sz (s.eval Γ x) n)|_=>.stuck
 | .idxa n sz x i=>match s.eval Γ i with|.int _ k=>.nD s (LU n sz (s.eval Γ x) k)|_=>.stuck
 | .idxstr x i=>match s.eval Γ x,s.eval Γ i with
  | .str v,.int _ n=>.nD s (if 0≤n then (v[n.toNat]?).map fun b=>.int .u8 b.toNat else none)
  | _,_=>.stuck
 | .idxagg n sz agg x i=>match s.eval Γ x,s.eval Γ i with
  | .agg cs,.int _ k=>.nD s (if 0≤k∧k<n then (sub cs (k.toNat*sz) sz).bind (nY agg)else none)
  | _,_=>.stuck
 | .extr x i=>match s.eval Γ x with|.tup vs=>.nD s vs[i]? | _=>.stuck
 | .len str x=>.nD s ((AF str (s.eval Γ x)).map fun n=>.int .i64 n)
 | .lenc n=>.val (.int .i64 n) s
 | .cap x=>match s.eval Γ x with
  | .nils=>.val (.int .i64 0) s
  | .gs _ _ _ _ cap _ true=>.val (.int .i64 cap) s
  | _=>.stuck
 | .app sz bytes _ str x y=>match iU s sz str (s.eval Γ y),lenOf (s.eval Γ y),lenOf (s.eval Γ x)with
  | some ys,some n,some m=>.JA (sS s sz bytes (s.eval Γ x) ys n m)
  | _,_,_=>.stuck
 | .appz sz bytes z x n=>match s.eval Γ x,s.eval Γ n with
  | .nils,.int _ k=>.JA (Gj s sz bytes z k)
  | _,_=>.stuck
 | .clr sz z x=>.G5 (Cx s sz z (s.eval Γ x))
 | .copy sz str x y=>match iU s sz str (s.eval Γ y),lenOf (s.eval Γ y)with
  | some ys,some n=>.JA (Iv s sz (s.eval Γ x) ys n)
  | _,_=>.stuck
 | .mm mx xs=>.nD s (aMM mx (xs.map (s.eval Γ)))
 | .call f args=>match s.eval Γ f with
  | .fn g first caps=>.call g (first++args.map (s.eval Γ)++caps)
  | _=>.stuck
 | .bad=>.stuck
def guardOf(os:List O)(s:St):Option (Nat×Bool)→Option Bool
 | none=>some true
 | some (j,want)=>
  match (os[j]?).bind (·.dst)with
  | none=>some false
  | some d=>
   match s.env[d]? with
   | some (.bool b)=>some (b == want)
   | some .any|some (.opq _)=>none
   | _=>some false
inductive AE where
 | normal|exit (id:Nat)|ret
def br(t:Bool)(A B:Prop):Prop:=(t=true→A)∧(t=false→B)
theorem Eb(A B:Prop):br true A B↔A:=by simp[br]
theorem Ff(A B:Prop):br false A B↔B:=by simp[br]
end Go.AM
namespace Go.AM
structure j9 where
 m:Nat→Nat→Option (Nat×Nat×Nat)
 imm:Bool→Nat→Option (Array Value)
inductive RV (ρ:j9):List Nat→AV→Value→Prop
 | any (ls:List Nat) (v:Value):RV ρ ls .any v
 | bool (ls:List Nat) (b:Bool):RV ρ ls (.bool b) (.bool b)
 | int (ls:List Nat) (k:IntKind) (n:Int):RV ρ ls (.int k n) (.int k n)
 | str (ls:List Nat) (s:ByteArray):RV ρ ls (.str s) (.string s)
 | nilp (ls:List Nat):RV ρ ls .nilp (.pointer none)
 | nils (ls:List Nat):RV ρ ls .nils (.slice none 0 0)
 | nilf (ls:List Nat):RV ρ ls .nilf .nilFunc
 | opq (ls:List Nat) (v:Value):RV ρ ls (.opq v) v
 | lp (ls:List Nat) (i off c:Nat) (h:ls[i]? = some c):RV ρ ls (.lp i off) (.pointer (some ⟨c,off,none⟩))
 | gp (ls:List Nat) (b g off c o n:Nat) (h:ρ.m b g=some (c,o,n)):RV ρ ls (.gp b g off) (.pointer (some ⟨c,o+off,none⟩))
 | ip (ls:List Nat) (β:Bool) (cs:List AV) (c o:Nat) (f:Nat→Value)
  (h:∀(j:Nat) (x:AV),cs[j]? = some x→∃arr,ρ.imm β c=some arr∧arr[o+j]? = some (f j))
  (r:∀(j:Nat) (x:AV),cs[j]? = some x→RV ρ [] x (f j)):RV ρ ls (.ip β cs) (.pointer (some ⟨c,o,none⟩))
 | gs (ls:List Nat) (b g off len cap sz:Nat) (ex:Bool) (c o n cap':Nat) (h:ρ.m b g=some (c,o,n)) (h1:len≤cap) (h2:cap≤cap')
  (h3:ex=true→cap'=cap) (h4:o+off+cap'*sz≤n):RV ρ ls (.gs b g off len cap sz ex) (.slice (some ⟨c,o+off,none⟩) len cap')
 | gs0 (ls:List Nat) (b g off sz:Nat) (ex:Bool) (c o n:Nat) (a:Addr) (h:ρ.m b g=some (c,o,n)):RV ρ ls (.gs b g off 0 0 sz ex) (.slice (some a) 0 0)
 | vs (ls:List Nat) (β:Bool) (sz:Nat) (ex:Bool) (xs:List (List AV)) (c o cap':Nat) (f:Nat→Nat→Value) (h1:xs.length≤cap')
  (h2:ex=true→cap'=xs.length)
  (h3:∀(i:Nat) (l:List AV),xs[i]? = some l→l.length=sz)
  (h4:∀(i:Nat) (l:List AV),xs[i]? = some l→∀(j:Nat) (x:AV),l[j]? = some x→∃arr,ρ.imm β c=some arr∧arr[o+(i*sz+j)]? = some (f i j))
  (r:∀(i:Nat) (l:List AV),xs[i]? = some l→∀(j:Nat) (x:AV),l[j]? = some x→RV ρ [] x (f i j)):
  RV ρ ls (.vs β sz ex xs) (.slice (some ⟨c,o,none⟩) xs.length cap')
 | vs0 (ls:List Nat) (β:Bool) (sz:Nat) (ex:Bool) (a:Addr) (cap':Nat) (h2:ex=true→cap'=0):RV ρ ls (.vs β sz ex []) (.slice (some a) 0 cap')
 | vsn (ls:List Nat) (β:Bool) (sz:Nat) (ex:Bool):RV ρ ls (.vs β sz ex []) (.slice none 0 0)
 | fn (ls:List Nat) (f:FuncId) (first caps:List AV) (first' caps':Array Value) (h1:first.length=first'.size) (h2:caps.length=caps'.size)
  (r1:∀(i:Nat) (x:AV),first[i]? = some x→RV ρ ls x (first'.getD i default))
  (r2:∀(i:Nat) (x:AV),caps[i]? = some x→RV ρ ls x (caps'.getD i default)):RV ρ ls (.fn f first caps) (.func (.func f) first' caps')
 | agg (ls:List Nat) (cs:List AV) (vs:Array Value) (h1:cs.length=vs.size)
  (r:∀(i:Nat) (x:AV),cs[i]? = some x→RV ρ ls x (vs.getD i default)):RV ρ ls (.agg cs) (.agg vs)
 | tup (ls:List Nat) (cs:List AV) (vs:Array Value) (h1:cs.length=vs.size)
  (r:∀(i:Nat) (x:AV),cs[i]? = some x→RV ρ ls x (vs.getD i default)):RV ρ ls (.tup cs) (.tuple vs)
def kX(ρ:j9)(ls:List Nat)(cs:List AV)(vs:List Value):Prop:=
 cs.length=vs.length∧∀(i:Nat) (x:AV),cs[i]? = some x→RV ρ ls x (vs.getD i default)
structure j9.le (ρ ρ':j9):Prop where
 m:∀b g x,ρ.m b g=some x→ρ'.m b g=some x
 imm:∀β c x,ρ.imm β c=some x→ρ'.imm β c=some x
theorem j9.le.refl(ρ:j9):ρ.le ρ:=⟨fun _ _ _ h=>h,fun _ _ _ h=>h⟩
theorem j9.le.trans{ρ ρ' ρ'':j9}(h:ρ.le ρ')(h':ρ'.le ρ''):ρ.le ρ'':=⟨fun _ _ _ e=>h'.m _ _ _ (h.m _ _ _ e),fun _ _ _ e=>h'.imm _ _ _ (h.imm _ _ _ e)⟩
def Ext(ls ls':List Nat):Prop:=∀(i c:Nat),ls[i]? = some c→ls'[i]? = some c
theorem Ext.refl(ls:List Nat):Ext ls ls:=fun _ _ h=>h
theorem Ext.nil(ls:List Nat):Ext [] ls:=fun _ _ h=>by simp at h
theorem Ext.trans{a b c:List Nat}(h:Ext a b)(h':Ext b c):Ext a c:=fun i x e=>h' i x (h i x e)
theorem Ext.snoc(ls:List Nat)(c:Nat):Ext ls (ls++[c]):=fun i x h=>by
 rw[List.getElem?_append_left (by
  rcases Nat.lt_or_ge i ls.length with h'|h'
  ·exact h'
  ·simp[List.getElem?_eq_none h']at h)]
 exact h
theorem RV.mono{ρ ρ':j9}(hρ:ρ.le ρ'){ls:List Nat}{x:AV}{v:Value}(h:RV ρ ls x v):∀{ls':List Nat},Ext ls ls'→RV ρ' ls' x v:=by
 induction h with
 | any=>exact fun _=>.any _ _
 | bool=>exact fun _=>.bool _ _
 | int=>exact fun _=>.int _ _ _
 | str=>exact fun _=>.str _ _
 | nilp=>exact fun _=>.nilp _
 | nils=>exact fun _=>.nils _
 | nilf=>exact fun _=>.nilf _
 | opq=>exact fun _=>.opq _ _
 | lp ls i off c h=>exact fun hl=>.lp _ i off c (hl i c h)
 | gp ls b g off c o n h=>exact fun _=>.gp _ b g off c o n (hρ.m _ _ _ h)
 | ip ls β cs c o f h r ih=>exact fun _=>.ip _ β cs c o f (fun j x hx=>let ⟨arr,h1,h2⟩:=h j x hx;⟨arr,hρ.imm _ _ _ h1,h2⟩) (fun j x hx=>ih j x hx (Ext.refl _))
 | gs ls b g off len cap sz ex c o n cap' h h1 h2 h3 h4=>exact fun _=>.gs _ b g off len cap sz ex c o n cap' (hρ.m _ _ _ h) h1 h2 h3 h4
 | gs0 ls b g off sz ex c o n a h=>exact fun _=>.gs0 _ b g off sz ex c o n a (hρ.m _ _ _ h)
 | vs ls β sz ex xs c o cap' f h1 h2 h3 h4 r ih=>
  exact fun _=>.vs _ β sz ex xs c o cap' f h1 h2 h3 (fun i l hi j x hx=>let ⟨arr,e1,e2⟩:=h4 i l hi j x hx;⟨arr,hρ.imm _ _ _ e1,e2⟩)
   (fun i l hi j x hx=>ih i l hi j x hx (Ext.refl _))
 | vs0 ls β sz ex a cap' h2=>exact fun _=>.vs0 _ β sz ex a cap' h2
 | vsn ls β sz ex=>exact fun _=>.vsn _ β sz ex
 | fn ls f first caps first' caps' h1 h2 r1 r2 ih1 ih2=>exact fun hl=>.fn _ f first caps first' caps' h1 h2 (fun i x hx=>ih1 i x hx hl) (fun i x hx=>ih2 i x hx hl)
 | agg ls cs vs h1 r ih=>exact fun hl=>.agg _ cs vs h1 (fun i x hx=>ih i x hx hl)
 | tup ls cs vs h1 r ih=>exact fun hl=>.tup _ cs vs h1 (fun i x hx=>ih i x hx hl)
theorem RV.mo{ρ:j9}{ls:List Nat}{x:AV}{v:Value}(h:RV ρ ls x v)(hx:Go.AM.mo x=true)(ls':List Nat):RV ρ ls' x v:=by
 cases h with
 | any=>simp[Go.AM.mo]at hx
 | bool=>exact .bool _ _
 | int=>exact .int _ _ _
 | str=>exact .str _ _
 | nilp=>exact .nilp _
 | nils=>exact .nils _
 | nilf=>exact .nilf _
 | opq=>exact .opq _ _
 | lp=>simp[Go.AM.mo]at hx
 | gp=>exact .gp _ _ _ _ _ _ _ (by assumption)
 | ip _ β cs c o f h r=>exact .ip _ β cs c o f h r
 | gs _ b g off len cap sz ex c o n cap' h h1 h2 h3 h4=>exact .gs _ b g off len cap sz ex c o n cap' h h1 h2 h3 h4
 | gs0 _ b g off sz ex c o n a h=>exact .gs0 _ b g off sz ex c o n a h
 | vs _ β sz ex xs c o cap' f h1 h2 h3 h4 r=>exact .vs _ β sz ex xs c o cap' f h1 h2 h3 h4 r
 | vs0 _ β sz ex a cap' h2=>exact .vs0 _ β sz ex a cap' h2
 | vsn _ β sz ex=>exact .vsn _ β sz ex
 | fn=>simp[Go.AM.mo]at hx
 | agg=>simp[Go.AM.mo]at hx
 | tup=>simp[Go.AM.mo]at hx
theorem RV.bM{ρ:j9}{ls:List Nat}{x:AV}{v:Value}(h:RV ρ ls x v)(hx:Go.AM.bM x=true)(ls':List Nat):RV ρ ls' x v:=by
 cases h with
 | any=>simp[Go.AM.bM]at hx
 | bool=>exact .bool _ _
 | int=>exact .int _ _ _
 | str=>exact .str _ _
 | nilp=>exact .nilp _
 | nils=>exact .nils _
 | nilf=>exact .nilf _
 | opq=>exact .opq _ _
 | lp=>simp[Go.AM.bM]at hx
 | gp=>exact .gp _ _ _ _ _ _ _ (by assumption)
 | ip _ β cs c o f h r=>exact .ip _ β cs c o f h r
 | gs _ b g off len cap sz ex c o n cap' h h1 h2 h3 h4=>exact .gs _ b g off len cap sz ex c o n cap' h h1 h2 h3 h4
 | gs0 _ b g off sz ex c o n a h=>exact .gs0 _ b g off sz ex c o n a h
 | vs _ β sz ex xs c o cap' f h1 h2 h3 h4 r=>exact .vs _ β sz ex xs c o cap' f h1 h2 h3 h4 r
 | vs0 _ β sz ex a cap' h2=>exact .vs0 _ β sz ex a cap' h2
 | vsn _ β sz ex=>exact .vsn _ β sz ex
 | fn _ f first caps first' caps' h1 h2 r1 r2=>
  simp only[Go.AM.bM,Bool.and_eq_true,List.all_eq_true]at hx;exact .fn _ f first caps first' caps' h1 h2 (fun i x h=>(r1 i x h).mo (hx.1 x (Aab h)) ls') (fun i x h=>(r2 i x h).mo (hx.2 x (Aab h)) ls')
 | agg=>simp[Go.AM.bM]at hx
 | tup=>simp[Go.AM.bM]at hx
theorem RV.yB{ρ:j9}{ls:List Nat}{x:AV}{v:Value}(h:RV ρ ls x v)(hx:cn x=true):v.oneCell'=true:=by
 cases h<;>first|rfl|(simp[cn]at hx;done)|(simpa[cn]using hx)
theorem pa{x:AV}(h:bM x=true):cn x=true:=by
 cases x<;>simp_all [bM,cn]
def kH(arr:Array Value)(fr:Nat×Nat):Prop:=fr.2≤fr.1∨arr.size≤fr.1
def pr(ρ:j9)(ls:List Nat)(arr:Array Value)(o:Nat)(cs:List AV):Prop:=
 ∀(i:Nat) (x:AV),cs[i]? = some x→∃y,arr[o+i]? = some y∧RV ρ ls x y
structure RH (ρ:j9) (ls:List Nat) (L:List (List AV)) (h:AH) (w:World):Prop where
 hp:∀(b g:Nat) (cs:List AV),h[b]? = some (some (g,cs))→∃c o n arr T fr,ρ.m b g=some (c,o,n)∧w.heap[c]? = some (Obj.cells arr T fr)∧arr.size=n∧kH arr fr∧o+cs.length≤n∧pr ρ [] arr o cs
 lp:∀(i:Nat) (cs:List AV),L[i]? = some cs→∃c arr T fr,ls[i]? = some c∧w.heap[c]? = some (Obj.cells arr T fr)∧kH arr fr∧arr.size=cs.length∧pr ρ ls arr 0 cs
 len:ls.length=L.length
 nod:∀(i j c:Nat),ls[i]? = some c→ls[j]? = some c→i=j
 hh:∀(b g:Nat) (cs:List AV) (b' g':Nat) (cs':List AV) (c o n o' n':Nat),h[b]? = some (some (g,cs))→h[b']? = some (some (g',cs'))→ρ.m b g=some (c,o,n)→ρ.m b' g'=some (c,o',n')→b=b'
 hl:∀(b g:Nat) (cs:List AV) (c o n i:Nat),h[b]? = some (some (g,cs))→ρ.m b g=some (c,o,n)→ls[i]?≠some c
 im:∀β c arr,ρ.imm β c=some arr→∃T fr,w.heap[c]? = some (Obj.cells arr T fr)
 iml:∀(β:Bool) (c:Nat) (arr:Array Value) (i:Nat),ρ.imm β c=some arr→ls[i]?≠some c
 imh:∀(β:Bool) (c:Nat) (arr:Array Value) (b g:Nat) (cs:List AV) (o n:Nat),ρ.imm β c=some arr→h[b]? = some (some (g,cs))→ρ.m b g≠some (c,o,n)
 dom:∀(b g c o n:Nat),ρ.m b g=some (c,o,n)→c<w.heap.size∧b<h.length∧∀g' cs,h[b]? = some (some (g',cs))→g≤g'
def E9(ρ:j9)(ls:List Nat)(h:AH)(c:Nat):Prop:=(∃i:Nat,ls[i]? = some c)∨∃(b g:Nat) (cs:List AV) (o n:Nat),h[b]? = some (some (g,cs))∧ρ.m b g=some (c,o,n)
structure ua (ρ:j9) (ls:List Nat) (h:AH) (w:World) (ρ':j9) (ls':List Nat) (h':AH) (w':World):Prop where
 le:ρ.le ρ'
 ext:Ext ls ls'
 sz:w.heap.size≤w'.heap.size
 fr:∀c,c<w.heap.size→¬E9 ρ ls h c→w'.heap[c]? = w.heap[c]?
 own:∀(b g:Nat) (cs:List AV) (c o n:Nat),h'[b]? = some (some (g,cs))→ρ'.m b g=some (c,o,n)→
  w.heap.size≤c∨∃(g₀:Nat) (cs₀:List AV) (o₀ n₀:Nat),h[b]? = some (some (g₀,cs₀))∧ρ.m b g₀=some (c,o₀,n₀)
 ownl:∀(i c:Nat),ls'[i]? = some c→w.heap.size≤c∨ls[i]? = some c
 imo:∀β c arr,c<w.heap.size→ρ'.imm β c=some arr→ρ.imm β c=some arr
 len:h.length≤h'.length
 os:w'.os=w.os
 out:w'.output=w.output
theorem ua.E9{ρ ls h w ρ' ls' h' w'}(e:ua ρ ls h w ρ' ls' h' w'){c:Nat}(hc:c<w.heap.size)(t:Go.AM.E9 ρ' ls' h' c):Go.AM.E9 ρ ls h c:=by
 rcases t with⟨i,t⟩|⟨b,g,cs,o,n,t1,t2⟩
 ·rcases e.ownl i c t with h1|h1
  ·omega
  ·exact .inl ⟨i,h1⟩
 ·rcases e.own b g cs c o n t1 t2 with h1|⟨g0,cs0,o0,n0,h1,h2⟩
  ·omega
  ·exact .inr ⟨b,g0,cs0,o0,n0,h1,h2⟩
theorem ua.refl(ρ:j9)(ls:List Nat)(h:AH)(w:World):ua ρ ls h w ρ ls h w:=
 ⟨.refl _,.refl _,Aac _,fun _ _ _=>rfl,fun _ _ _ _ _ _ h m=>.inr ⟨_,_,_,_,h,m⟩,fun _ _ h=>.inr h,fun _ _ _ _ e=>e,Aac _,rfl,rfl⟩
theorem ua.trans{ρ ls h w ρ' ls' h' w' ρ'' ls'' h'' w''}(e:ua ρ ls h w ρ' ls' h' w')(e':ua ρ' ls' h' w' ρ'' ls'' h'' w''):ua ρ ls h w ρ'' ls'' h'' w'':=
 ⟨e.le.trans e'.le,e.ext.trans e'.ext,Aaa e.sz e'.sz,
  fun c hc ht=>(e'.fr c (Aad hc e.sz) (fun t=>ht (e.E9 hc t))).trans (e.fr c hc ht),
  fun b g cs c o n h1 m1=>by
   rcases e'.own b g cs c o n h1 m1 with h2|⟨g0,cs0,o0,n0,h2,m2⟩
   ·exact .inl (Aaa e.sz h2)
   ·exact e.own b g0 cs0 c o0 n0 h2 m2,
  fun i c h1=>by
   rcases e'.ownl i c h1 with h2|h2
   ·exact .inl (Aaa e.sz h2)
   ·exact e.ownl i c h2,
  fun β c arr hc m=>e.imo β c arr hc (e'.imo β c arr (Aad hc e.sz) m),
  Aaa e.len e'.len,e'.os.trans e.os,e'.out.trans e.out⟩
theorem RH.Ed{ρ ls L h w w'}(r:RH ρ ls L h w)(e:w'.heap=w.heap):RH ρ ls L h w':=
 ⟨by rw[e];exact r.hp,by rw[e];exact r.lp,r.len,r.nod,r.hh,r.hl,by rw[e];exact r.im,r.iml,r.imh,by rw[e];exact r.dom⟩
theorem ua.Ed{ρ ls h w w'}(e:w'.heap=w.heap)(eo:w'.os=w.os)(ep:w'.output=w.output):ua ρ ls h w ρ ls h w':=
 ⟨.refl _,.refl _,by rw[e];exact Aac _,fun c _ _=>by rw[e],fun _ _ _ _ _ _ h m=>.inr ⟨_,_,_,_,h,m⟩,fun _ _ h=>.inr h,fun _ _ _ _ e=>e,Aac _,eo,ep⟩
variable (P:Program) (Γ:bG)
def TR(ρ:j9):Prop:=∀g cs,Γ g=some cs→∃arr,ρ.imm false g=some arr∧pr ρ [] arr 0 cs∧arr.size=cs.length
theorem TR.mono{ρ ρ':j9}(h:TR Γ ρ)(l:ρ.le ρ'):TR Γ ρ':=fun g cs e=>
 let ⟨arr,h1,h2,h3⟩:=h g cs e
 ⟨arr,l.imm _ _ _ h1,fun i x hx=>let ⟨y,e1,e2⟩:=h2 i x hx;⟨y,e1,e2.mono l (.refl _)⟩,h3⟩
def Cb(f:FuncId):Prop:=∃fn c,P.funcs[f]? = some fn∧fn.body=some c∧(fn.name == "runtime.NumGoroutine")=false
def T(f:FuncId)(args:List AV)(h:AH)(Q:AV→AH→Prop):Prop:=
 Cb P f∧∀ρ w cargs,RH ρ [] [] h w→TR Γ ρ→kX ρ [] args cargs→
  Calls P f cargs.toArray w fun e w'=>∃v cv ρ' h',e=.returned cv∧RV ρ' [] v cv∧RH ρ' [] [] h' w'∧ua ρ [] h w ρ' [] h' w'∧Q v h'
theorem T.mono{P Γ}{f:FuncId}{args:List AV}{h:AH}{Q Q':AV→AH→Prop}(t:T P Γ f args h Q)(hq:∀v h',Q v h'→Q' v h'):T P Γ f args h Q':=
 ⟨t.1,fun ρ w cargs r g ra=>(t.2 ρ w cargs r g ra).mono fun _ _ ⟨v,cv,ρ',h',e,r1,r2,r3,q⟩=>⟨v,cv,ρ',h',e,r1,r2,r3,hq _ _ q⟩⟩
structure Rel (ρ:j9) (ls:List Nat) (s:St) (a:Act) (w:World):Prop where
 defers:a.defers=[]
 size:s.env.length=a.tmps.size
 env:∀(i:Nat) (x:AV),s.env[i]? = some x→RV ρ ls x (a.tmps.getD i undef)
 mem:RH ρ ls s.loc s.heap w
 glob:TR Γ ρ
def Sat(Q:AE→St→Prop)(ρ₀:j9)(ls₀:List Nat)(h₀:AH)(w₀:World):Exit→Act→World→Prop:=fun e a w=>
 ∃s ρ ls,Rel Γ ρ ls s a w∧ua ρ₀ ls₀ h₀ w₀ ρ ls s.heap w∧
  match e with
  | .normal=>Q .normal s
  | .exit id=>Q (.exit id) s
  | .ret=>Q .ret s
  | _=>False
def TK'(code:Code)(Q:AE→St→Prop)(s:St):Prop:=
 ∀ρ₀ ls₀ h₀ w₀ ρ ls a w,ua ρ₀ ls₀ h₀ w₀ ρ ls s.heap w→Rel Γ ρ ls s a w→code.wp P (Sat Γ Q ρ₀ ls₀ h₀ w₀) a w
end Go.AM
