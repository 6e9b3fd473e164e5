import Derived.OrdersHeld
import Derived.KernelRfl
import Derived.Laws.Sem
import Derived.Laws.Cells
set_option linter.unusedVariables false
set_option linter.unusedSimpArgs false
namespace Go.AM
inductive AV where
  | any
  | bool (b : Bool)
  | int (k : IntKind) (n : Int)
  | str (s : ByteArray)
  | nilp | nils | nilf
  | opq (v : Value)
  | lp (i off : Nat)
  | gp (b g off : Nat)
  | ip (β : Bool) (cs : List AV)
  | gs (b g off len cap sz : Nat) (ex : Bool)
  | vs (β : Bool) (sz : Nat) (ex : Bool) (xs : List (List AV))
  | fn (f : FuncId) (first caps : List AV)
  | agg (cs : List AV)
  | tup (vs : List AV)
  deriving Inhabited
inductive TK where
  | int (k : IntKind) | bool | str | ptr (e : TypeId) | slice (e : TypeId) | arr (n : Nat) (e : TypeId)
  | strct (fs : List (Nat × TypeId)) | iface | fn | other
  deriving Inhabited, DecidableEq
structure TI where
  kd : TK
  size : Nat
  bytes : Nat
  zero : List AV
  plainEq : Option (List TK)
  deriving Inhabited
def TI.isAgg (t : TI) : Bool := match t.kd with | .strct _ | .arr _ _ => true | _ => false
abbrev AH := List (Option (Nat × List AV))
structure St where
  env : List AV
  loc : List (List AV)
  heap : AH
  deriving Inhabited
def hget (h : AH) (b : Nat) : Option (Nat × List AV) := (h[b]?).bind id
theorem hget_spec {h : AH} {b : Nat} {x : Nat × List AV} (e : hget h b = some x) : h[b]? = some (some x) := by
  unfold hget at e
  cases hb : h[b]? with
  | none => simp [hb] at e
  | some y => simp [hb] at e; rw [e]
theorem hget_of {h : AH} {b : Nat} {x : Nat × List AV} (e : h[b]? = some (some x)) : hget h b = some x := by simp [hget, e]
abbrev Tab := TypeId → Option TI
abbrev Glob := Nat → Option (List AV)
inductive X where
  | t (n : Nat) | c (v : AV) | g (n : Nat)
  deriving Inhabited
inductive EK where | num | bool | agg (ks : List TK) | nilp | nils | nilf | iface
  deriving Inhabited, DecidableEq
inductive SK where | str | sl (sz : Nat)
  deriving Inhabited, DecidableEq
inductive I where
  | mov (x : X)
  | pick (c a b : X)
  | alloc (z : List AV)
  | box (x : X)
  | build (z : List AV) (parts : List (Nat × Nat × X))
  | bsl (sz len : Nat) (z : List AV) (parts : List (Nat × X))
  | load (n : Nat) (agg : Bool) (a : X)
  | store (n : Nat) (a v : X)
  | nilchk (x : X)
  | bin (op : BinOp) (ek : EK) (x y : X)
  | un (op : UnOp) (x : X)
  | cvi (k : IntKind) (x : X)
  | cvs (x : X)
  | cvb (x : X)
  | cvt (x : X)
  | mkf (f : FuncId) (first caps : List X)
  | mks (sz bytes : Nat) (z : List AV) (l c : X)
  | slice (k : SK) (x : X) (lo hi mx : Option X)
  | fld (off : Nat) (x : X)
  | idxs (sz : Nat) (x i : X)
  | idxa (n sz : Nat) (x i : X)
  | idxstr (x i : X)
  | idxagg (n sz : Nat) (agg : Bool) (x i : X)
  | extr (x : X) (i : Nat)
  | len (str : Bool) (x : X)
  | lenc (n : Nat)
  | cap (x : X)
  | app (sz bytes : Nat) (z : List AV) (str : Bool) (x y : X)
  | appz (sz bytes : Nat) (z : List AV) (x n : X)
  | clr (sz : Nat) (z : List AV) (x : X)
  | copy (sz : Nat) (str : Bool) (x y : X)
  | mm (mx : Bool) (xs : List X)
  | call (f : X) (args : List X)
  | bad
  deriving Inhabited
structure O where
  dst : Option Nat
  gd : Option (Nat × Bool)
  op : I
  deriving Inhabited
inductive C where
  | skip
  | reg (os : List O)
  | regD (os : List O) (after : List (List Nat))
  | seq (a b : C)
  | cond (c : X) (thn els : C)
  | block (id : Nat) (body : C)
  | loop (body : C)
  | exit (id : Nat)
  | ret
  deriving Inhabited
def avOf1 : Value → AV
  | .bool b => .bool b
  | .int k n => .int k n
  | .string s => .str s
  | .pointer none => .nilp
  | .slice none 0 0 => .nils
  | .nilFunc => .nilf
  | v => .opq v
def avOf : Value → AV
  | .agg cs => .agg (cs.toList.map avOf1)
  | v => avOf1 v
def trX : Operand → X
  | .tmp t => .t t
  | .const v => .c (avOf v)
  | .global g => .g g
  | .func f => .c (.fn f [] [])
def ekOf (ti : TI) : Option EK :=
  match ti.kd with
  | .int _ | .str => some .num
  | .bool => some .bool
  | .strct _ => ti.plainEq.map .agg
  | .ptr _ => some .nilp
  | .slice _ => some .nils
  | .fn => some .nilf
  | .iface => some .iface
  | _ => none
variable (Θ : Tab)
def skOf (t : TypeId) : Option SK :=
  (Θ t).bind fun ti => match ti.kd with
  | .str => some .str
  | .slice e => (Θ e).map fun ei => .sl ei.size
  | _ => none
def elemOf (t : TypeId) : Option TI :=
  (Θ t).bind fun ti => match ti.kd with
  | .slice e => Θ e
  | _ => none
def trCall (c : Call) : Option I :=
  match c.callee with
  | .value f => some (.call (trX f) (c.args.toList.map trX))
  | .invoke _ _ => none
  | .builtin b =>
    match b, c.argTypes.toList, c.args.toList with
    | .len, [t], [x] => (Θ t).bind fun ti => match ti.kd with
      | .str => some (.len true (trX x))
      | .slice _ => some (.len false (trX x))
      | .arr n _ => some (.lenc n)
      | _ => none
    | .cap, [t], [x] => (Θ t).bind fun ti => match ti.kd with
      | .slice _ => some (.cap (trX x))
      | _ => none
    | .append, [t, tx], [x, y] => (elemOf Θ t).bind fun ei => (Θ tx).bind fun yi => match yi.kd with
      | .str => some (.app ei.size ei.bytes ei.zero true (trX x) (trX y))
      | .slice _ => some (.app ei.size ei.bytes ei.zero false (trX x) (trX y))
      | .int _ => some (.appz ei.size ei.bytes ei.zero (trX x) (trX y))
      | _ => none
    | .clear, [t], [x] => (elemOf Θ t).map fun ei => .clr ei.size ei.zero (trX x)
    | .max, _, xs => some (.mm true (xs.map trX))
    | .min, _, xs => some (.mm false (xs.map trX))
    | _, _, _ => none
def trI0 : Op → Option I
  | .move x | .assign x => some (.mov (trX x))
  | .pick c a b => some (.pick (trX c) (trX a) (trX b))
  | .alloc e => (Θ e).map fun ti => .alloc ti.zero
  | .box _ x => some (.box (trX x))
  | .build t parts => (Θ t).bind fun ti => match ti.kd with
    | .strct fs => if fs.all (fun f => (Θ f.2).isSome) then (parts.toList.mapM fun (p : Nat × Operand) => (fs[p.1]?).bind fun f => (Θ f.2).map fun fi => (f.1, fi.size, trX p.2)).map fun ps => .build ti.zero ps else none
    | .arr _ e => (Θ e).map fun ei => .build ti.zero (parts.toList.map fun p => (p.1 * ei.size, ei.size, trX p.2))
    | _ => none
  | .buildSlice t len parts => (elemOf Θ t).bind fun ei => if len * ei.size ≤ 16777216 then some (.bsl ei.size len ei.zero (parts.toList.map fun p => (p.1, trX p.2))) else none
  | .load t a => (Θ t).map fun ti => .load ti.size ti.isAgg (trX a)
  | .store t a x => (Θ t).map fun ti => .store ti.size (trX a) (trX x)
  | .nilCheck x => some (.nilchk (trX x))
  | .binOp op t x y _ => (Θ t).bind fun ti => (ekOf ti).bind fun k => if k = .iface ∧ !(Region.isConst x || Region.isConst y) then none else some (.bin op k (trX x) (trX y))
  | .unOp op _ x => some (.un op (trX x))
  | .convert src dst x => (Θ src).bind fun a => (Θ dst).bind fun b =>
    match a.kd, b.kd with
    | .int _, .int k => some (.cvi k (trX x))
    | .str, .str => some (.cvs (trX x))
    | .str, .slice e => (Θ e).bind fun ei => if ei.kd = .int .u8 then some (.cvb (trX x)) else none
    | .slice e, .str => (Θ e).bind fun ei => if ei.kd = .int .u8 then some (.cvt (trX x)) else none
    | _, _ => none
  | .makeFunc (.func f) first caps => some (.mkf f (first.toList.map trX) (caps.toList.map trX))
  | .makeSlice t l c => (elemOf Θ t).map fun ei => .mks ei.size ei.bytes ei.zero (trX l) (trX c)
  | .slice t x lo hi mx => (skOf Θ t).map fun k => .slice k (trX x) (lo.map trX) (hi.map trX) (mx.map trX)
  | .fieldAddr t x f => (Θ t).bind fun ti => match ti.kd with
    | .strct fs => (fs[f]?).bind fun p => (Θ p.2).bind fun fi => if fi.size = 0 then none else some (.fld p.1 (trX x))
    | _ => none
  | .indexAddr t x ix => (Θ t).bind fun ti => match ti.kd with
    | .slice e => (Θ e).map fun ei => .idxs ei.size (trX x) (trX ix)
    | .arr n e => (Θ e).map fun ei => .idxa n ei.size (trX x) (trX ix)
    | _ => none
  | .index t x ix => (Θ t).bind fun ti => match ti.kd with
    | .str => some (.idxstr (trX x) (trX ix))
    | .arr n e => (Θ e).map fun ei => .idxagg n ei.size ei.isAgg (trX x) (trX ix)
    | _ => none
  | .extract x i => some (.extr (trX x) i)
  | .call c => trCall Θ c
  | _ => none
def trI (op : Op) : Option I := some ((trI0 Θ op).getD .bad)
def trO (o : Oper) : Option O := (trI Θ o.op).map fun i => ⟨o.dst, o.guard, i⟩
def trC : Code → Option C
  | .skip => some .skip
  | .region _ ops false => (ops.toList.mapM (trO Θ)).map .reg
  | .region _ ops true => (ops.toList.mapM (trO Θ)).map fun l => .regD l (ops.toList.map fun o => o.after.toList.filterMap fun e => if Region.binds .any e then some e.on else none)
  | .seq a b => (trC a).bind fun x => (trC b).map fun y => .seq x y
  | .cond c a b => (trC a).bind fun x => (trC b).map fun y => .cond (trX c) x y
  | .block id c => (trC c).map fun x => .block id x
  | .loop c => (trC c).map .loop
  | .exit id => some (.exit id)
  | .ret => some .ret
  | _ => none
variable (Γ : Glob)
def St.eval (s : St) : X → AV
  | .t n => s.env.getD n .any
  | .c v => v
  | .g n => match Γ n with | some cs => .ip false cs | none => .any
def St.put (s : St) (dst : Option Nat) (v : AV) : St :=
  match dst with | some d => { s with env := s.env.set d v } | none => s
def isCell : AV → Bool
  | .any | .agg _ | .tup _ => false
  | .opq v => v.oneCell'
  | _ => true
def noLp1 : AV → Bool
  | .any | .lp _ _ | .agg _ | .tup _ | .fn _ _ _ => false
  | .opq v => v.oneCell'
  | _ => true
def noLp : AV → Bool
  | .any | .lp _ _ | .agg _ | .tup _ => false
  | .fn _ first caps => first.all noLp1 && caps.all noLp1
  | .opq v => v.oneCell'
  | _ => true
def cellsOf : AV → Option (List AV)
  | .agg cs => some cs
  | .any | .tup _ => none
  | .opq v => if v.oneCell' = true then some [.opq v] else none
  | v => some [v]
inductive AR where
  | val (v : AV) (s : St)
  | call (f : FuncId) (args : List AV)
  | stuck
def sub (l : List AV) (off n : Nat) : Option (List AV) := if off + n ≤ l.length then some ((l.drop off).take n) else none
def St.cells (s : St) : AV → Nat → Option (List AV)
  | .lp i off, n => (s.loc[i]?).bind fun l => sub l off n
  | .gp b g off, n => (hget s.heap b).bind fun e => if e.1 = g then sub e.2 off n else none
  | .ip _ cs, n => sub cs 0 n
  | _, _ => none
def over (l : List AV) (off : Nat) (cs : List AV) : List AV := l.take off ++ cs ++ l.drop (off + cs.length)
def St.store (s : St) (a : AV) (cs : List AV) : Option St :=
  match a with
  | .lp i off => (s.loc[i]?).bind fun l => if off + cs.length ≤ l.length then (if cs.all isCell then some { s with loc := s.loc.set i (over l off cs) } else none) else none
  | .gp b g off => (hget s.heap b).bind fun e =>
      if e.1 = g then (if off + cs.length ≤ e.2.length then (if cs.all noLp then some { s with heap := s.heap.set b (some (e.1, over e.2 off cs)) } else none) else none) else none
  | _ => none
def wrapAgg (agg : Bool) (cs : List AV) : Option AV :=
  match agg, cs with
  | true, cs => some (.agg cs)
  | false, [x] => some x
  | _, _ => none
def aFld (off : Nat) : AV → Option AV
  | .lp i o => some (.lp i (o + off))
  | .gp b g o => some (.gp b g (o + off))
  | .ip β cs => some (.ip β (cs.drop off))
  | _ => none
def asI : AV → Option Int | .int _ n => some n | _ => none
def aIdxs (sz : Nat) (x : AV) (i : Int) : Option AV :=
  match x with
  | .vs β sz' _ xs => if sz = sz' then (if 0 ≤ i then (xs[i.toNat]?).map fun l => .ip β l else none) else none
  | .gs b g off len _ sz' _ => if sz = sz' then (if 0 ≤ i ∧ i < len then some (.gp b g (off + i.toNat * sz)) else none) else none
  | _ => none
def aIdxa (n sz : Nat) (x : AV) (i : Int) : Option AV :=
  if 0 ≤ i ∧ i < n then aFld (i.toNat * sz) x else none
def cellEq : TK → AV → AV → Option Bool
  | .int _, .int k a, .int k' b => if k = k' then some (a == b) else none
  | .bool, .bool a, .bool b => some (a == b)
  | .str, .str a, .str b => some (a.toList == b.toList)
  | _, _, _ => none
def aggEq : List TK → List AV → List AV → Option Bool
  | [], [], [] => some true
  | t :: ts, x :: xs, y :: ys => (cellEq t x y).bind fun a => (aggEq ts xs ys).map fun b => a && b
  | _, _, _ => none
def isNil : AV → Option Bool
  | .nilp | .nils | .nilf => some true
  | .lp _ _ | .gp _ _ _ | .ip _ _ | .gs _ _ _ _ _ _ _ | .fn _ _ _ => some false
  | _ => none
def nilEqP : AV → AV → Option Bool
  | .nilp, .nilp => some true
  | .nilp, .lp _ _ | .nilp, .gp _ _ _ | .nilp, .ip _ _ => some false
  | .lp _ _, .nilp | .gp _ _ _, .nilp | .ip _ _, .nilp => some false
  | _, _ => none
def nilEqS : AV → AV → Option Bool
  | .nils, .nils => some true
  | .nils, .gs _ _ _ _ _ _ _ | .nils, .vs _ _ _ (_ :: _) | .nils, .opq (.slice (some _) _ _) => some false
  | .gs _ _ _ _ _ _ _, .nils | .vs _ _ _ (_ :: _), .nils | .opq (.slice (some _) _ _), .nils => some false
  | _, _ => none
def nilEqF : AV → AV → Option Bool
  | .nilf, .nilf => some true
  | .nilf, .fn _ _ _ => some false
  | .fn _ _ _, .nilf => some false
  | _, _ => none
def aEql (ek : EK) (x y : AV) : Option Bool :=
  match ek with
  | .bool => (match x, y with | .bool a, .bool b => some (a == b) | _, _ => none)
  | .agg ks => match x, y with | .agg xs, .agg ys => aggEq ks xs ys | _, _ => none
  | .num => none
  | .nilp => nilEqP x y
  | .nils => nilEqS x y
  | .nilf => nilEqF x y
  | .iface => match x, y with
    | .opq .nilIface, .opq .nilIface => some true
    | .opq .nilIface, .opq (.iface _ _) => some false
    | .opq (.iface _ _), .opq .nilIface => some false
    | _, _ => none
def aArith (op : BinOp) (k : IntKind) (a b : Int) : Option AV :=
  match op with
  | .add => some (.int k (k.wrap (a + b)))
  | .sub => some (.int k (k.wrap (a - b)))
  | .mul => some (.int k (k.wrap (a * b)))
  | .quo => if b = 0 then none else some (.int k (k.wrap (a.tdiv b)))
  | .rem => if b = 0 then none else some (.int k (a.tmod b))
  | .and => some (.int k (k.wrap (BitVec.ofInt k.bits a &&& BitVec.ofInt k.bits b).toNat))
  | .or => some (.int k (k.wrap (BitVec.ofInt k.bits a ||| BitVec.ofInt k.bits b).toNat))
  | .xor => some (.int k (k.wrap (BitVec.ofInt k.bits a ^^^ BitVec.ofInt k.bits b).toNat))
  | .andNot => some (.int k (k.wrap (BitVec.ofInt k.bits a &&& ~~~(BitVec.ofInt k.bits b)).toNat))
  | .eql => some (.bool (a == b))
  | .neq => some (.bool (a != b))
  | .lss => some (.bool (decide (a < b)))
  | .leq => some (.bool (decide (a ≤ b)))
  | .gtr => some (.bool (decide (a > b)))
  | .geq => some (.bool (decide (a ≥ b)))
  | _ => none
def aBin (op : BinOp) (ek : EK) (x y : AV) : Option AV :=
  match x, y with
  | .int k a, .int k' b =>
    match op with
    | .shl => if 0 ≤ b then some (.int k (k.wrap (a * 2 ^ (min b.toNat k.bits)))) else none
    | .shr => if 0 ≤ b then some (.int k (a.fdiv (2 ^ (min b.toNat k.bits)))) else none
    | op => if k = k' then aArith op k a b else none
  | .str a, .str b =>
    match op with
    | .add => if ((a.size + b.size : Nat) : Int) > IntKind.i64.max then none else some (.str (a ++ b))
    | .eql => some (.bool (a.toList == b.toList))
    | .neq => some (.bool !(a.toList == b.toList))
    | _ => none
  | x, y =>
    match op with
    | .eql => (aEql ek x y).map .bool
    | .neq => (aEql ek x y).map fun b => .bool !b
    | _ => none
def aUn (op : UnOp) (x : AV) : Option AV :=
  match op, x with
  | .not, .bool b => some (.bool !b)
  | .neg, .int k n => some (.int k (k.wrap (0 - n)))
  | _, _ => none
def byteCells (s : ByteArray) : List AV := s.data.toList.map fun b => .int .u8 b.toNat
def bytesOfCells : List AV → Option (List UInt8)
  | [] => some []
  | .int .u8 n :: r => (bytesOfCells r).map fun l => UInt8.ofNat n.toNat :: l
  | _ => none
def St.sliceCells (s : St) (sz : Nat) : AV → Option (List AV)
  | .nils => some []
  | .vs _ sz' _ xs => if sz = sz' then some xs.flatten else none
  | .opq (.slice (some _) 0 _) => some []
  | .gs b g off len _ sz' _ => if sz = sz' then (hget s.heap b).bind fun e => if e.1 = g then sub e.2 off (len * sz) else none else none
  | _ => none
def lenOf : AV → Option Nat
  | .nils => some 0
  | .opq (.slice (some _) 0 _) => some 0
  | .vs _ _ _ xs => some xs.length
  | .gs _ _ _ len _ _ _ => some len
  | .str s => some s.size
  | _ => none
def lenK : Bool → AV → Option Nat
  | true, .str s => some s.size
  | false, .nils => some 0
  | false, .opq (.slice (some _) 0 _) => some 0
  | false, .vs _ _ _ xs => some xs.length
  | false, .gs _ _ _ len _ _ _ => some len
  | _, _ => none
def maxMade : Nat := 1099511627776
def St.push (s : St) (cs : List AV) : St := { s with heap := s.heap ++ [some (0, cs)] }
def aMks (s : St) (sz bytes : Nat) (z : List AV) (ln cp : Int) : Option (AV × St) :=
  if ln = cp ∧ 0 ≤ ln ∧ ln.toNat * (bytes + sz + 1) ≤ maxMade then
    (if z.all noLp then some (.gs s.heap.length 0 0 ln.toNat ln.toNat sz true, s.push (List.replicate ln.toNat z).flatten) else none)
  else none
def aAppz (s : St) (sz bytes : Nat) (z : List AV) (n : Int) : Option (AV × St) :=
  if 0 < n ∧ 0 < sz ∧ n.toNat * (sz + bytes) ≤ maxMade then
    (if z.all noLp then some (.gs s.heap.length 0 0 n.toNat n.toNat sz false, s.push (List.replicate n.toNat z).flatten) else none)
  else none
def fillA (cells : List AV) : List (Nat × Nat × AV) → Option (List AV)
  | [] => some cells
  | (off, size, v) :: rest =>
    match cellsOf v with
    | some cs => if cs.length = size then (if off + cs.length ≤ cells.length then fillA (over cells off cs) rest else none) else none
    | none => none
def bnd (s : St) (d : Nat) : Option X → Option Nat
  | none => some d
  | some v => (asI (s.eval Γ v)).bind fun i => if 0 ≤ i then some i.toNat else none
def aSlice (k : SK) (x : AV) (l : Nat) (h : Option Nat) (m : Option Nat) : Option AV :=
  if h.isNone && m.isSome then none else
  match k, x with
  | .str, .str s => if m.isNone then (if l ≤ h.getD s.size ∧ h.getD s.size ≤ s.size then some (.str (s.extract l (h.getD s.size))) else none) else none
  | .sl _, .nils => if l = 0 ∧ h.getD 0 = 0 ∧ m.getD 0 = 0 then some .nils else none
  | .sl sz, .vs β sz' ex xs =>
    if sz = sz' then (if l ≤ h.getD xs.length ∧ h.getD xs.length ≤ xs.length then
      match m with
      | none => some (.vs β sz (ex && h.getD xs.length == xs.length) ((xs.take (h.getD xs.length)).drop l))
      | some m => if m = h.getD xs.length then some (.vs β sz true ((xs.take (h.getD xs.length)).drop l)) else none
    else none) else none
  | .sl sz, .gs b g off len cap sz' ex =>
    if sz = sz' then (if l ≤ h.getD len ∧ h.getD len ≤ m.getD cap ∧ m.getD cap ≤ cap then some (.gs b g (off + l * sz) (h.getD len - l) (m.getD cap - l) sz (ex || m.isSome)) else none) else none
  | _, _ => none
def aApp (s : St) (sz bytes : Nat) (x : AV) (ys : List AV) (n m : Nat) : Option (AV × St) :=
  if sz = 0 then none else if (m + n) * (sz + bytes) > maxMade then none else
  match x with
  | .nils => if n = 0 then some (.nils, s) else if ys.all noLp then some (.gs s.heap.length 0 0 n n sz false, s.push ys) else none
  | .vs β sz' ex xs =>
    if n = 0 then some (.vs β sz' ex xs, s)
    else if ex then (if sz = sz' then (if ys.all noLp then (if xs.flatten.all noLp then some (.gs s.heap.length 0 0 (m + n) (m + n) sz false, s.push (xs.flatten ++ ys)) else none) else none) else none)
    else none
  | .gs b g off len cap sz' ex =>
    (hget s.heap b).bind fun e =>
    if e.1 = g then (if sz = sz' then (if ys.all noLp then
      (if len + n ≤ cap then
        (if off + (len + n) * sz ≤ e.2.length then some (.gs b g off (len + n) cap sz ex, { s with heap := s.heap.set b (some (g, over e.2 (off + len * sz) ys)) }) else none)
      else (sub e.2 off (len * sz)).map fun xs =>
        (.gs b (g + 1) 0 (len + n) (len + n) sz false, { s with heap := s.heap.set b (some (g + 1, xs ++ ys)) }))
      else none) else none) else none
  | _ => none
def aClr (s : St) (sz : Nat) (z : List AV) (x : AV) : Option St :=
  match x with
  | .nils => some s
  | .gs b g off len _ sz' _ => if len = 0 then some s else if sz = sz' then s.store (.gp b g off) (List.replicate len z).flatten else none
  | .vs _ _ _ [] => some s
  | _ => none
def aCopy (s : St) (sz : Nat) (x : AV) (ys : List AV) (n : Nat) : Option (AV × St) :=
  match x with
  | .nils => some (.int .i64 0, s)
  | .gs b g off len _ sz' _ => if sz = sz' then (s.store (.gp b g off) (ys.take (min n len * sz))).map fun s' => (.int .i64 ((min n len : Nat) : Int), s') else none
  | _ => none
def aMM (mx : Bool) : List AV → Option AV
  | [.int k a, .int k' c] => if k = k' then some (.int k (if mx = true then (if c > a then c else a) else (if c < a then c else a))) else none
  | _ => none
def AR.ofO (s : St) : Option AV → AR | some v => .val v s | none => .stuck
def AR.ofS : Option St → AR | some s => .val (.tup []) s | none => .stuck
def AR.ofP : Option (AV × St) → AR | some p => .val p.1 p.2 | none => .stuck
def srcCells (s : St) (sz : Nat) (str : Bool) (y : AV) : Option (List AV) :=
  match str, y with
  | true, .str v => if sz = 1 then some (byteCells v) else none
  | false, y => s.sliceCells sz y
  | _, _ => none
def step (gl : Bool) (s : St) : I → AR
  | .mov x => .val (s.eval Γ x) s
  | .pick c a b => match s.eval Γ c with | .bool t => .val (if t = true then s.eval Γ a else s.eval Γ b) s | _ => .stuck
  | .alloc z => if gl = true then (if z.all noLp then .val (.gp s.heap.length 0 0) (s.push z) else .stuck)
      else .val (.lp s.loc.length 0) { s with loc := s.loc ++ [z] }
  | .box x => match cellsOf (s.eval Γ x) with
    | some cs => if gl = true then (if cs.all noLp then .val (.gp s.heap.length 0 0) (s.push cs) else .stuck)
        else .val (.lp s.loc.length 0) { s with loc := s.loc ++ [cs] }
    | none => .stuck
  | .build z ps => .ofO s ((fillA z (ps.map fun p => (p.1, p.2.1, s.eval Γ p.2.2))).map .agg)
  | .bsl sz len z ps => match fillA (List.replicate len z).flatten (ps.map fun p => (p.1 * sz, sz, s.eval Γ p.2)) with
    | some cs => if cs.all noLp then .val (.gs s.heap.length 0 0 len len sz true) (s.push cs) else .stuck
    | none => .stuck
  | .load n agg a => .ofO s ((s.cells (s.eval Γ a) n).bind (wrapAgg agg))
  | .store n a v => match cellsOf (s.eval Γ v) with
    | some cs => if cs.length = n then .ofS (s.store (s.eval Γ a) cs) else .stuck
    | none => .stuck
  | .nilchk x => match isNil (s.eval Γ x) with | some false => .val (s.eval Γ x) s | _ => .stuck
  | .bin op ek x y => .ofO s (aBin op ek (s.eval Γ x) (s.eval Γ y))
  | .un op x => .ofO s (aUn op (s.eval Γ x))
  | .cvi k x => match s.eval Γ x with | .int _ n => .val (.int k (k.wrap n)) s | _ => .stuck
  | .cvs x => match s.eval Γ x with | .str v => .val (.str v) s | _ => .stuck
  | .cvb x => match s.eval Γ x with
    | .str v => if v.size ≤ maxMade then .val (.gs s.heap.length 0 0 v.size v.size 1 false) (s.push (byteCells v)) else .stuck
    | _ => .stuck
  | .cvt x => .ofO s (((s.sliceCells 1 (s.eval Γ x)).bind bytesOfCells).map fun l => .str ⟨l.toArray⟩)
  | .mkf f first caps => .val (.fn f (first.map (s.eval Γ)) (caps.map (s.eval Γ))) s
  | .mks sz bytes z l c => match s.eval Γ l, s.eval Γ c with
    | .int _ ln, .int _ cp => .ofP (aMks s sz bytes z ln cp)
    | _, _ => .stuck
  | .slice k x lo hi mx => match bnd Γ s 0 lo, (match hi with | none => some none | some h => (bnd Γ s 0 (some h)).map some), (match mx with | none => some none | some m => (bnd Γ s 0 (some m)).map some) with
    | some l, some h, some m => .ofO s (aSlice k (s.eval Γ x) l h m)
    | _, _, _ => .stuck
  | .fld off x => .ofO s (aFld off (s.eval Γ x))
  | .idxs sz x i => match s.eval Γ i with | .int _ n => .ofO s (aIdxs sz (s.eval Γ x) n) | _ => .stuck
  | .idxa n sz x i => match s.eval Γ i with | .int _ k => .ofO s (aIdxa n sz (s.eval Γ x) k) | _ => .stuck
  | .idxstr x i => match s.eval Γ x, s.eval Γ i with
    | .str v, .int _ n => .ofO s (if 0 ≤ n then (v[n.toNat]?).map fun b => .int .u8 b.toNat else none)
    | _, _ => .stuck
  | .idxagg n sz agg x i => match s.eval Γ x, s.eval Γ i with
    | .agg cs, .int _ k => .ofO s (if 0 ≤ k ∧ k < n then (sub cs (k.toNat * sz) sz).bind (wrapAgg agg) else none)
    | _, _ => .stuck
  | .extr x i => match s.eval Γ x with | .tup vs => .ofO s vs[i]? | _ => .stuck
  | .len str x => .ofO s ((lenK str (s.eval Γ x)).map fun n => .int .i64 n)
  | .lenc n => .val (.int .i64 n) s
  | .cap x => match s.eval Γ x with
    | .nils => .val (.int .i64 0) s
    | .gs _ _ _ _ cap _ true => .val (.int .i64 cap) s
    | _ => .stuck
  | .app sz bytes _ str x y => match srcCells s sz str (s.eval Γ y), lenOf (s.eval Γ y), lenOf (s.eval Γ x) with
    | some ys, some n, some m => .ofP (aApp s sz bytes (s.eval Γ x) ys n m)
    | _, _, _ => .stuck
  | .appz sz bytes z x n => match s.eval Γ x, s.eval Γ n with
    | .nils, .int _ k => .ofP (aAppz s sz bytes z k)
    | _, _ => .stuck
  | .clr sz z x => .ofS (aClr s sz z (s.eval Γ x))
  | .copy sz str x y => match srcCells s sz str (s.eval Γ y), lenOf (s.eval Γ y) with
    | some ys, some n => .ofP (aCopy s sz (s.eval Γ x) ys n)
    | _, _ => .stuck
  | .mm mx xs => .ofO s (aMM mx (xs.map (s.eval Γ)))
  | .call f args => match s.eval Γ f with
    | .fn g first caps => .call g (first ++ args.map (s.eval Γ) ++ caps)
    | _ => .stuck
  | .bad => .stuck
def guardOf (os : List O) (s : St) : Option (Nat × Bool) → Option Bool
  | none => some true
  | some (j, want) =>
    match (os[j]?).bind (·.dst) with
    | none => some false
    | some d =>
      match s.env[d]? with
      | some (.bool b) => some (b == want)
      | some .any | some (.opq _) => none
      | _ => some false
inductive AE where
  | normal | exit (id : Nat) | ret
def br (t : Bool) (A B : Prop) : Prop := (t = true → A) ∧ (t = false → B)
theorem br_true (A B : Prop) : br true A B ↔ A := by simp [br]
theorem br_false (A B : Prop) : br false A B ↔ B := by simp [br]
end Go.AM
