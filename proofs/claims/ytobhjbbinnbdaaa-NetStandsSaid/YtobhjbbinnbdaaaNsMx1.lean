/-
  A plain machine: values with addresses of its own, code with what it needs of the type table, one order for each region. Conditions: none.
-/
import Derived.OrdersHeld
import Derived.OrdersIn
import Derived.RangeFuncIn
import Derived.RecoverIn
import Derived.Below
import Derived.KernelRfl
namespace Go.Mx
open Go
set_option linter.unusedSimpArgs false
set_option linter.unusedVariables false

/-- A value. -/
inductive V where
  | lit (v : Value)
  | ptr (β o : Nat)
  | sl (β o n len : Nat) (cap : Option Nat)
  | clo (f : Nat) (first cap : List V)
  | yld (l : Nat)
  | ifc (t : TypeId) (v : V)
  | agg (vs : List V)
  | tup (vs : List V)
  deriving Inhabited

/-- An operand. -/
inductive X where
  | s (k : Nat)
  | c (v : Value)
  | f (f : Nat)
  deriving Inhabited

inductive I where
  | mov (x : X)
  | pick (c a b : X)
  | build (z : List Value) (parts : List (Nat × Nat × X))
  | load (n : Option Nat) (x : X)
  | fld (off : Nat) (x : X)
  | idxS (n : Nat) (x i : X)
  | idxA (n cnt : Nat) (x i : X)
  | idxV (n : Option Nat) (cnt : Nat) (x i : X)
  | part (n : Option Nat) (off : Nat) (x : X)
  | bin (op : BinOp) (x y : X)
  | eqb (neg : Bool) (x y : X)
  | eqn (neg : Bool) (x : X)
  | eqi (neg : Bool) (x : X)
  | eqp (neg : Bool) (x : X)
  | un (op : UnOp) (x : X)
  | conv (k : IntKind) (x : X)
  | len (x : X)
  | mm (isMax : Bool) (xs : List X)
  | ext (x : X) (i : Nat)
  | slc (n : Nat) (x : X) (lo hi mx : Option X)
  | slcA (n cnt : Nat) (x : X) (lo hi mx : Option X)
  | nilck (x : X)
  | clo (f : Nat) (first cap : List X)
  | mkI (t : TypeId) (x : X)
  | alloc (z : List Value)
  | box (x : X)
  | bsl (n len : Nat) (z : List Value) (parts : List (Nat × X))
  | store (n : Nat) (a x : X)
  | mk (n bytes : Nat) (z : List Value) (l c : X)
  | app (n bytes : Nat) (s x : X)
  | copy (n : Nat) (d s : X)
  | avo (xs : List X) (y : X)
  | call (f : Nat) (xs : List X)
  | callv (x : X) (xs : List X)
  | panic (x : X)
  | defer (x : X) (xs : List X)
  | recover
  | bad
  deriving Inhabited

structure O where
  dst : Option Nat
  i : I
  g : Option (Nat × Bool)
  deriving Inhabited

inductive C where
  | skip
  | reg (dr bar : Bool) (ops : List O)
  | seq (a b : C)
  | cond (x : X) (a b : C)
  | block (id : Nat) (c : C)
  | loop (c : C)
  | rfunc (x : X) (ps : List Nat) (assign body : C)
  | exit (id : Nat)
  | scope (c : C)
  | label (l : Nat)
  | ret
  | bad
  deriving Inhabited

def opX : Operand → X
  | .tmp k => .s k
  | .const v => .c v
  | .global g => .c (.pointer (some ⟨g, 0, none⟩))
  | .func f => .f f
def isAggT (P : Program) (t : TypeId) : Bool :=
  match P.underlying t with
  | some (.struct _) | some (.array _ _) => true
  | _ => false
def tyOk (P : Program) (t : TypeId) : Bool := (P.info? t).isSome && (P.underlying t).isSome
def aggN (P : Program) (t : TypeId) : Option Nat := bif isAggT P t then some (P.cellsOf t) else none
def zeroC (P : Program) (t : TypeId) : Option (List Value) := ((P.info? t).bind (·.zero)).map fun v => v.cells.toList
def oneV : Value → Bool
  | .agg _ => false
  | .tuple _ => false
  | _ => true

def irCall (P : Program) (c : Call) : I :=
  match c.callee with
  | .value (.func f) => bif (match P.funcs[f]? with | some fn => !(fn.name == "runtime.NumGoroutine") && fn.body.isSome | none => false) then .call f (c.args.toList.map opX) else .bad
  | .value (.tmp k) => .callv (.s k) (c.args.toList.map opX)
  | .builtin b => (match b, c.argTypes.toList, c.args.toList with
    | .len, [t], [x] => (match P.underlying t with | some (.slice _) => .len (opX x) | _ => .bad)
    | .min, _, xs => .mm false (xs.map opX)
    | .max, _, xs => .mm true (xs.map opX)
    | .append, [t, t'], [x, y] => (match P.underlying t, P.underlying t' with
      | some (.slice el), some (.slice _) => bif tyOk P el && Nat.blt 0 (P.cellsOf el) && Nat.blt 0 (P.bytesOf el) then (match zeroC P el with
        | some z => bif z.length == P.cellsOf el then .app (P.cellsOf el) (P.bytesOf el) (opX x) (opX y) else .bad
        | none => .bad) else .bad
      | _, _ => .bad)
    | .copy, [t, t'], [x, y] => (match P.underlying t, P.underlying t' with
      | some (.slice el), some (.slice _) => bif tyOk P el && Nat.blt 0 (P.cellsOf el) then .copy (P.cellsOf el) (opX x) (opX y) else .bad
      | _, _ => .bad)
    | .recover, _, [] => .recover
    | _, _, _ => .bad)
  | _ => .bad

def irOp (P : Program) (o : Oper) : I :=
  match o.op with
  | .move x => .mov (opX x)
  | .assign x => .mov (opX x)
  | .pick c a b => .pick (opX c) (opX a) (opX b)
  | .alloc t => (match zeroC P t with
    | some z => bif z.all oneV then .alloc z else .bad
    | none => .bad)
  | .box _ x => .box (opX x)
  | .build t parts => (match zeroC P t with
    | some z => bif z.all oneV then (match P.underlying t with
      | some (.struct fs) => bif fs.all (fun f => tyOk P f.type) && parts.all (fun ix => Nat.blt ix.1 fs.size) then
          .build z (parts.toList.map fun ix => ((fs.getD ix.1 default).offset, P.cellsOf (fs.getD ix.1 default).type, opX ix.2)) else .bad
      | some (.array _ el) => bif tyOk P el then
          .build z (parts.toList.map fun ix => (ix.1 * P.cellsOf el, P.cellsOf el, opX ix.2)) else .bad
      | _ => .bad) else .bad
    | none => .bad)
  | .buildSlice t len parts => (match P.underlying t with
    | some (.slice el) => bif tyOk P el && Nat.blt 0 (P.cellsOf el) && Nat.ble (len * P.cellsOf el) 16777216 then (match zeroC P el with
      | some z => bif z.all oneV && (z.length == P.cellsOf el) then .bsl (P.cellsOf el) len z (parts.toList.map fun ix => (ix.1, opX ix.2)) else .bad
      | none => .bad) else .bad
    | _ => .bad)
  | .load t x => bif tyOk P t then .load (aggN P t) (opX x) else .bad
  | .store t x y => bif tyOk P t then .store (P.cellsOf t) (opX x) (opX y) else .bad
  | .fieldAddr s x f => (match P.underlying s with
    | some (.struct fs) => (match fs[f]? with
      | some fd => (bif tyOk P fd.type && !(P.cellsOf fd.type == 0) then .fld fd.offset (opX x) else .bad)
      | none => .bad)
    | _ => .bad)
  | .field s x f => (match P.underlying s with
    | some (.struct fs) => (match fs[f]? with
      | some fd => (bif tyOk P fd.type then .part (aggN P fd.type) fd.offset (opX x) else .bad)
      | none => .bad)
    | _ => .bad)
  | .indexAddr t x i => (match P.underlying t with
    | some (.slice el) => bif tyOk P el then .idxS (P.cellsOf el) (opX x) (opX i) else .bad
    | some (.array cnt el) => bif tyOk P el && !(P.cellsOf el == 0) then .idxA (P.cellsOf el) cnt (opX x) (opX i) else .bad
    | _ => .bad)
  | .index t x i => (match P.underlying t with
    | some (.array cnt el) => bif tyOk P el && !(P.cellsOf el == 0) && (isAggT P el || (P.cellsOf el == 1)) then .idxV (aggN P el) cnt (opX x) (opX i) else .bad
    | _ => .bad)
  | .makeFunc (.func f) first cap => .clo f (first.toList.map opX) (cap.toList.map opX)
  | .makeInterface t x => (match P.underlying t with
    | some (.struct _) => .mkI t (opX x)
    | _ => .bad)
  | .panic x => .panic (opX x)
  | .binOp op t x y _ => (match P.underlying t with
    | some (.int _) => .bin op (opX x) (opX y)
    | some .bool => (match op with
      | .eql => .eqb false (opX x) (opX y)
      | .neq => .eqb true (opX x) (opX y)
      | _ => .bad)
    | some (.slice _) => (match y, op with
      | .const (.slice none 0 0), .eql => .eqn false (opX x)
      | .const (.slice none 0 0), .neq => .eqn true (opX x)
      | _, _ => .bad)
    | some (.interface _) => (match y, op with
      | .const .nilIface, .eql => .eqi false (opX x)
      | .const .nilIface, .neq => .eqi true (opX x)
      | _, _ => .bad)
    | some (.pointer _) => (match y, op with
      | .const (.pointer none), .eql => .eqp false (opX x)
      | .const (.pointer none), .neq => .eqp true (opX x)
      | _, _ => .bad)
    | _ => .bad)
  | .unOp op _ x => .un op (opX x)
  | .convert a b x => (match P.underlying a, P.underlying b with
    | some (.int _), some (.int k) => .conv k (opX x)
    | _, _ => .bad)
  | .extract x i => .ext (opX x) i
  | .makeSlice t l c => (match P.underlying t with
    | some (.slice el) => bif tyOk P el && Nat.blt 0 (P.cellsOf el) && Nat.blt 0 (P.bytesOf el) then (match zeroC P el with
      | some z => bif z.all oneV && (z.length == P.cellsOf el) then .mk (P.cellsOf el) (P.bytesOf el) z (opX l) (opX c) else .bad
      | none => .bad) else .bad
    | _ => .bad)
  | .slice t x lo hi mx => (match P.underlying t with
    | some (.slice el) => bif tyOk P el then .slc (P.cellsOf el) (opX x) (lo.map opX) (hi.map opX) (mx.map opX) else .bad
    | some (.array cnt el) => bif tyOk P el then .slcA (P.cellsOf el) cnt (opX x) (lo.map opX) (hi.map opX) (mx.map opX) else .bad
    | _ => .bad)
  | .nilCheck x => .nilck (opX x)
  | .call c => irCall P c
  | .defer c => (match c.callee with
    | .value x => .defer (opX x) (c.args.toList.map opX)
    | _ => .bad)
  | _ => .bad

def quietI : I → Bool
  | .mov _ | .pick .. | .build .. | .load .. | .fld .. | .idxS .. | .idxA .. | .idxV .. | .part .. | .bin .. | .eqb .. | .eqn .. | .eqi .. | .eqp .. | .un .. | .conv .. | .len _ | .mm .. | .ext .. | .slc .. | .slcA .. | .nilck _ | .clo .. | .mkI .. | .avo .. => true
  | _ => false

def dstOk (N : Nat) : Option Nat → Bool
  | some d => Nat.blt d N
  | none => true
def irO (P : Program) (N : Nat) (ops : Array Oper) (o : Oper) : O :=
  { dst := o.dst
    i := irOp P o
    g := match o.guard with
      | none => none
      | some (j, want) => some (((ops[j]?).bind (·.dst)).getD N, want) }

/-- What makes memory and leaves what is there as it is; under 'bar' calls are made so. -/
def extI (bar : Bool) : I → Bool
  | .alloc .. | .box .. | .bsl .. | .mk .. => true
  | .call .. | .callv .. => bar
  | i => quietI i
def irAt (P : Program) (ops : Array Oper) (i : Nat) : I := match ops[i]? with | some o => irOp P o | none => .bad

/-- From the first store or append on: nothing but what alone can come up. -/
def planB (ops : Array Oper) : Nat → Array Bool → Option (List Nat)
  | 0, listed => if (Region.ready .any ops listed).isEmpty then some [] else none
  | f + 1, listed =>
    match Region.ready .any ops listed with
    | [] => some []
    | [i] => (planB ops f (listed.setIfInBounds i true)).map (i :: ·)
    | _ => none
/-- j waits for i, over whatever many steps. -/
def reachB (ops : Array Oper) : Nat → Nat → Nat → Bool
  | 0, _, _ => false
  | f + 1, j, i => match ops[j]? with
    | some oj => oj.after.any fun ed => Region.binds .any ed && (ed.on == i || reachB ops f ed.on i)
    | none => false
def isLd (o : Oper) : Bool := match o.op with | .load .. => true | _ => false
def ldAt (ops : Array Oper) (i : Nat) : Bool := match ops[i]? with | some o => isLd o | none => true
/-- The block that an operation writes. -/
def tgtX : I → Option X
  | .store _ x _ | .app _ _ x _ | .copy _ x _ => some x
  | _ => none
def isWI (i : I) : Bool := (tgtX i).isSome
def isStI : I → Bool
  | .store .. => true
  | _ => false
def ldX (ops : Array Oper) (i : Nat) : Option Operand := match ops[i]? with
  | some o => (match o.op with | .load _ x => some x | _ => none)
  | none => none
/-- What is loaded neither before nor after. -/
def avoL (ops : Array Oper) (j : Nat) : List X := (List.range ops.size).filterMap fun i => bif reachB ops ops.size j i || reachB ops ops.size i j then none else (ldX ops i).map opX
def seqO (P : Program) (N : Nat) (ops : Array Oper) (i : Nat) : List O := match ops[i]? with
  | some o => (match tgtX (irOp P o), avoL ops i with
    | some x, y :: l => [{ dst := none, i := .avo (y :: l) x, g := (irO P N ops o).g }, irO P N ops o]
    | _, _ => [irO P N ops o])
  | none => []
/-- A load that is taken first: nothing that comes may change what it reads, and nothing its address. -/
def lateB (bar : Bool) (P : Program) (ops : Array Oper) (listed : Array Bool) (i : Nat) : Bool :=
  ((List.range ops.size).all fun j => j == i || extI bar (irAt P ops j) || isWI (irAt P ops j) || listed.getD j false || reachB ops ops.size j i) &&
  (match ldX ops i with
  | some (.tmp k) => (List.range ops.size).all fun j => listed.getD j false || !(((ops[j]?).bind (·.dst)) == some k)
  | _ => true)
/-- What makes a block of what temporaries hold; and what of it cannot go wrong. -/
def alI : I → Bool
  | .alloc _ | .box _ | .bsl .. | .mk .. => true
  | _ => false
def sureI : I → Bool
  | .alloc _ | .box _ => true
  | .bsl n len z parts => (n == 1) && (z.length == 1) && parts.all fun ix => Nat.blt ix.1 len && (match ix.2 with | .c v => oneV v | _ => false)
  | _ => false
def stAt (P : Program) (ops : Array Oper) (i : Nat) : Bool := isStI (irAt P ops i) && (match ops[i]? with | some o => o.dst.isNone | none => false)
/-- All but the one that is taken make blocks, and nothing that waits for those can come up ahead of it. -/
def okN (bar : Bool) (P : Program) (ops : Array Oper) (listed : Array Bool) (l : List Nat) (n : Nat) : Bool :=
  l.contains n && (extI bar (irAt P ops n) || stAt P ops n) && (l.all fun i => i == n || (alI (irAt P ops i) && Region.free .any ops listed i)) &&
  (alI (irAt P ops n) || stAt P ops n || (l.all fun i => i == n || sureI (irAt P ops i))) &&
  ((List.range ops.size).all fun k => listed.getD k true || l.contains k || (match ops[k]? with
    | some o => o.after.any fun e => Region.binds .any e && !listed.getD e.on false && (e.on == n || !l.contains e.on)
    | none => true))
/-- Several things can come up: which one is taken. -/
def pickN (bar : Bool) (P : Program) (ops : Array Oper) (listed : Array Bool) (l : List Nat) : Nat :=
  match l.find? fun i => !alI (irAt P ops i) with
  | some i => i
  | none => match l.find? fun i => !sureI (irAt P ops i) && okN bar P ops listed l i with
    | some i => i
    | none => (l.find? fun i => okN bar P ops listed l i).getD 0
def apartB (ops : Array Oper) (i j : Nat) : Bool := match ops[i]?, ops[j]? with | some oi, some oj => oi.apart ops oj | _, _ => false
/-- Those that may go wrong are taken before anything that can end the region. -/
def okF (P : Program) (ops : Array Oper) (l : List Nat) (n : Nat) (r : List Nat) : Bool :=
  l.all fun i => i == n || sureI (irAt P ops i) || ((n :: r.take (r.idxOf i + 1)).contains i && (n :: r.take (r.idxOf i + 1)).all fun j => (alI (irAt P ops j) || stAt P ops j) && (j == i || apartB ops i j))
/-- The one order into which a region that draws is brought: what is quiet first; what is not, only where nothing else can come up but what makes blocks. -/
def planA (bar : Bool) (P : Program) (ops : Array Oper) : Nat → Array Bool → Option (List Nat × List Nat)
  | 0, listed => if (Region.ready .any ops listed).isEmpty then some ([], []) else none
  | f + 1, listed =>
    match (Region.ready .any ops listed).find? fun i => quietI (irAt P ops i) && Region.free .any ops listed i && (!ldAt ops i || lateB bar P ops listed i) with
    | some i => (planA bar P ops f (listed.setIfInBounds i true)).map fun r => (i :: r.1, r.2)
    | none => match Region.ready .any ops listed with
      | [] => some ([], [])
      | [i] => bif extI bar (irAt P ops i) then (planA bar P ops f (listed.setIfInBounds i true)).map fun r => (i :: r.1, r.2) else (planB ops (f + 1) listed).map fun r => ([], r)
      | i :: j :: l => bif okN bar P ops listed (i :: j :: l) (pickN bar P ops listed (i :: j :: l)) then
          (match planA bar P ops f (listed.setIfInBounds (pickN bar P ops listed (i :: j :: l)) true) with
          | some r => bif okF P ops (i :: j :: l) (pickN bar P ops listed (i :: j :: l)) r.1 then some (pickN bar P ops listed (i :: j :: l) :: r.1, r.2) else none
          | none => none) else none
def noDefer (ops : Array Oper) : Bool := ops.all fun o => match o.op with | .defer .. => false | _ => true
def isRecI : I → Bool
  | .recover => true
  | _ => false
def noRec (P : Program) (ops : Array Oper) : Bool := ops.all fun o => !isRecI (irOp P o)
def plan (bar : Bool) (P : Program) (ops : Array Oper) : Option (List Nat × List Nat) :=
  if Region.noSelect ops && noDefer ops && noRec P ops then planA bar P ops ops.size (Array.replicate ops.size false) else none

def comp (P : Program) (N : Nat) : Code → C
  | .skip => .skip
  | .region _ ops false => bif ops.all (fun o => dstOk N o.dst) then .reg false false (ops.toList.map (irO P N ops)) else .bad
  | .region _ ops true => bif ops.all (fun o => dstOk N o.dst) then (match plan false P ops with
    | some (l, l') => .reg true false ((l ++ l').flatMap (seqO P N ops))
    | none => (match plan true P ops with
      | some (l, l') => .reg true true ((l ++ l').flatMap (seqO P N ops))
      | none => .bad)) else .bad
  | .seq a b => .seq (comp P N a) (comp P N b)
  | .cond c a b => .cond (opX c) (comp P N a) (comp P N b)
  | .block id c => .block id (comp P N c)
  | .loop c => .loop (comp P N c)
  | .rangeFunc x ps a b => .rfunc (opX x) ps.toList (comp P N a) (comp P N b)
  | .exit id => .exit id
  | .scope c => .scope (comp P N c)
  | .label l => .label l
  | .ret => .ret
  | _ => .bad

inductive RX where
  | tmp (k : Nat)
  | cell (k : Nat) (n : Option Nat)
  deriving Inhabited
structure Fn where
  N : Nat
  c : C
  rs : List RX
  p : Bool
  deriving Inhabited
def compR (P : Program) : ResultVar → RX
  | .tmp t => .tmp t
  | .cell a t => .cell a (aggN P t)
def resOk (P : Program) : ResultVar → Bool
  | .tmp _ => true
  | .cell _ t => tyOk P t
def compF (P : Program) (f : Nat) : Option Fn :=
  match P.funcs[f]? with
  | some fn => (match fn.body with
    | some c => bif !(fn.name == "runtime.NumGoroutine") && fn.results.toList.all (resOk P) then some ⟨fn.ntmps, comp P fn.ntmps c, fn.results.toList.map (compR P), false⟩ else none
    | none => none)
  | none => none
end Go.Mx
