/-
  A plain machine: values with addresses of its own, code with what it needs of the type table, one order for each region. Conditions: none.
-/
import Derived.OrdersHeld
import Derived.OrdersIn
import Derived.RangeFuncIn
import Derived.RecoverIn
import Derived.Below
import Derived.KernelRfl
namespace Go.Mx
open Go
inductive V where
  | lit (v : Value)
  | ptr (β o : Nat)
  | sl (β o n len : Nat) (cap : Option Nat)
  | clo (f : Nat) (first cap : List V)
  | yld (l : Nat)
  | ifc (t : TypeId) (v : V)
  | agg (vs : List V)
  | tup (vs : List V)
  deriving Inhabited
inductive X where
  | s (k : Nat)
  | c (v : Value)
  | f (f : Nat)
  deriving Inhabited
inductive I where
  | mov (x : X)
  | pick (c a b : X)
  | build (z : List Value) (parts : List (Nat × Nat × X))
  | load (n : Option Nat) (x : X)
  | fld (off : Nat) (x : X)
  | idxS (n : Nat) (x i : X)
  | idxA (n cnt : Nat) (x i : X)
  | idxV (n : Option Nat) (cnt : Nat) (x i : X)
  | part (n : Option Nat) (off : Nat) (x : X)
  | bin (op : BinOp) (x y : X)
  | eqb (neg : Bool) (x y : X)
  | eqn (neg : Bool) (x : X)
  | eqi (neg : Bool) (x : X)
  | eqp (neg : Bool) (x : X)
  | un (op : UnOp) (x : X)
  | conv (k : IntKind) (x : X)
  | len (x : X)
  | mm (isMax : Bool) (xs : List X)
  | ext (x : X) (i : Nat)
  | slc (n : Nat) (x : X) (lo hi mx : Option X)
  | slcA (n cnt : Nat) (x : X) (lo hi mx : Option X)
  | nilck (x : X)
  | clo (f : Nat) (first cap : List X)
  | mkI (t : TypeId) (x : X)
  | alloc (z : List Value)
  | box (x : X)
  | bsl (n len : Nat) (z : List Value) (parts : List (Nat × X))
  | store (n : Nat) (a x : X)
  | mk (n bytes : Nat) (z : List Value) (l c : X)
  | app (n bytes : Nat) (s x : X)
  | copy (n : Nat) (d s : X)
  | clr (n : Nat) (z : List Value) (x : X)
  | chr (l : List Nat) (i : X)
  | avo (xs : List X) (y : X)
  | call (f : Nat) (xs : List X)
  | zbb (x : X) (xs : List X)
  | panic (x : X)
  | defer (x : X) (xs : List X)
  | recover
  | bad
  deriving Inhabited
structure O where
  dst : Option Nat
  i : I
  g : Option (Nat × Bool)
  deriving Inhabited
inductive C where
  | skip
  | reg (dr bar : Bool) (ops : List O)
  | seq (a b : C)
  | cond (x : X) (a b : C)
  | block (id : Nat) (c : C)
  | loop (c : C)
  | zdf (x : X) (ps : List Nat) (assign body : C)
  | exit (id : Nat)
  | scope (c : C)
  | label (l : Nat)
  | ret
  | bad
  deriving Inhabited
def opX : Operand → X
  | .tmp k => .s k
  | .const v => .c v
  | .global g => .c (.pointer (some ⟨g, 0, none⟩))
  | .func f => .f f
def zdQ (P : Program) (t : TypeId) : Bool :=
  match P.underlying t with
  | some (.struct _) | some (.array _ _) => true
  | _ => false
def zb0 (P : Program) (t : TypeId) : Bool := (P.info? t).isSome && (P.underlying t).isSome
def zj4 (P : Program) (t : TypeId) : Option Nat := bif zdQ P t then some (P.cellsOf t) else none
def zeb (P : Program) (t : TypeId) : Option (List Value) := ((P.info? t).bind (·.zero)).map fun v => v.cells.toList
def zez : Value → Bool
  | .agg _ => false
  | .tuple _ => false
  | _ => true
def zf9 (P : Program) (c : Call) : I :=
  match c.callee with
  | .value (.func f) => bif (match P.funcs[f]? with | some fn => !(fn.name == "runtime.NumGoroutine") && fn.body.isSome | none => false) then .call f (c.args.toList.map opX) else .bad
  | .value (.tmp k) => .zbb (.s k) (c.args.toList.map opX)
  | .builtin b => (match b, c.argTypes.toList, c.args.toList with
    | .len, [t], [x] => (match P.underlying t with | some (.slice _) => .len (opX x) | _ => .bad)
    | .min, _, xs => .mm false (xs.map opX)
    | .max, _, xs => .mm true (xs.map opX)
    | .append, [t, t'], [x, y] => (match P.underlying t, P.underlying t' with
      | some (.slice el), some (.slice _) => bif zb0 P el && Nat.blt 0 (P.cellsOf el) && Nat.blt 0 (P.bytesOf el) then (match zeb P el with
        | some z => bif z.length == P.cellsOf el then .app (P.cellsOf el) (P.bytesOf el) (opX x) (opX y) else .bad
        | none => .bad) else .bad
      | _, _ => .bad)
    | .copy, [t, t'], [x, y] => (match P.underlying t, P.underlying t' with
      | some (.slice el), some (.slice _) => bif zb0 P el && Nat.blt 0 (P.cellsOf el) then .copy (P.cellsOf el) (opX x) (opX y) else .bad
      | _, _ => .bad)
    | .clear, [t], [x] => (match P.underlying t with
      | some (.slice el) => bif zb0 P el && Nat.blt 0 (P.cellsOf el) then (match zeb P el with
        | some z => bif z.all zez && (z.length == P.cellsOf el) then .clr (P.cellsOf el) z (opX x) else .bad
        | none => .bad) else .bad
      | _ => .bad)
    | .recover, _, [] => .recover
    | _, _, _ => .bad)
  | _ => .bad
def zau (P : Program) (o : Oper) : I :=
  match o.op with
  | .move x => .mov (opX x)
  | .assign x => .mov (opX x)
  | .pick c a b => .pick (opX c) (opX a) (opX b)
  | .alloc t => (match zeb P t with
    | some z => bif z.all zez then .alloc z else .bad
    | none => .bad)
  | .box _ x => .box (opX x)
  | .build t parts => (match zeb P t with
    | some z => bif z.all zez then (match P.underlying t with
      | some (.struct fs) => bif fs.all (fun f => zb0 P f.type) && parts.all (fun ix => Nat.blt ix.1 fs.size) then
          .build z (parts.toList.map fun ix => ((fs.getD ix.1 default).offset, P.cellsOf (fs.getD ix.1 default).type, opX ix.2)) else .bad
      | some (.array _ el) => bif zb0 P el then
          .build z (parts.toList.map fun ix => (ix.1 * P.cellsOf el, P.cellsOf el, opX ix.2)) else .bad
      | _ => .bad) else .bad
    | none => .bad)
  | .buildSlice t len parts => (match P.underlying t with
    | some (.slice el) => bif zb0 P el && Nat.blt 0 (P.cellsOf el) && Nat.ble (len * P.cellsOf el) 16777216 then (match zeb P el with
      | some z => bif z.all zez && (z.length == P.cellsOf el) then .bsl (P.cellsOf el) len z (parts.toList.map fun ix => (ix.1, opX ix.2)) else .bad
      | none => .bad) else .bad
    | _ => .bad)
  | .load t x => bif zb0 P t then .load (zj4 P t) (opX x) else .bad
  | .store t x y => bif zb0 P t then .store (P.cellsOf t) (opX x) (opX y) else .bad
  | .fieldAddr s x f => (match P.underlying s with
    | some (.struct fs) => (match fs[f]? with
      | some fd => (bif zb0 P fd.type && !(P.cellsOf fd.type == 0) then .fld fd.offset (opX x) else .bad)
      | none => .bad)
    | _ => .bad)
  | .field s x f => (match P.underlying s with
    | some (.struct fs) => (match fs[f]? with
      | some fd => (bif zb0 P fd.type then .part (zj4 P fd.type) fd.offset (opX x) else .bad)
      | none => .bad)
    | _ => .bad)
  | .indexAddr t x i => (match P.underlying t with
    | some (.slice el) => bif zb0 P el then .idxS (P.cellsOf el) (opX x) (opX i) else .bad
    | some (.array cnt el) => bif zb0 P el && !(P.cellsOf el == 0) then .idxA (P.cellsOf el) cnt (opX x) (opX i) else .bad
    | _ => .bad)
  | .index t x i => (match P.underlying t with
    | some (.array cnt el) => bif zb0 P el && !(P.cellsOf el == 0) && (zdQ P el || (P.cellsOf el == 1)) then .idxV (zj4 P el) cnt (opX x) (opX i) else .bad
    | some .string => (match x with
      | .const (.string s) => .chr (s.data.toList.map (·.toNat)) (opX i)
      | _ => .bad)
    | _ => .bad)
  | .makeFunc (.func f) first cap => .clo f (first.toList.map opX) (cap.toList.map opX)
  | .makeInterface t x => (match P.underlying t with
    | some (.struct _) => .mkI t (opX x)
    | _ => .bad)
  | .panic x => .panic (opX x)
  | .binOp op t x y _ => (match P.underlying t with
    | some (.int _) => .bin op (opX x) (opX y)
    | some .bool => (match op with
      | .eql => .eqb false (opX x) (opX y)
      | .neq => .eqb true (opX x) (opX y)
      | _ => .bad)
    | some (.slice _) => (match y, op with
      | .const (.slice none 0 0), .eql => .eqn false (opX x)
      | .const (.slice none 0 0), .neq => .eqn true (opX x)
      | _, _ => .bad)
    | some (.interface _) => (match y, op with
      | .const .nilIface, .eql => .eqi false (opX x)
      | .const .nilIface, .neq => .eqi true (opX x)
      | _, _ => .bad)
    | some (.pointer _) => (match y, op with
      | .const (.pointer none), .eql => .eqp false (opX x)
      | .const (.pointer none), .neq => .eqp true (opX x)
      | _, _ => .bad)
    | _ => .bad)
  | .unOp op _ x => .un op (opX x)
  | .convert a b x => (match P.underlying a, P.underlying b with
    | some (.int _), some (.int k) => .conv k (opX x)
    | _, _ => .bad)
  | .extract x i => .ext (opX x) i
  | .makeSlice t l c => (match P.underlying t with
    | some (.slice el) => bif zb0 P el && Nat.blt 0 (P.cellsOf el) && Nat.blt 0 (P.bytesOf el) then (match zeb P el with
      | some z => bif z.all zez && (z.length == P.cellsOf el) then .mk (P.cellsOf el) (P.bytesOf el) z (opX l) (opX c) else .bad
      | none => .bad) else .bad
    | _ => .bad)
  | .slice t x lo hi mx => (match P.underlying t with
    | some (.slice el) => bif zb0 P el then .slc (P.cellsOf el) (opX x) (lo.map opX) (hi.map opX) (mx.map opX) else .bad
    | some (.array cnt el) => bif zb0 P el then .slcA (P.cellsOf el) cnt (opX x) (lo.map opX) (hi.map opX) (mx.map opX) else .bad
    | _ => .bad)
  | .nilCheck x => .nilck (opX x)
  | .call c => zf9 P c
  | .defer c => (match c.callee with
    | .value x => .defer (opX x) (c.args.toList.map opX)
    | _ => .bad)
  | _ => .bad
def zah : I → Bool
  | .mov _ | .pick .. | .build .. | .load .. | .fld .. | .idxS .. | .idxA .. | .idxV .. | .part .. | .bin .. | .eqb .. | .eqn .. | .eqi .. | .eqp .. | .un .. | .conv .. | .len _ | .mm .. | .ext .. | .slc .. | .slcA .. | .nilck _ | .clo .. | .mkI .. | .avo .. | .chr .. => true
  | _ => false
def zfL (N : Nat) : Option Nat → Bool
  | some d => Nat.blt d N
  | none => true
def irO (P : Program) (N : Nat) (ops : Array Oper) (o : Oper) : O :=
  { dst := o.dst
    i := zau P o
    g := match o.guard with
      | none => none
      | some (j, want) => some (((ops[j]?).bind (·.dst)).getD N, want) }
def zeO (bar : Bool) : I → Bool
  | .alloc .. | .box .. | .bsl .. | .mk .. => true
  | .call .. | .zbb .. => bar
  | i => zah i
def zcA (P : Program) (ops : Array Oper) (i : Nat) : I := match ops[i]? with | some o => zau P o | none => .bad
def zjX (ops : Array Oper) : Nat → Array Bool → Option (List Nat)
  | 0, listed => if (Region.ready .any ops listed).isEmpty then some [] else none
  | f + 1, listed =>
    match Region.ready .any ops listed with
    | [] => some []
    | [i] => (zjX ops f (listed.setIfInBounds i true)).map (i :: ·)
    | _ => none
def zcE (ops : Array Oper) : Nat → Nat → Nat → Bool
  | 0, _, _ => false
  | f + 1, j, i => match ops[j]? with
    | some oj => oj.after.any fun ed => Region.binds .any ed && (ed.on == i || zcE ops f ed.on i)
    | none => false
def zvS (o : Oper) : Bool := match o.op with | .load .. => true | _ => false
def ztc (ops : Array Oper) (i : Nat) : Bool := match ops[i]? with | some o => zvS o | none => true
def zmC : I → Option X
  | .store _ x _ | .app _ _ x _ | .copy _ x _ | .clr _ _ x => some x
  | _ => none
def zvD (i : I) : Bool := (zmC i).isSome
def zj7 : I → Bool
  | .store .. => true
  | _ => false
def ldX (ops : Array Oper) (i : Nat) : Option Operand := match ops[i]? with
  | some o => (match o.op with | .load _ x => some x | _ => none)
  | none => none
def zoY (ops : Array Oper) (j : Nat) : List X := (List.range ops.size).filterMap fun i => bif zcE ops ops.size j i || zcE ops ops.size i j then none else (ldX ops i).map opX
def zkx (P : Program) (N : Nat) (ops : Array Oper) (i : Nat) : List O := match ops[i]? with
  | some o => (match zmC (zau P o), zoY ops i with
    | some x, y :: l => [{ dst := none, i := .avo (y :: l) x, g := (irO P N ops o).g }, irO P N ops o]
    | _, _ => [irO P N ops o])
  | none => []
def zpW (bar : Bool) (P : Program) (ops : Array Oper) (listed : Array Bool) (i : Nat) : Bool :=
  ((List.range ops.size).all fun j => j == i || zeO bar (zcA P ops j) || zvD (zcA P ops j) || listed.getD j false || zcE ops ops.size j i) &&
  (match ldX ops i with
  | some (.tmp k) => (List.range ops.size).all fun j => listed.getD j false || !(((ops[j]?).bind (·.dst)) == some k)
  | _ => true)
def alI : I → Bool
  | .alloc _ | .box _ | .bsl .. | .mk .. => true
  | _ => false
def zin : I → Bool
  | .alloc _ | .box _ => true
  | .bsl n len z parts => (n == 1) && (z.length == 1) && parts.all fun ix => Nat.blt ix.1 len && (match ix.2 with | .c v => zez v | _ => false)
  | _ => false
def zme (P : Program) (ops : Array Oper) (i : Nat) : Bool := zj7 (zcA P ops i) && (match ops[i]? with | some o => o.dst.isNone | none => false)
def okN (bar : Bool) (P : Program) (ops : Array Oper) (listed : Array Bool) (l : List Nat) (n : Nat) : Bool :=
  l.contains n && (zeO bar (zcA P ops n) || zme P ops n) && (l.all fun i => i == n || (alI (zcA P ops i) && Region.free .any ops listed i)) &&
  (alI (zcA P ops n) || zme P ops n || (l.all fun i => i == n || zin (zcA P ops i))) &&
  ((List.range ops.size).all fun k => listed.getD k true || l.contains k || (match ops[k]? with
    | some o => o.after.any fun e => Region.binds .any e && !listed.getD e.on false && (e.on == n || !l.contains e.on)
    | none => true))
def zie (bar : Bool) (P : Program) (ops : Array Oper) (listed : Array Bool) (l : List Nat) : Nat :=
  match l.find? fun i => !alI (zcA P ops i) with
  | some i => i
  | none => match l.find? fun i => !zin (zcA P ops i) && okN bar P ops listed l i with
    | some i => i
    | none => (l.find? fun i => okN bar P ops listed l i).getD 0
def zlQ (ops : Array Oper) (i j : Nat) : Bool := match ops[i]?, ops[j]? with | some oi, some oj => oi.apart ops oj | _, _ => false
def okF (P : Program) (ops : Array Oper) (l : List Nat) (n : Nat) (r : List Nat) : Bool :=
  l.all fun i => i == n || zin (zcA P ops i) || ((n :: r.take (r.idxOf i + 1)).contains i && (n :: r.take (r.idxOf i + 1)).all fun j => (alI (zcA P ops j) || zme P ops j) && (j == i || zlQ ops i j))
def zd9 (bar : Bool) (P : Program) (ops : Array Oper) : Nat → Array Bool → Option (List Nat × List Nat)
  | 0, listed => if (Region.ready .any ops listed).isEmpty then some ([], []) else none
  | f + 1, listed =>
    match (Region.ready .any ops listed).find? fun i => zah (zcA P ops i) && Region.free .any ops listed i && (!ztc ops i || zpW bar P ops listed i) with
    | some i => (zd9 bar P ops f (listed.setIfInBounds i true)).map fun r => (i :: r.1, r.2)
    | none => match Region.ready .any ops listed with
      | [] => some ([], [])
      | [i] => bif zeO bar (zcA P ops i) then (zd9 bar P ops f (listed.setIfInBounds i true)).map fun r => (i :: r.1, r.2) else (zjX ops (f + 1) listed).map fun r => ([], r)
      | i :: j :: l => bif okN bar P ops listed (i :: j :: l) (zie bar P ops listed (i :: j :: l)) then
          (match zd9 bar P ops f (listed.setIfInBounds (zie bar P ops listed (i :: j :: l)) true) with
          | some r => bif okF P ops (i :: j :: l) (zie bar P ops listed (i :: j :: l)) r.1 then some (zie bar P ops listed (i :: j :: l) :: r.1, r.2) else none
          | none => none) else none
def zgJ (ops : Array Oper) : Bool := ops.all fun o => match o.op with | .defer .. => false | _ => true
def znm : I → Bool
  | .recover => true
  | _ => false
def zth (P : Program) (ops : Array Oper) : Bool := ops.all fun o => !znm (zau P o)
def zsJ (bar : Bool) (P : Program) (ops : Array Oper) : Option (List Nat × List Nat) :=
  if Region.noSelect ops && zgJ ops && zth P ops then zd9 bar P ops ops.size (Array.replicate ops.size false) else none
def comp (P : Program) (N : Nat) : Code → C
  | .skip => .skip
  | .region _ ops false => bif ops.all (fun o => zfL N o.dst) then .reg false false (ops.toList.map (irO P N ops)) else .bad
  | .region _ ops true => bif ops.all (fun o => zfL N o.dst) then (match zsJ false P ops with
    | some (l, l') => .reg true false ((l ++ l').flatMap (zkx P N ops))
    | none => (match zsJ true P ops with
      | some (l, l') => .reg true true ((l ++ l').flatMap (zkx P N ops))
      | none => .bad)) else .bad
  | .seq a b => .seq (comp P N a) (comp P N b)
  | .cond c a b => .cond (opX c) (comp P N a) (comp P N b)
  | .block id c => .block id (comp P N c)
  | .loop c => .loop (comp P N c)
  | .rangeFunc x ps a b => .zdf (opX x) ps.toList (comp P N a) (comp P N b)
  | .exit id => .exit id
  | .scope c => .scope (comp P N c)
  | .label l => .label l
  | .ret => .ret
  | _ => .bad
inductive RX where
  | tmp (k : Nat)
  | cell (k : Nat) (n : Option Nat)
  deriving Inhabited
structure Fn where
  N : Nat
  c : C
  rs : List RX
  p : Bool
  deriving Inhabited
def zjr (P : Program) : ResultVar → RX
  | .tmp t => .tmp t
  | .cell a t => .cell a (zj4 P t)
def zi8 (P : Program) : ResultVar → Bool
  | .tmp _ => true
  | .cell _ t => zb0 P t
def ziB (P : Program) (f : Nat) : Option Fn :=
  match P.funcs[f]? with
  | some fn => (match fn.body with
    | some c => bif !(fn.name == "runtime.NumGoroutine") && fn.results.toList.all (zi8 P) then some ⟨fn.ntmps, comp P fn.ntmps c, fn.results.toList.map (zjr P), false⟩ else none
    | none => none)
  | none => none
end Go.Mx
