/-
  The plain machine runs: what each operation yields, what code does to a state. Conditions: none.
-/
import Derived.Test.YtobhjbbinnbdaaaNnMx1
namespace Go.Mx
open Go
inductive Jump where
  | ret
  | exit (id : Nat)
  deriving Inhabited
inductive Ob where
  | blk (cs : List V)
  | loop (st : Bool) (pend : Option Jump) (env : List V) (ps : List Nat) (assign body : C)
  | dfr
  | dead
  deriving Inhabited
abbrev zaj := List Ob
inductive Df where
  | coll (d : Nat)
  | fn (f : Nat) (args : List V)
  deriving Inhabited
structure St where
  env : List V
  dfs : List Df
  heap : zaj
  deriving Inhabited
inductive Ex where
  | normal
  | exit (id : Nat)
  | ret
  | panic (v : V) (e : Bool)
  deriving Inhabited
inductive CR where
  | ret (v : V)
  | pan (v : V)
  deriving Inhabited
def zaF : V := .lit (.tuple #[])
def ev (env : List V) : X → Option V
  | .c v => some (.lit v)
  | .s k => env[k]?
  | .f f => some (.clo f [] [])
def evs (env : List V) : List X → Option (List V)
  | [] => some []
  | x :: r => match ev env x, evs env r with
    | some v, some vs => some (v :: vs)
    | _, _ => none
def evI (env : List V) (x : X) : Option Int :=
  match ev env x with
  | some (.lit (.int _ n)) => some n
  | _ => none
def evB (env : List V) (x : X) : Option Bool :=
  match ev env x with
  | some (.lit (.bool b)) => some b
  | _ => none
def zmi (env : List V) : Option X → Option (Option Int)
  | none => some none
  | some x => (evI env x).map some
def zaD (h : zaj) (β : Nat) : Option (List V) :=
  match h[β]? with
  | some (.blk cs) => some cs
  | _ => none
def V.cells : V → Option (List V)
  | .lit v => bif zez v then some [.lit v] else none
  | .agg vs => some vs
  | .tup _ => none
  | v => some [v]
def V.one : V → Bool
  | .lit v => zez v
  | .agg _ => false
  | .tup _ => false
  | _ => true
def slot (o n : Nat) (cs : List V) : Option (List V) := bif Nat.ble (o + n) cs.length then some ((cs.drop o).take n) else none
def takeN (cs : List V) (o : Nat) : Option Nat → Option V
  | none => cs[o]?
  | some n => (slot o n cs).map .agg
def za1 (cs : List V) (off : Nat) (ns : List V) : List V := cs.take off ++ ns ++ cs.drop (off + ns.length)
def zdW (env : List V) (cs : List V) : List (Nat × Nat × X) → Option (List V)
  | [] => some cs
  | (off, n, x) :: r => match (ev env x).bind V.cells with
    | some l => bif (l.length == n) && Nat.ble (off + n) cs.length then zdW env (za1 cs off l) r else none
    | none => none
def zaI (op : BinOp) (k : IntKind) (m n : Int) : Option Value :=
  match op with
  | .add => some (.int k (k.wrap (m + n)))
  | .sub => some (.int k (k.wrap (m - n)))
  | .mul => some (.int k (k.wrap (m * n)))
  | .quo => bif n == 0 then none else some (.int k (k.wrap (m.tdiv n)))
  | .rem => bif n == 0 then none else some (.int k (m.tmod n))
  | .and => some (.int k (k.wrap (BitVec.ofInt k.bits m &&& BitVec.ofInt k.bits n).toNat))
  | .or => some (.int k (k.wrap (BitVec.ofInt k.bits m ||| BitVec.ofInt k.bits n).toNat))
  | .xor => some (.int k (k.wrap (BitVec.ofInt k.bits m ^^^ BitVec.ofInt k.bits n).toNat))
  | .andNot => some (.int k (k.wrap (BitVec.ofInt k.bits m &&& ~~~ BitVec.ofInt k.bits n).toNat))
  | .eql => some (.bool (m == n))
  | .neq => some (.bool (m != n))
  | .lss => some (.bool (decide (m < n)))
  | .leq => some (.bool (decide (m ≤ n)))
  | .gtr => some (.bool (decide (n < m)))
  | .geq => some (.bool (decide (n ≤ m)))
  | .shl | .shr => none
def ziJ (op : BinOp) : V → V → Option V
  | .lit (.int k m), .lit (.int k' n) =>
    match op with
    | .shl => bif decide (0 ≤ n) then some (.lit (.int k (k.wrap (m * 2 ^ (min n.toNat k.bits))))) else none
    | .shr => bif decide (0 ≤ n) then some (.lit (.int k (m.fdiv (2 ^ (min n.toNat k.bits))))) else none
    | op => bif k == k' then (zaI op k m n).map .lit else none
  | _, _ => none
def unV (op : UnOp) : V → Option V
  | .lit (.int k m) => (match op with
    | .neg => some (.lit (.int k (k.wrap (0 - m))))
    | .xor => (zaI .xor k (if k.signed then -1 else k.max) m).map .lit
    | _ => none)
  | .lit (.bool b) => (match op with
    | .not => some (.lit (.bool !b))
    | _ => none)
  | _ => none
def mm2 (isMax : Bool) : V → V → Option V
  | .lit (.int k m), .lit (.int k' n) => bif k == k' then some (.lit (.int k (bif isMax then (if n > m then n else m) else (if n < m then n else m)))) else none
  | _, _ => none
def mms (isMax : Bool) (x : V) : List V → Option V
  | [] => some x
  | y :: r => match mm2 isMax x y with
    | some z => mms isMax z r
    | none => none
def ztY : V → Option V
  | .sl _ _ _ len _ => some (.lit (.int .i64 len))
  | .lit (.slice none 0 0) => some (.lit (.int .i64 0))
  | _ => none
def zdR (len : Nat) : Option Nat → Int
  | some c => c
  | none => len
def bounds (len : Nat) (cap : Option Nat) (lo hi mx : Option Int) : Option (Nat × Nat × Option Nat) :=
  match mx with
  | none => bif decide (0 ≤ lo.getD 0) && decide (lo.getD 0 ≤ hi.getD len) && decide (hi.getD len ≤ zdR len cap) then some ((lo.getD 0).toNat, (hi.getD len).toNat, cap.map (· - (lo.getD 0).toNat)) else none
  | some m => bif hi.isSome && decide (0 ≤ lo.getD 0) && decide (lo.getD 0 ≤ hi.getD len) && decide (hi.getD len ≤ m) && decide (m ≤ zdR len cap) then some ((lo.getD 0).toNat, (hi.getD len).toNat, some (m.toNat - (lo.getD 0).toNat)) else none
def zoc (n : Nat) (lo hi mx : Option Int) : V → Option V
  | .sl β o n' len cap => bif n == n' then (bounds len cap lo hi mx).map fun (l, h, c) => .sl β (o + l * n) n (h - l) c else none
  | .lit (.slice none 0 0) => (bounds 0 (some 0) lo hi mx).map fun _ => .lit (.slice none 0 0)
  | _ => none
def zos (blk : Nat → Option (List V)) (n : Nat) (lo hi mx : Option Int) : V → Option V
  | .sl β o n' len none => (match mx, hi, blk β with
    | none, some x, some cs => bif (n == n') && decide (0 ≤ lo.getD 0) && decide (lo.getD 0 ≤ x) && Nat.ble (o + x.toNat * n) cs.length then some (.sl β (o + (lo.getD 0).toNat * n) n (x.toNat - (lo.getD 0).toNat) none) else none
    | _, _, _ => none)
  | _ => none
def ztG (blk : Nat → Option (List V)) (n : Nat) (lo hi mx : Option Int) (v : V) : Option V :=
  match zoc n lo hi mx v with
  | some r => some r
  | none => zos blk n lo hi mx v
theorem zjl {blk : Nat → Option (List V)} {n : Nat} {lo hi mx : Option Int} {v r : V} (h : zoc n lo hi mx v = some r) : ztG blk n lo hi mx v = some r := by unfold ztG; rw [h]
def zu2 (h : zaj) (β n : Nat) : Bool :=
  match zaD h β with
  | some cs => Nat.ble n cs.length
  | none => false
def zmR : V → Option Nat
  | .ptr β _ => some β
  | .sl β .. => some β
  | _ => none
def zrG (h : zaj) (env : List V) (β : Nat) (x : X) : Bool := match ev env x with
  | some (.ptr γ _) => (zaD h γ).isSome && !(γ == β)
  | _ => false
def zmG (h : zaj) (env : List V) (xs : List X) (y : X) : Bool := match ev env y with
  | some v => (match zmR v with
    | some β => xs.all (zrG h env β)
    | none => true)
  | none => false
def q (h : zaj) (env : List V) : I → Option V
  | .mov x => ev env x
  | .avo xs y => bif zmG h env xs y then some zaF else none
  | .pick c a b => (match evB env c with
    | some true => ev env a
    | some false => ev env b
    | none => none)
  | .build z parts => (zdW env (z.map .lit) parts).map .agg
  | .load n x => (match ev env x with
    | some (.ptr β o) => (zaD h β).bind fun cs => takeN cs o n
    | _ => none)
  | .fld off x => (match ev env x with
    | some (.ptr β o) => some (.ptr β (o + off))
    | _ => none)
  | .idxS n x i => (match ev env x, evI env i with
    | some (.sl β o n' len _), some m => bif (n == n') && decide (0 ≤ m) && decide (m < len) then some (.ptr β (o + m.toNat * n)) else none
    | _, _ => none)
  | .idxA n cnt x i => (match ev env x, evI env i with
    | some (.ptr β o), some m => bif decide (0 ≤ m) && decide (m < cnt) then some (.ptr β (o + m.toNat * n)) else none
    | _, _ => none)
  | .idxV n cnt x i => (match ev env x, evI env i with
    | some (.agg vs), some m => bif decide (0 ≤ m) && decide (m < cnt) then takeN vs (m.toNat * n.getD 1) n else none
    | _, _ => none)
  | .part n off x => (match ev env x with
    | some (.agg vs) => takeN vs off n
    | _ => none)
  | .bin op x y => (match ev env x, ev env y with
    | some v, some v' => ziJ op v v'
    | _, _ => none)
  | .eqb neg x y => (match evB env x, evB env y with
    | some a, some b => some (.lit (.bool (bif neg then !(a == b) else (a == b))))
    | _, _ => none)
  | .eqn neg x => (match ev env x with
    | some (.lit (.slice none 0 0)) => some (.lit (.bool !neg))
    | some (.sl ..) => some (.lit (.bool neg))
    | _ => none)
  | .eqi neg x => (match ev env x with
    | some (.lit .nilIface) => some (.lit (.bool !neg))
    | some (.ifc ..) => some (.lit (.bool neg))
    | _ => none)
  | .eqp neg x => (match ev env x with
    | some (.lit (.pointer none)) => some (.lit (.bool !neg))
    | some (.ptr ..) => some (.lit (.bool neg))
    | _ => none)
  | .un op x => (ev env x).bind (unV op)
  | .conv k x => (match evI env x with
    | some m => some (.lit (.int k (k.wrap m)))
    | none => none)
  | .len x => (ev env x).bind ztY
  | .mm b xs => (match evs env xs with
    | some (v :: vs) => mms b v vs
    | _ => none)
  | .ext x i => (match ev env x with
    | some (.tup vs) => vs[i]?
    | _ => none)
  | .slc n x lo hi mx => (match ev env x, zmi env lo, zmi env hi, zmi env mx with
    | some v, some l, some hh, some m => ztG (zaD h) n l hh m v
    | _, _, _, _ => none)
  | .slcA n cnt x lo hi mx => (match ev env x, zmi env lo, zmi env hi, zmi env mx with
    | some (.ptr β o), some l, some hh, some m => bif Nat.blt 0 n && Nat.blt cnt (2 ^ 63) && zu2 h β (o + cnt * n) then (bounds cnt (some cnt) l hh m).map fun (l, hh, c) => .sl β (o + l * n) n (hh - l) c else none
    | _, _, _, _ => none)
  | .nilck x => (match ev env x with
    | some (.ptr β o) => some (.ptr β o)
    | some (.clo f a b) => some (.clo f a b)
    | _ => none)
  | .clo f first cap => (match evs env first, evs env cap with
    | some vs, some vs' => some (.clo f vs vs')
    | _, _ => none)
  | .mkI t x => (ev env x).map (.ifc t)
  | .chr l i => (match evI env i with
    | some m => bif decide (0 ≤ m) then (l[m.toNat]?).map fun b : Nat => V.lit (.int .u8 (b : Int)) else none
    | none => none)
  | _ => none
def zdT (h : zaj) (n : Nat) : V → Option (Nat × List V)
  | .lit (.slice none 0 0) => some (0, [])
  | .sl β o n' len _ => bif n == n' then (bif len == 0 then some (0, []) else ((zaD h β).bind (slot o (len * n))).map fun l => (len, l)) else none
  | _ => none
def zgN (env : List V) (n : Nat) (cs : List V) : List (Nat × X) → Option (List V)
  | [] => some cs
  | (i, x) :: r => match (ev env x).bind V.cells with
    | some l => bif (l.length == n) && Nat.ble (i * n + n) cs.length then zgN env n (za1 cs (i * n) l) r else none
    | none => none
def zhL (n : Nat) (z : List V) : List V := (List.replicate n z).flatten
def zal : Nat := 140737488355328
def eff (B : Nat) (h : zaj) (env : List V) : I → Option (V × zaj)
  | .alloc z => some (.ptr h.length 0, h ++ [.blk (z.map .lit)])
  | .box x => (match (ev env x).bind V.cells with
    | some l => some (.ptr h.length 0, h ++ [.blk l])
    | none => none)
  | .bsl n len z parts => (match zgN env n (zhL len (z.map .lit)) parts with
    | some cs => some (.sl h.length 0 n len (some len), h ++ [.blk cs])
    | none => none)
  | .store n a x => (match ev env a, (ev env x).bind V.cells with
    | some (.ptr β o), some l => (match zaD h β with
      | some cs => bif Nat.ble B β && (l.length == n) && Nat.ble (o + n) cs.length then some (zaF, h.set β (.blk (za1 cs o l))) else none
      | none => none)
    | _, _ => none)
  | .mk n bytes z l c => (match evI env l, evI env c with
    | some l, some c => bif decide (0 ≤ l) && decide (l ≤ c) && decide (c * bytes ≤ zal) then
        some (.sl h.length 0 n l.toNat (some c.toNat), h ++ [.blk (zhL c.toNat (z.map .lit))]) else none
    | _, _ => none)
  | .app n bytes s x => (match ev env s, (ev env x).bind (zdT h n) with
    | some (.lit (.slice none 0 0)), some (k, l) =>
      bif k == 0 then some (.lit (.slice none 0 0), h) else
      bif Nat.ble (k * bytes) zal then some (.sl h.length 0 n k none, h ++ [.blk l]) else none
    | some (.sl β o n' len cap), some (k, l) =>
      bif !(n == n') then none else
      bif k == 0 then some (.sl β o n len cap, h) else
      (match zaD h β, cap with
      | some cs, some c =>
        bif Nat.ble (len + k) c then (bif Nat.ble B β && Nat.ble (o + (len + k) * n) cs.length then some (.sl β o n (len + k) cap, h.set β (.blk (za1 cs (o + len * n) l))) else none)
        else bif Nat.ble (o + len * n) cs.length && Nat.ble ((len + k) * bytes) zal then some (.sl h.length 0 n (len + k) none, h ++ [.blk ((cs.drop o).take (len * n) ++ l)]) else none
      | some cs, none =>
        bif Nat.ble (o + (len + k) * n) cs.length then (bif Nat.ble B β then some (.sl β o n (len + k) none, h.set β (.blk (za1 cs (o + len * n) l))) else none)
        else bif Nat.ble B β && (o + len * n == cs.length) && Nat.ble ((len + k) * bytes) zal then some (.sl h.length 0 n (len + k) none, h.set β .dead ++ [.blk (cs.drop o ++ l)]) else none
      | none, _ => none)
    | _, _ => none)
  | .copy n d s => (match ev env d, ev env s with
    | some (.sl β o n' len _), some w => (match zdT h n w with
      | some (k, l) => (match zaD h β with
        | some cs => bif (n == n') && Nat.ble B β && Nat.ble (o + min k len * n) cs.length then
            some (.lit (.int .i64 (min k len : Nat)), h.set β (.blk (za1 cs o (l.take (min k len * n))))) else none
        | none => none)
      | none => none)
    | _, _ => none)
  | .clr n z x => (match ev env x with
    | some (.lit (.slice none 0 0)) => some (zaF, h)
    | some (.sl β o n' len _) => bif !(n == n') then none else
      bif len == 0 then some (zaF, h) else
      (match zaD h β with
      | some cs => bif Nat.ble B β && Nat.ble (o + len * n) cs.length then some (zaF, h.set β (.blk (za1 cs o (zhL len (z.map .lit))))) else none
      | none => none)
    | _ => none)
  | _ => none
structure Rec where
  code : Nat → Option Nat → C → St → Option (Ex × St)
  call : Nat → Nat → List V → zaj → Option (CR × zaj)
  dcall : Nat → Nat → List V → Option V → zaj → Option (Option V × zaj)
def St.put (S : St) (d : Option Nat) (v : V) : St :=
  match d with
  | some k => { S with env := S.env.set k v }
  | none => S
def wanted (env : List V) : Option (Nat × Bool) → Bool
  | none => true
  | some (k, want) => match env[k]? with
    | some (.lit (.bool b)) => b == want
    | _ => false
def zei (env : List V) : List Nat → List V → Option (List V)
  | [], [] => some env
  | p :: ps, v :: vs => zei (env.set p v) ps vs
  | _, _ => none
def znh : Jump → Ex
  | .ret => .ret
  | .exit id => .exit id
def zcp (h : zaj) (l : Nat) (st : Bool) (pend : Option Jump) : Option zaj :=
  match h[l]? with
  | some (.loop _ _ env ps asg body) => some (h.set l (.loop st pend env ps asg body))
  | _ => none
def za6 (l : Nat) : Option (Ex × St) → Option (CR × zaj)
  | some (.normal, ⟨_, [], h⟩) => (zcp h l true none).map fun h' => (.ret (.lit (.bool true)), h')
  | some (.ret, ⟨_, [], h⟩) => (zcp h l false (some .ret)).map fun h' => (.ret (.lit (.bool false)), h')
  | some (.exit id, ⟨_, [], h⟩) => (zcp h l false (some (.exit id))).map fun h' => (.ret (.lit (.bool false)), h')
  | _ => none
def round (r : Rec) (B l : Nat) (vs : List V) (h : zaj) : Option (CR × zaj) :=
  match h[l]? with
  | some (.loop true none env ps asg body) => bif Nat.ble B l then (match zei env ps vs with
    | some env' => (match r.code B (some l) asg ⟨env', [], h⟩ with
      | some (.normal, ⟨env1, [], h1⟩) => (match h1[l]? with
        | some (.loop true none e1 p1 a1 b1) => za6 l (r.code B (some l) body ⟨env1, [], h1.set l (.loop false none e1 p1 a1 b1)⟩)
        | _ => none)
      | _ => none)
    | none => none) else none
  | _ => none
def zje (r : Rec) (B : Nat) (v : V) (vs : List V) (h : zaj) : Option (CR × zaj) :=
  match v with
  | .clo f first cap => r.call B f (first ++ vs ++ cap) h
  | .yld l => round r B l vs h
  | _ => none
def zj3 (e : Bool) (o : O) (S : St) (x : Option (CR × zaj)) (k : St → Option (Ex × St)) : Option (Ex × St) :=
  match x with
  | some (.ret v, h) => k ({ S with heap := h }.put o.dst v)
  | some (.pan v, h) => some (.panic v e, { S with heap := h })
  | none => none
def zbT (r : Rec) (B : Nat) (bar top e : Bool) (S : St) (o : O) (k : St → Option (Ex × St)) : Option (Ex × St) :=
  match wanted S.env o.g with
  | false => k (S.put o.dst zaF)
  | true => match o.i with
    | .call f xs => (match evs S.env xs with
      | some vs => zj3 e o S (r.call (bif bar then S.heap.length else B) f vs S.heap) k
      | none => none)
    | .zbb x xs => (match ev S.env x, evs S.env xs with
      | some v, some vs => zj3 e o S (zje r (bif bar then S.heap.length else B) v vs S.heap) k
      | _, _ => none)
    | .panic x => (match ev S.env x with
      | some (.ifc t v) => some (.panic (.ifc t v) e, S)
      | _ => none)
    | .defer x xs => (match ev S.env x, evs S.env xs with
      | some (.clo f first cap), some vs => bif top then k ({ S with dfs := .fn f (first ++ vs ++ cap) :: S.dfs }.put o.dst zaF) else none
      | _, _ => none)
    | i => bif zah i then (match q S.heap S.env i with
        | some v => k (S.put o.dst v)
        | none => none)
      else (match eff B S.heap S.env i with
        | some (v, h) => k ({ S with heap := h }.put o.dst v)
        | none => none)
def zaE (r : Rec) (B : Nat) (bar top e : Bool) : List O → St → Option (Ex × St)
  | [], S => some (.normal, S)
  | o :: l, S => zbT r B bar top e S o (zaE r B bar top e l)
def zm2 (rd : Option Nat) (h : zaj) : Bool :=
  match rd with
  | none => true
  | some l => match h[l]? with
    | some (.loop ..) => true
    | _ => false
def zbi (rd : Option Nat) (S : St) : zaj := match rd with | none => S.heap ++ [.dfr] | some _ => S.heap
def zfz (rd : Option Nat) (S : St) : List Df := match rd with | none => .coll S.heap.length :: S.dfs | some _ => S.dfs
def exec (r : Rec) (B : Nat) (rd : Option Nat) : C → St → Option (Ex × St)
  | .skip, S => some (.normal, S)
  | .label _, S => some (.normal, S)
  | .reg dr bar os, S => zaE r B bar rd.isNone (!dr) os S
  | .seq a b, S => (match exec r B rd a S with
    | some (.normal, S') => exec r B rd b S'
    | x => x)
  | .cond x a b, S => (match evB S.env x with
    | some true => exec r B rd a S
    | some false => exec r B rd b S
    | none => none)
  | .block id c, S => (match exec r B rd c S with
    | some (.exit id', S') => bif id' == id then some (.normal, S') else some (.exit id', S')
    | x => x)
  | .loop c, S => (match exec r B rd c S with
    | some (.normal, S') => r.code B rd (.loop c) S'
    | x => x)
  | .scope c, S => exec r B rd c S
  | .exit id, S => some (.exit id, S)
  | .ret, S => some (.ret, S)
  | .zdf x ps asg body, S => (match ev S.env x with
    | some (.clo gf first cap) =>
      bif !(zm2 rd S.heap) then none else
      (match r.call B gf (first ++ [.yld (zbi rd S).length] ++ cap) (zbi rd S ++ [.loop true none S.env ps asg body]) with
      | some (.ret _, h) => (match h[(zbi rd S).length]? with
        | some (.loop true none _ _ _ _) => some (.normal, ⟨S.env, zfz rd S, h.set (zbi rd S).length .dead⟩)
        | some (.loop false (some j) _ _ _ _) => some (znh j, ⟨S.env, zfz rd S, h.set (zbi rd S).length .dead⟩)
        | _ => none)
      | some (.pan v, h) => some (.panic v true, ⟨S.env, zfz rd S, h⟩)
      | none => none)
    | _ => none)
  | .bad, _ => none
def zev (h : zaj) (env : List V) : RX → Option V
  | .tmp k => env[k]?
  | .cell k n => (match env[k]? with
    | some (.ptr β o) => (zaD h β).bind fun cs => takeN cs o n
    | _ => none)
def zbK (h : zaj) (env : List V) : List RX → Option (List V)
  | [] => some []
  | x :: r => match zev h env x, zbK h env r with
    | some v, some vs => some (v :: vs)
    | _, _ => none
def zeL : List V → V
  | [v] => v
  | vs => .tup vs
def isRec (o : O) : Bool := znm o.i
def zlR (B : Nat) : List O → Option V → St → Option (Option V × St)
  | [], pv, S => some (pv, S)
  | o :: l, pv, S => match wanted S.env o.g with
    | false => zlR B l pv (S.put o.dst zaF)
    | true => match o.i with
      | .recover => (match pv with
        | some v => zlR B l none (S.put o.dst v)
        | none => zlR B l none (S.put o.dst (.lit .nilIface)))
      | i => bif zah i then (match q S.heap S.env i with
          | some v => zlR B l pv (S.put o.dst v)
          | none => none)
        else (match eff B S.heap S.env i with
          | some (v, h) => zlR B l pv ({ S with heap := h }.put o.dst v)
          | none => none)
def zeg (r : Rec) (B : Nat) : C → Option V → St → Option (Ex × Option V × St)
  | .seq a b, pv, S => (match zeg r B a pv S with
    | some (.normal, pv', S') => zeg r B b pv' S'
    | x => x)
  | .cond x a b, pv, S => (match evB S.env x with
    | some true => zeg r B a pv S
    | some false => zeg r B b pv S
    | none => none)
  | .reg dr bar os, pv, S => bif os.any isRec then (bif dr then none else (zlR B os pv S).map fun x => (.normal, x.1, x.2)) else (zaE r B bar true (!dr) os S).map fun x => (x.1, pv, x.2)
  | c, pv, S => (exec r B none c S).map fun x => (x.1, pv, x.2)
def zj9 (r : Rec) (fns : Nat → Option Fn) (B : Nat) (f : Nat) (args : List V) (pv : Option V) (h : zaj) : Option (Option V × zaj) :=
  match fns f with
  | some fn => bif Nat.ble args.length fn.N then
      (match zeg r B fn.c pv ⟨args ++ List.replicate (fn.N - args.length) zaF, [], h⟩ with
      | some (.normal, pv', ⟨env, [], h'⟩) => (zbK h' env fn.rs).map fun _ => (pv', h')
      | some (.ret, pv', ⟨env, [], h'⟩) => (zbK h' env fn.rs).map fun _ => (pv', h')
      | _ => none) else none
  | none => none
def leave (r : Rec) (B : Nat) (pv : Option V) : List Df → zaj → Option (Option V × zaj)
  | [], h => some (pv, h)
  | .coll d :: ds, h => (match h[d]? with
    | some .dfr => bif Nat.ble B d then leave r B pv ds (h.set d .dead) else none
    | _ => none)
  | .fn f args :: ds, h => (match r.dcall B f args pv h with
    | some (pv', h') => leave r B pv' ds h'
    | none => none)
def fin (r : Rec) (B : Nat) (fn : Fn) (pv : Option V) (e : Bool) (S : St) : Option (CR × zaj) :=
  match leave r B pv S.dfs S.heap with
  | some (none, h) => bif !e then none else (zbK h S.env fn.rs).map fun vs => (.ret (zeL vs), h)
  | some (some v, h) => some (.pan v, h)
  | none => none
def body (r : Rec) (fn : Fn) (B : Nat) (args : List V) (h : zaj) : Option (CR × zaj) :=
  bif Nat.ble args.length fn.N then
    (match exec r B none fn.c ⟨args ++ List.replicate (fn.N - args.length) zaF, [], h⟩ with
    | some (.normal, S) => fin r B fn none true S
    | some (.ret, S) => fin r B fn none true S
    | some (.panic v e, S) => fin r B fn (some v) e S
    | _ => none) else none
def V.lits : List V → Bool
  | [] => true
  | .lit _ :: r => V.lits r
  | _ => false
def V.plain : V → Bool
  | .lit _ => true
  | .tup vs => V.lits vs
  | .agg vs => V.lits vs
  | .ifc _ v => (match v with | .lit _ => true | .agg vs => V.lits vs | _ => false)
  | _ => false
def forget (h : zaj) : Option (CR × zaj) → Option (CR × zaj)
  | some (.ret v, _) => bif v.plain then some (.ret v, h) else none
  | some (.pan v, _) => bif v.plain then some (.pan v, h) else none
  | none => none
def zga (r : Rec) (fns : Nat → Option Fn) (B : Nat) (f : Nat) (args : List V) (h : zaj) : Option (CR × zaj) :=
  match fns f with
  | some fn => bif fn.p then (bif Nat.ble B h.length then forget h (body r fn h.length args h) else none) else body r fn B args h
  | none => none
def Rec.none : Rec := ⟨fun _ _ _ _ => .none, fun _ _ _ _ => .none, fun _ _ _ _ _ => .none⟩
def Rec.step (fns : Nat → Option Fn) (r : Rec) : Rec := ⟨exec r, zga r fns, zj9 r fns⟩
def run (fns : Nat → Option Fn) : Nat → Rec
  | 0 => Rec.none
  | n + 1 => Rec.step fns (run fns n)
end Go.Mx
