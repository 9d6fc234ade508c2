/-
  The machine with an oracle: calls whose outcome is known are not run again. Conditions: none.
-/
import Derived.Test.YtobhjbbinnbdaaaNnJ8
import Derived.Test.YtobhjbbinnbdaaaNnMxF
namespace Go.Mx
open Go
end Go.Mx
namespace Go.Mx
open Go
abbrev KT := StT → Option (Ex × StT)
abbrev Sx := RecT → Nat → Bool → Bool → Bool → StT → O → KT → Option (Ex × StT)
def fcI (kd : IntKind) (n : Int) {α : Type} (k : V → α) : α := zp9 n fun n' => k (.lit (.int kd n'))
def fcB (b : Bool) {α : Type} (k : V → α) : α := znn b fun b' => k (.lit (.bool b'))
def fcL (x : Value) {α : Type} : (V → α) → α :=
  match x with
  | .int kd n => fcI kd n
  | .bool b => fcB b
  | x => fun k => k (.lit x)
def fcP (β o : Nat) {α : Type} (k : V → α) : α := zcy β fun β' => zcy o fun o' => k (.ptr β' o')
def fcS (β o n len : Nat) (cap : Option Nat) {α : Type} (k : V → α) : α := zcy β fun β' => zcy o fun o' => zcy n fun n' => zcy len fun len' => zuJ cap fun cap' => k (.sl β' o' n' len' cap')
def fcC (f : Nat) (a b : List V) {α : Type} (k : V → α) : α := zb6 a fun a' => zb6 b fun b' => k (.clo f a' b')
def fcA (vs : List V) {α : Type} (k : V → α) : α := zb6 vs fun vs' => k (.agg vs')
def fcT (vs : List V) {α : Type} (k : V → α) : α := zb6 vs fun vs' => k (.tup vs')
def fcX (v : V) {α : Type} : (V → α) → α :=
  match v with
  | .lit x => fcL x
  | .ptr β o => fcP β o
  | .sl β o n len cap => fcS β o n len cap
  | .clo f a b => fcC f a b
  | .agg vs => fcA vs
  | .tup vs => fcT vs
  | v => fun k => k v
theorem zqK {α : Type} (v : V) (k : V → α) : fcX v k = k v := by
  cases v with
  | lit x => cases x <;> simp [fcX, fcL, fcI, fcB, zlc, zi3]
  | _ => simp [fcX, fcP, fcS, fcC, fcA, fcT, zbI, zn0, zbN]
def zws (T : StT) (n : Nat) (v : V) (k : KT) : Option (Ex × StT) := fcX v fun v' => zqT T.env n v' fun env' => k ⟨env', T.dfs, T.heap⟩
def zv1 (T : StT) (d : Option Nat) (v : V) (k : KT) : Option (Ex × StT) :=
  match d with
  | none => k T
  | some n => zws T n v k
def zvY (v : Option V) (T : StT) (o : O) (k : KT) : Option (Ex × StT) :=
  match v with
  | some v => zv1 T o.dst v k
  | none => none
def okB (x : Bool) (v : V) : Option V := bif x then some v else none
abbrev Bx := IntKind → IntKind → Int → Int → Option V
def zv3 : Bx := fun k k' m n => okB (kEq k k') (.lit (.int k (zfn k (Int.add m n))))
def zwq : Bx := fun k k' m n => okB (kEq k k') (.lit (.int k (zfn k (Int.sub m n))))
def zwu : Bx := fun k k' m n => okB (kEq k k') (.lit (.int k (zfn k (Int.mul m n))))
def zwk : Bx := fun k k' m n => okB (kEq k k') (.lit (.bool (iEq m n)))
def zvX : Bx := fun k k' m n => okB (kEq k k') (.lit (.bool (!iEq m n)))
def zvW : Bx := fun k k' m n => okB (kEq k k') (.lit (.bool (iLt m n)))
def zwe : Bx := fun k k' m n => okB (kEq k k') (.lit (.bool (iLe m n)))
def zwv : Bx := fun k k' m n => okB (kEq k k') (.lit (.bool (iLt n m)))
def zwj : Bx := fun k k' m n => okB (kEq k k') (.lit (.bool (iLe n m)))
def ztA (op : BinOp) : Bx := fun k k' m n => zmh op (.lit (.int k m)) (.lit (.int k' n))
def bOp (op : BinOp) : Bx :=
  match op with
  | .add => zv3
  | .sub => zwq
  | .mul => zwu
  | .eql => zwk
  | .neq => zvX
  | .lss => zvW
  | .leq => zwe
  | .gtr => zwv
  | .geq => zwj
  | op => ztA op
def intOf (v : Option V) : Option (IntKind × Int) :=
  match v with
  | some (.lit (.int k m)) => some (k, m)
  | _ => none
def zvr (f : Bx) (a b : Option (IntKind × Int)) : Option V :=
  match a with
  | some (k, m) => (match b with
    | some (k', n) => f k k' m n
    | none => none)
  | none => none
theorem zs5 (op : BinOp) (k k' : IntKind) (m n : Int) : bOp op k k' m n = zmh op (.lit (.int k m)) (.lit (.int k' n)) := by cases op <;> rfl
theorem zrU (op : BinOp) (a b : Option V) : zvr (bOp op) (intOf a) (intOf b) = (match a with | some v => (match b with | some v' => zmh op v v' | none => none) | none => none) := by
  cases a with
  | none => rfl
  | some v =>
    cases v with
    | lit x =>
      cases x with
      | int k m =>
        cases b with
        | none => rfl
        | some v' =>
          cases v' with
          | lit y =>
            cases y with
            | int k' n => exact zs5 op k k' m n
            | _ => rfl
          | _ => rfl
      | _ => cases b <;> rfl
    | _ => cases b <;> rfl
def zv7 (p : Option V) (off : Nat) : Option V :=
  match p with
  | some (.ptr β o) => some (.ptr β (Nat.add o off))
  | _ => none
def ztf (v : Option V) : Option Nat :=
  match v with
  | some (.lit (.int _ (.ofNat m))) => some m
  | _ => none
def zt6 (n : Nat) (p : Option V) (i : Option Nat) : Option V :=
  match p with
  | some (.sl β o n' len _) => (match i with
    | some m => bif Nat.beq n n' && Nat.blt m len then some (.ptr β (Nat.add o (Nat.mul m n))) else none
    | none => none)
  | _ => none
def zuy (n cnt : Nat) (p : Option V) (i : Option Nat) : Option V :=
  match p with
  | some (.ptr β o) => (match i with
    | some m => bif Nat.blt m cnt then some (.ptr β (Nat.add o (Nat.mul m n))) else none
    | none => none)
  | _ => none
def zts (k : IntKind) (p : Option (IntKind × Int)) : Option V :=
  match p with
  | some (_, m) => some (.lit (.int k (zfn k m)))
  | none => none
def zlm (v : Option V) : Option Bool :=
  match v with
  | some (.lit (.bool b)) => some b
  | _ => none
def xUn (op : UnOp) (p : Option V) : Option V := match p with | some v => unV op v | none => none
def zvs (p : Option V) : Option V := match p with | some v => ztY v | none => none
def zwl (p : Option V) (i : Nat) : Option V := match p with | some (.tup vs) => nth vs i | _ => none
def zfB (x : X) : Sx := fun _ _ _ _ _ T o k => zvY (zvs (evT T.env x)) T o k
end Go.Mx
