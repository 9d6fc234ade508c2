/-
  The machine with an oracle: calls whose outcome is known are not run again. Conditions: none.
-/
import Derived.Test.YtobhjbbinnbdaaaNsJ8
import Derived.Test.YtobhjbbinnbdaaaNsMxF
namespace Go.Mx
open Go
set_option linter.unusedSimpArgs false
set_option linter.unusedVariables false

end Go.Mx
namespace Go.Mx
open Go
set_option linter.unusedSimpArgs false
set_option linter.unusedVariables false

abbrev KT := StT → Option (Ex × StT)
abbrev Sx := RecT → Nat → Bool → Bool → Bool → StT → O → KT → Option (Ex × StT)

/-! ### Writing down -/
def fcI (kd : IntKind) (n : Int) {α : Type} (k : V → α) : α := fcInt n fun n' => k (.lit (.int kd n'))
def fcB (b : Bool) {α : Type} (k : V → α) : α := fcBool b fun b' => k (.lit (.bool b'))
def fcL (x : Value) {α : Type} : (V → α) → α :=
  match x with
  | .int kd n => fcI kd n
  | .bool b => fcB b
  | x => fun k => k (.lit x)
def fcP (β o : Nat) {α : Type} (k : V → α) : α := fcNat β fun β' => fcNat o fun o' => k (.ptr β' o')
def fcS (β o n len : Nat) (cap : Option Nat) {α : Type} (k : V → α) : α := fcNat β fun β' => fcNat o fun o' => fcNat n fun n' => fcNat len fun len' => fcON cap fun cap' => k (.sl β' o' n' len' cap')
def fcC (f : Nat) (a b : List V) {α : Type} (k : V → α) : α := fcList a fun a' => fcList b fun b' => k (.clo f a' b')
def fcA (vs : List V) {α : Type} (k : V → α) : α := fcList vs fun vs' => k (.agg vs')
def fcT (vs : List V) {α : Type} (k : V → α) : α := fcList vs fun vs' => k (.tup vs')
def fcX (v : V) {α : Type} : (V → α) → α :=
  match v with
  | .lit x => fcL x
  | .ptr β o => fcP β o
  | .sl β o n len cap => fcS β o n len cap
  | .clo f a b => fcC f a b
  | .agg vs => fcA vs
  | .tup vs => fcT vs
  | v => fun k => k v
theorem fcX_eq {α : Type} (v : V) (k : V → α) : fcX v k = k v := by
  cases v with
  | lit x => cases x <;> simp [fcX, fcL, fcI, fcB, fcInt_eq, fcBool_eq]
  | _ => simp [fcX, fcP, fcS, fcC, fcA, fcT, fcNat_eq, fcON_eq, fcList_eq]
def putS (T : StT) (n : Nat) (v : V) (k : KT) : Option (Ex × StT) := fcX v fun v' => setE T.env n v' fun env' => k ⟨env', T.dfs, T.heap⟩
def putX (T : StT) (d : Option Nat) (v : V) (k : KT) : Option (Ex × StT) :=
  match d with
  | none => k T
  | some n => putS T n v k
def putM (v : Option V) (T : StT) (o : O) (k : KT) : Option (Ex × StT) :=
  match v with
  | some v => putX T o.dst v k
  | none => none

/-! ### Two numbers -/
def okB (x : Bool) (v : V) : Option V := bif x then some v else none
abbrev Bx := IntKind → IntKind → Int → Int → Option V
def bAdd : Bx := fun k k' m n => okB (kEq k k') (.lit (.int k (kWrap k (Int.add m n))))
def bSub : Bx := fun k k' m n => okB (kEq k k') (.lit (.int k (kWrap k (Int.sub m n))))
def bMul : Bx := fun k k' m n => okB (kEq k k') (.lit (.int k (kWrap k (Int.mul m n))))
def bEql : Bx := fun k k' m n => okB (kEq k k') (.lit (.bool (iEq m n)))
def bNeq : Bx := fun k k' m n => okB (kEq k k') (.lit (.bool (!iEq m n)))
def bLss : Bx := fun k k' m n => okB (kEq k k') (.lit (.bool (iLt m n)))
def bLeq : Bx := fun k k' m n => okB (kEq k k') (.lit (.bool (iLe m n)))
def bGtr : Bx := fun k k' m n => okB (kEq k k') (.lit (.bool (iLt n m)))
def bGeq : Bx := fun k k' m n => okB (kEq k k') (.lit (.bool (iLe n m)))
def bOther (op : BinOp) : Bx := fun k k' m n => binVK op (.lit (.int k m)) (.lit (.int k' n))
def bOp (op : BinOp) : Bx :=
  match op with
  | .add => bAdd
  | .sub => bSub
  | .mul => bMul
  | .eql => bEql
  | .neq => bNeq
  | .lss => bLss
  | .leq => bLeq
  | .gtr => bGtr
  | .geq => bGeq
  | op => bOther op
def intOf (v : Option V) : Option (IntKind × Int) :=
  match v with
  | some (.lit (.int k m)) => some (k, m)
  | _ => none
def bin2 (f : Bx) (a b : Option (IntKind × Int)) : Option V :=
  match a with
  | some (k, m) => (match b with
    | some (k', n) => f k k' m n
    | none => none)
  | none => none
theorem bOp_eq (op : BinOp) (k k' : IntKind) (m n : Int) : bOp op k k' m n = binVK op (.lit (.int k m)) (.lit (.int k' n)) := by cases op <;> rfl
theorem bin2_eq (op : BinOp) (a b : Option V) : bin2 (bOp op) (intOf a) (intOf b) = (match a with | some v => (match b with | some v' => binVK op v v' | none => none) | none => none) := by
  cases a with
  | none => rfl
  | some v =>
    cases v with
    | lit x =>
      cases x with
      | int k m =>
        cases b with
        | none => rfl
        | some v' =>
          cases v' with
          | lit y =>
            cases y with
            | int k' n => exact bOp_eq op k k' m n
            | _ => rfl
          | _ => rfl
      | _ => cases b <;> rfl
    | _ => cases b <;> rfl

/-! ### The operations -/
def xFld (p : Option V) (off : Nat) : Option V :=
  match p with
  | some (.ptr β o) => some (.ptr β (Nat.add o off))
  | _ => none
def natOf (v : Option V) : Option Nat :=
  match v with
  | some (.lit (.int _ (.ofNat m))) => some m
  | _ => none
def xIdxS (n : Nat) (p : Option V) (i : Option Nat) : Option V :=
  match p with
  | some (.sl β o n' len _) => (match i with
    | some m => bif Nat.beq n n' && Nat.blt m len then some (.ptr β (Nat.add o (Nat.mul m n))) else none
    | none => none)
  | _ => none
def xIdxA (n cnt : Nat) (p : Option V) (i : Option Nat) : Option V :=
  match p with
  | some (.ptr β o) => (match i with
    | some m => bif Nat.blt m cnt then some (.ptr β (Nat.add o (Nat.mul m n))) else none
    | none => none)
  | _ => none
def xConv (k : IntKind) (p : Option (IntKind × Int)) : Option V :=
  match p with
  | some (_, m) => some (.lit (.int k (kWrap k m)))
  | none => none
def boolOf (v : Option V) : Option Bool :=
  match v with
  | some (.lit (.bool b)) => some b
  | _ => none
def xUn (op : UnOp) (p : Option V) : Option V := match p with | some v => unV op v | none => none
def xLen (p : Option V) : Option V := match p with | some v => lenV v | none => none
def xExt (p : Option V) (i : Nat) : Option V := match p with | some (.tup vs) => nth vs i | _ => none
def sLen (x : X) : Sx := fun _ _ _ _ _ T o k => putM (xLen (evT T.env x)) T o k
/-! ### Code -/
end Go.Mx
