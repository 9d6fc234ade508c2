/-
  What CircuitKnown asks that is too long for the kernel, as an oracle: rows of 4000 gates. Conditions: none.
-/
import Derived.Test.YtbjfkbkmoeibdaaMx22
namespace Go.Mx
open Go
set_option linter.unusedSimpArgs false
set_option linter.unusedVariables false

/-- The cells of the gate `number(1)`. -/
def gOne (r : List V) : List V := .lit (.int .i64 1) :: .lit (.int .i64 0) :: .lit (.int .i64 0) :: .lit (.int .i64 1) :: .lit (.slice none 0 0) :: r
/-- 2^d such gates. -/
def gPow : Nat → List V → List V
  | 0, r => gOne r
  | d + 1, r => gPow d (gPow d r)
def isI (v : V) (n : Nat) : Bool := match v with
  | .lit (.int .i64 (.ofNat m)) => Nat.beq m n
  | _ => false
def isNil (v : V) : Bool := match v with
  | .lit (.slice none 0 0) => true
  | _ => false
def eatOne (cs : List V) (k : List V → Bool) : Bool := match cs with
  | a :: b :: c :: d :: e :: r => bif isI a 1 && isI b 0 && isI c 0 && isI d 1 && isNil e then k r else false
  | _ => false
def eatPow : Nat → List V → (List V → Bool) → Bool
  | 0, cs, k => eatOne cs k
  | d + 1, cs, k => eatPow d cs fun r => eatPow d r k
def emptyL (l : List V) : Bool := match l with | [] => true | _ :: _ => false
def g4000 : List V := gPow 11 (gPow 10 (gPow 9 (gPow 8 (gPow 7 (gPow 5 [])))))
def g4001 : List V := gOne g4000
def is4000 (cs : List V) : Bool := eatPow 11 cs fun r => eatPow 10 r fun r => eatPow 9 r fun r => eatPow 8 r fun r => eatPow 7 r fun r => eatPow 5 r emptyL
def isCards : List V → Bool
  | [a, b, c, d, e, f, g, h] => isI a 4 && isI b 4 && isI c 4 && isI d 4 && isI e 4 && isI f 1 && isI g 1 && isI h 1
  | _ => false
def dRep (blk : Nat → Option (List V)) (x n : V) : Option Ans := match x with
  | .sl β 0 5 1 _ => (match blk β with
    | some cs => bif eatOne cs emptyL then (bif isI n 4000 then some ⟨fun m => .ret (.sl m 0 5 4000 (some 4000)), some (.blk g4000)⟩
        else bif isI n 4001 then some ⟨fun m => .ret (.sl m 0 5 4001 (some 4001)), some (.blk g4001)⟩ else none) else none
    | none => none)
  | _ => none
def dChk (blk : Nat → Option (List V)) (x : V) : Option Ans := match x with
  | .agg [.sl β 0 1 8 _, .sl γ 0 5 4000 _] => (match blk γ with
    | some cs => (match blk β with
      | some cd => bif is4000 cs && isCards cd then some ⟨fun _ => .ret (.lit (.int .i64 0)), none⟩ else none
      | none => none)
    | none => none)
  | _ => none
def dYes : Option Ans := some ⟨fun _ => .ret (.lit (.bool true)), none⟩
def dK : Dcd := fun blk f args => match args with
  | [] => bif Nat.beq f 10 then dYes else none
  | [x] => bif Nat.beq f 13 then dChk blk x else none
  | [x, n] => bif Nat.beq f 33 then dRep blk x n else none
  | _ => none
end Go.Mx
