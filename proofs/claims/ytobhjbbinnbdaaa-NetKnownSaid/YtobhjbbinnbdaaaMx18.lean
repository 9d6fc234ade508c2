/-
  The machine for the kernel, each case of an operation by a name of its own (the kernel then copies less). Conditions: none.
-/
import Derived.Test.YtobhjbbinnbdaaaMx17
namespace Go.Mx
open Go
set_option linter.unusedSimpArgs false
set_option linter.unusedVariables false

abbrev KT := StT → Option (Ex × StT)
abbrev Sx := RecT → Nat → Bool → Bool → Bool → StT → O → KT → Option (Ex × StT)

/-! ### Writing down -/
def fcI (kd : IntKind) (n : Int) {α : Type} (k : V → α) : α := fcInt n fun n' => k (.lit (.int kd n'))
def fcB (b : Bool) {α : Type} (k : V → α) : α := fcBool b fun b' => k (.lit (.bool b'))
def fcL (x : Value) {α : Type} : (V → α) → α :=
  match x with
  | .int kd n => fcI kd n
  | .bool b => fcB b
  | x => fun k => k (.lit x)
def fcP (β o : Nat) {α : Type} (k : V → α) : α := fcNat β fun β' => fcNat o fun o' => k (.ptr β' o')
def fcS (β o n len : Nat) (cap : Option Nat) {α : Type} (k : V → α) : α := fcNat β fun β' => fcNat o fun o' => fcNat n fun n' => fcNat len fun len' => fcON cap fun cap' => k (.sl β' o' n' len' cap')
def fcC (f : Nat) (a b : List V) {α : Type} (k : V → α) : α := fcList a fun a' => fcList b fun b' => k (.clo f a' b')
def fcA (vs : List V) {α : Type} (k : V → α) : α := fcList vs fun vs' => k (.agg vs')
def fcT (vs : List V) {α : Type} (k : V → α) : α := fcList vs fun vs' => k (.tup vs')
def fcX (v : V) {α : Type} : (V → α) → α :=
  match v with
  | .lit x => fcL x
  | .ptr β o => fcP β o
  | .sl β o n len cap => fcS β o n len cap
  | .clo f a b => fcC f a b
  | .agg vs => fcA vs
  | .tup vs => fcT vs
  | v => fun k => k v
theorem fcX_eq {α : Type} (v : V) (k : V → α) : fcX v k = k v := by
  cases v with
  | lit x => cases x <;> simp [fcX, fcL, fcI, fcB, fcInt_eq, fcBool_eq]
  | _ => simp [fcX, fcP, fcS, fcC, fcA, fcT, fcNat_eq, fcON_eq, fcList_eq]
def putS (T : StT) (n : Nat) (v : V) (k : KT) : Option (Ex × StT) := fcX v fun v' => setE T.env n v' fun env' => k ⟨env', T.dfs, T.heap⟩
def putX (T : StT) (d : Option Nat) (v : V) (k : KT) : Option (Ex × StT) :=
  match d with
  | none => k T
  | some n => putS T n v k
theorem putX_eq (T : StT) (d : Option Nat) (v : V) (k : KT) : putX T d v k = putT T d v k := by cases d <;> simp [putX, putS, putT, fcX_eq, fcV_eq]
def putM (v : Option V) (T : StT) (o : O) (k : KT) : Option (Ex × StT) :=
  match v with
  | some v => putX T o.dst v k
  | none => none

/-! ### Two numbers -/
def okB (x : Bool) (v : V) : Option V := bif x then some v else none
abbrev Bx := IntKind → IntKind → Int → Int → Option V
def bAdd : Bx := fun k k' m n => okB (kEq k k') (.lit (.int k (kWrap k (Int.add m n))))
def bSub : Bx := fun k k' m n => okB (kEq k k') (.lit (.int k (kWrap k (Int.sub m n))))
def bMul : Bx := fun k k' m n => okB (kEq k k') (.lit (.int k (kWrap k (Int.mul m n))))
def bEql : Bx := fun k k' m n => okB (kEq k k') (.lit (.bool (iEq m n)))
def bNeq : Bx := fun k k' m n => okB (kEq k k') (.lit (.bool (!iEq m n)))
def bLss : Bx := fun k k' m n => okB (kEq k k') (.lit (.bool (iLt m n)))
def bLeq : Bx := fun k k' m n => okB (kEq k k') (.lit (.bool (iLe m n)))
def bGtr : Bx := fun k k' m n => okB (kEq k k') (.lit (.bool (iLt n m)))
def bGeq : Bx := fun k k' m n => okB (kEq k k') (.lit (.bool (iLe n m)))
def bOther (op : BinOp) : Bx := fun k k' m n => binVK op (.lit (.int k m)) (.lit (.int k' n))
def bOp (op : BinOp) : Bx :=
  match op with
  | .add => bAdd
  | .sub => bSub
  | .mul => bMul
  | .eql => bEql
  | .neq => bNeq
  | .lss => bLss
  | .leq => bLeq
  | .gtr => bGtr
  | .geq => bGeq
  | op => bOther op
def intOf (v : Option V) : Option (IntKind × Int) :=
  match v with
  | some (.lit (.int k m)) => some (k, m)
  | _ => none
def bin2 (f : Bx) (a b : Option (IntKind × Int)) : Option V :=
  match a with
  | some (k, m) => (match b with
    | some (k', n) => f k k' m n
    | none => none)
  | none => none
theorem bOp_eq (op : BinOp) (k k' : IntKind) (m n : Int) : bOp op k k' m n = binVK op (.lit (.int k m)) (.lit (.int k' n)) := by cases op <;> rfl
theorem bin2_eq (op : BinOp) (a b : Option V) : bin2 (bOp op) (intOf a) (intOf b) = (match a with | some v => (match b with | some v' => binVK op v v' | none => none) | none => none) := by
  cases a with
  | none => rfl
  | some v =>
    cases v with
    | lit x =>
      cases x with
      | int k m =>
        cases b with
        | none => rfl
        | some v' =>
          cases v' with
          | lit y =>
            cases y with
            | int k' n => exact bOp_eq op k k' m n
            | _ => rfl
          | _ => rfl
      | _ => cases b <;> rfl
    | _ => cases b <;> rfl

/-! ### The operations -/
def xLoad (p : Option V) (h : Heap) (n : Option Nat) : Option V :=
  match p with
  | some (.ptr β o) => (match blkK h β with
    | some cs => takeK cs o n
    | none => none)
  | _ => none
def xFld (p : Option V) (off : Nat) : Option V :=
  match p with
  | some (.ptr β o) => some (.ptr β (Nat.add o off))
  | _ => none
def natOf (v : Option V) : Option Nat :=
  match v with
  | some (.lit (.int _ (.ofNat m))) => some m
  | _ => none
def xIdxS (n : Nat) (p : Option V) (i : Option Nat) : Option V :=
  match p with
  | some (.sl β o n' len _) => (match i with
    | some m => bif Nat.beq n n' && Nat.blt m len then some (.ptr β (Nat.add o (Nat.mul m n))) else none
    | none => none)
  | _ => none
def xIdxA (n cnt : Nat) (p : Option V) (i : Option Nat) : Option V :=
  match p with
  | some (.ptr β o) => (match i with
    | some m => bif Nat.blt m cnt then some (.ptr β (Nat.add o (Nat.mul m n))) else none
    | none => none)
  | _ => none
def xConv (k : IntKind) (p : Option (IntKind × Int)) : Option V :=
  match p with
  | some (_, m) => some (.lit (.int k (kWrap k m)))
  | none => none
def boolOf (v : Option V) : Option Bool :=
  match v with
  | some (.lit (.bool b)) => some b
  | _ => none
def xPick (c : Option Bool) (e : List (List V)) (a b : X) : Option V :=
  match c with
  | some true => evT e a
  | some false => evT e b
  | none => none
def xUn (op : UnOp) (p : Option V) : Option V := match p with | some v => unV op v | none => none
def xLen (p : Option V) : Option V := match p with | some v => lenV v | none => none
def xExt (p : Option V) (i : Nat) : Option V := match p with | some (.tup vs) => nth vs i | _ => none
def sMov (x : X) : Sx := fun _ _ _ _ _ T o k => putM (evT T.env x) T o k
def sLoad (n : Option Nat) (x : X) : Sx := fun _ _ _ _ _ T o k => putM (xLoad (evT T.env x) T.heap n) T o k
def sFld (off : Nat) (x : X) : Sx := fun _ _ _ _ _ T o k => putM (xFld (evT T.env x) off) T o k
def sIdxS (n : Nat) (x i : X) : Sx := fun _ _ _ _ _ T o k => putM (xIdxS n (evT T.env x) (natOf (evT T.env i))) T o k
def sIdxA (n cnt : Nat) (x i : X) : Sx := fun _ _ _ _ _ T o k => putM (xIdxA n cnt (evT T.env x) (natOf (evT T.env i))) T o k
def sBin (op : BinOp) (x y : X) : Sx := fun _ _ _ _ _ T o k => putM (bin2 (bOp op) (intOf (evT T.env x)) (intOf (evT T.env y))) T o k
def sConv (kd : IntKind) (x : X) : Sx := fun _ _ _ _ _ T o k => putM (xConv kd (intOf (evT T.env x))) T o k
def sPick (c a b : X) : Sx := fun _ _ _ _ _ T o k => putM (xPick (boolOf (evT T.env c)) T.env a b) T o k
def sUn (op : UnOp) (x : X) : Sx := fun _ _ _ _ _ T o k => putM (xUn op (evT T.env x)) T o k
def sLen (x : X) : Sx := fun _ _ _ _ _ T o k => putM (xLen (evT T.env x)) T o k
def sExt (x : X) (i : Nat) : Sx := fun _ _ _ _ _ T o k => putM (xExt (evT T.env x) i) T o k
def sQuiet (i : I) : Sx := fun _ _ _ _ _ T o k => putM (qT T.heap T.env i) T o k
def sEff (i : I) : Sx := fun _ B _ _ _ T o k => effT B T i fun v h => putX ⟨T.env, T.dfs, h⟩ o.dst v k
def finX (e : Bool) (o : O) (T : StT) (x : Option (CR × Heap)) (k : KT) : Option (Ex × StT) :=
  match x with
  | some (.ret v, h) => putX ⟨T.env, T.dfs, h⟩ o.dst v k
  | some (.pan v, h) => some (.panic v e, ⟨T.env, T.dfs, h⟩)
  | none => none
def callX (f : Nat) (vs : Option (List V)) : Sx := fun r B bar _ e T o k =>
  match vs with
  | some vs => fcNat (bif bar then T.heap.length else B) fun B' => finX e o T (r.call B' f vs T.heap) k
  | none => none
def sCall (f : Nat) (xs : List X) : Sx := fun r B bar top e T o k => callX f (evsT T.env xs) r B bar top e T o k
def callvX (v : Option V) (vs : Option (List V)) : Sx := fun r B bar _ e T o k =>
  match v with
  | some v => (match vs with
    | some vs => fcNat (bif bar then T.heap.length else B) fun B' => finX e o T (callVT r B' v vs T.heap) k
    | none => none)
  | none => none
def sCallv (x : X) (xs : List X) : Sx := fun r B bar top e T o k => callvX (evT T.env x) (evsT T.env xs) r B bar top e T o k
def sOld (i : I) : Sx := fun r B bar top e T o k => stepOT r B bar top e T ⟨o.dst, i, none⟩ k
def boxX (l : Option (List V)) (T : StT) (o : O) (k : KT) : Option (Ex × StT) :=
  match l with
  | some l => fcNat T.heap.length fun n => snocO T.heap (.blk l) fun h' => putX ⟨T.env, T.dfs, h'⟩ o.dst (.ptr n 0) k
  | none => none
def sAlloc (z : List Value) : Sx := fun _ _ _ _ _ T o k => fcNat T.heap.length fun n => snocO T.heap (.blk (z.map .lit)) fun h' => putX ⟨T.env, T.dfs, h'⟩ o.dst (.ptr n 0) k
def sBox (x : X) : Sx := fun _ _ _ _ _ T o k => boxX ((evT T.env x).bind V.cells) T o k
def store3 (B β of n : Nat) (l cs : List V) (T : StT) (o : O) (k : KT) : Option (Ex × StT) :=
  bif Nat.ble B β && Nat.beq l.length n && Nat.ble (of + n) cs.length then setO T.heap β (.blk (putAt cs of l)) fun h' => putX ⟨T.env, T.dfs, h'⟩ o.dst undefV k else none
def store2 (B : Nat) (a : Option V) (l : Option (List V)) (n : Nat) (T : StT) (o : O) (k : KT) : Option (Ex × StT) :=
  match a with
  | some (.ptr β of) => (match l with
    | some l => (match blkK T.heap β with
      | some cs => store3 B β of n l cs T o k
      | none => none)
    | none => none)
  | _ => none
def sStore (n : Nat) (a x : X) : Sx := fun _ B _ _ _ T o k => store2 B (evT T.env a) ((evT T.env x).bind V.cells) n T o k
def disp (i : I) : Sx :=
  match i with
  | .mov x => sMov x
  | .load n x => sLoad n x
  | .fld off x => sFld off x
  | .idxS n x i => sIdxS n x i
  | .idxA n cnt x i => sIdxA n cnt x i
  | .bin op x y => sBin op x y
  | .conv k x => sConv k x
  | .pick c a b => sPick c a b
  | .un op x => sUn op x
  | .len x => sLen x
  | .ext x i => sExt x i
  | .call f xs => sCall f xs
  | .callv x xs => sCallv x xs
  | .alloc z => sAlloc z
  | .box x => sBox x
  | .store n a x => sStore n a x
  | i => sOld i
def stepOX : Sx := fun r B bar top e T o k =>
  match wantedT T.env o.g with
  | false => putX T o.dst undefV k
  | true => disp o.i r B bar top e T o k
theorem natOf_eq (v : Option V) : natOf v = (match v with | some (.lit (.int _ (.ofNat m))) => some m | _ => none) := rfl
theorem stepOX_eq (r : RecT) (B : Nat) (bar top e : Bool) (T : StT) (o : O) (k : KT) : stepOX r B bar top e T o k = stepOT r B bar top e T o k := by
  unfold stepOX stepOT
  have hfin : ∀ x, finX e o T x k = finOT e o T x k := by
    intro x
    unfold finX finOT
    split <;> simp only [putX_eq]
  have hput : ∀ v, putM v T o k = (match v with | some v => putT T o.dst v k | none => none) := by
    intro v; cases v <;> simp only [putM, putX_eq]
  cases wantedT T.env o.g with
  | false => simp only [putX_eq]
  | true =>
    simp only []
    cases hi : o.i with
    | mov x => (simp only [disp, sMov, hput, quietI, cond_true, qT, qF]) <;> rfl
    | load n x =>
      simp only [disp, sLoad, hput, quietI, cond_true, qT, qF, xLoad]
      cases evT T.env x with
      | none => rfl
      | some v => cases v <;> rfl
    | fld off x =>
      simp only [disp, sFld, hput, quietI, cond_true, qT, qF, xFld]
      cases evT T.env x with
      | none => rfl
      | some v => cases v <;> rfl
    | idxS n x i =>
      simp only [disp, sIdxS, hput, quietI, cond_true, qT, qF, xIdxS]
      cases evT T.env x with
      | none => rfl
      | some v =>
        cases v with
        | sl β o n' len c =>
          simp only []
          cases evT T.env i with
          | none => rfl
          | some w =>
            cases w with
            | lit y =>
              cases y with
              | int kd m => cases m <;> rfl
              | _ => rfl
            | _ => rfl
        | _ => rfl
    | idxA n cnt x i =>
      simp only [disp, sIdxA, hput, quietI, cond_true, qT, qF, xIdxA]
      cases evT T.env x with
      | none => rfl
      | some v =>
        cases v with
        | ptr β o =>
          simp only []
          cases evT T.env i with
          | none => rfl
          | some w =>
            cases w with
            | lit y =>
              cases y with
              | int kd m => cases m <;> rfl
              | _ => rfl
            | _ => rfl
        | _ => rfl
    | bin op x y => (simp only [disp, sBin, hput, quietI, cond_true, qT, qF, bin2_eq]) <;> rfl
    | conv kd x =>
      simp only [disp, sConv, hput, quietI, cond_true, qT, qF, xConv]
      cases evT T.env x with
      | none => rfl
      | some v =>
        cases v with
        | lit y => cases y <;> rfl
        | _ => rfl
    | pick c a b =>
      simp only [disp, sPick, hput, quietI, cond_true, qT, qF, qG, evBG, xPick]
      cases evT T.env c with
      | none => rfl
      | some v =>
        cases v with
        | lit y =>
          cases y with
          | bool b => cases b <;> rfl
          | _ => rfl
        | _ => rfl
    | un op x => (simp only [disp, sUn, hput, quietI, cond_true, qT, qF, qG, xUn]) <;> rfl
    | len x => (simp only [disp, sLen, hput, quietI, cond_true, qT, qF, qG, xLen]) <;> rfl
    | ext x i =>
      simp only [disp, sExt, hput, quietI, cond_true, qT, qF, qG, xExt] <;> rfl
    | call f xs =>
      simp only [disp, sCall, callX, hfin] <;> rfl
    | callv x xs =>
      simp only [disp, sCallv, callvX, hfin] <;> rfl
    | alloc z => (simp only [disp, sAlloc, quietI, cond_false, effT, putX_eq]) <;> rfl
    | box x => (simp only [disp, sBox, boxX, quietI, cond_false, effT, putX_eq]) <;> rfl
    | store n a x => (simp only [disp, sStore, store2, store3, quietI, cond_false, effT, putX_eq]) <;> rfl
    | _ => simp only [disp, sOld, stepOT, wantedT]
def runOpsX (r : RecT) (B : Nat) (bar top e : Bool) : List O → KT
  | [], T => some (.normal, T)
  | o :: l, T => stepOX r B bar top e T o (runOpsX r B bar top e l)
theorem runOpsX_eq (r : RecT) (B : Nat) (bar top e : Bool) : ∀ (l : List O) (T : StT), runOpsX r B bar top e l T = runOpsT r B bar top e l T
  | [], T => rfl
  | o :: l, T => by
    simp only [runOpsX, runOpsT, stepOX_eq]
    rw [show runOpsX r B bar top e l = runOpsT r B bar top e l from funext (runOpsX_eq r B bar top e l)]
/-! ### Code -/
def seqX (x : Option (Ex × StT)) (k : KT) : Option (Ex × StT) :=
  match x with
  | some (.normal, T') => k T'
  | x => x
def condX (b : Option Bool) (x y : KT) (T : StT) : Option (Ex × StT) :=
  match b with
  | some true => x T
  | some false => y T
  | none => none
def blockX (id : Nat) (x : Option (Ex × StT)) : Option (Ex × StT) :=
  match x with
  | some (.exit id', T') => bif Nat.beq id' id then some (.normal, T') else some (.exit id', T')
  | x => x
def execX (r : RecT) (B : Nat) (rd : Option Nat) : C → KT
  | .skip => fun T => some (.normal, T)
  | .label _ => fun T => some (.normal, T)
  | .reg dr bar os => runOpsX r B bar rd.isNone (!dr) os
  | .seq a b => fun T => seqX (execX r B rd a T) (execX r B rd b)
  | .cond x a b => fun T => condX (boolOf (evT T.env x)) (execX r B rd a) (execX r B rd b) T
  | .block id c => fun T => blockX id (execX r B rd c T)
  | .loop c => fun T => seqX (execX r B rd c T) (r.code B rd (.loop c))
  | .scope c => execX r B rd c
  | .exit id => fun T => some (.exit id, T)
  | .ret => fun T => some (.ret, T)
  | .rfunc x ps asg body => execT r B rd (.rfunc x ps asg body)
  | .bad => fun _ => none
theorem execX_eq (r : RecT) (B : Nat) (rd : Option Nat) : ∀ (c : C) (T : StT), execX r B rd c T = execT r B rd c T
  | .skip, T => rfl
  | .label _, T => rfl
  | .reg dr bar os, T => runOpsX_eq ..
  | .seq a b, T => by
    simp only [execX, execT, seqX, execX_eq r B rd a, execX_eq r B rd b]
    rfl
  | .cond x a b, T => by
    simp only [execX, execT, condX, execX_eq r B rd a, execX_eq r B rd b]
    rfl
  | .block id c, T => by simp only [execX, execT, blockX, execX_eq r B rd c]; rfl
  | .loop c, T => by simp only [execX, execT, seqX, execX_eq r B rd c]; rfl
  | .scope c, T => execX_eq r B rd c T
  | .exit _, T => rfl
  | .ret, T => rfl
  | .rfunc .., T => rfl
  | .bad, T => rfl
def endX (r : RecT) (B : Nat) (fn : Fn) (x : Option (Ex × StT)) : Option (CR × Heap) :=
  match x with
  | some (.normal, S) => finT r B fn none true S
  | some (.ret, S) => finT r B fn none true S
  | some (.panic v e, S) => finT r B fn (some v) e S
  | _ => none
def bodyX (r : RecT) (fn : Fn) (B : Nat) (args : List V) (h : Heap) : Option (CR × Heap) :=
  bif Nat.ble args.length fn.N then
    fcList (args ++ List.replicate (fn.N - args.length) undefV) fun env => fcRows (rowsOf (Nat.div env.length 10 + 1) env) fun e => endX r B fn (execX r B none fn.c ⟨e, [], h⟩) else none
theorem bodyX_eq (r : RecT) (fn : Fn) (B : Nat) (args : List V) (h : Heap) : bodyX r fn B args h = bodyT r fn B args h := by
  unfold bodyX bodyT
  simp only [fcList_eq, fcRows_eq, execX_eq, endX]
  rfl
def pureX (r : RecT) (fn : Fn) (B : Nat) (args : List V) (h : Heap) : Option (CR × Heap) := bif Nat.ble B h.length then fcNat h.length fun B' => forget h (bodyX r fn B' args h) else none
def callFX (r : RecT) (fns : Nat → Option Fn) (B : Nat) (f : Nat) (args : List V) (h : Heap) : Option (CR × Heap) :=
  match fns f with
  | some fn => bif fn.p then pureX r fn B args h else bodyX r fn B args h
  | none => none
theorem callFX_eq (r : RecT) (fns : Nat → Option Fn) (B f : Nat) (args : List V) (h : Heap) : callFX r fns B f args h = callFT r fns B f args h := by
  unfold callFX callFT
  simp only [pureX, bodyX_eq]
  rfl
def runX (orc : Orc) (fns : Nat → Option Fn) : Nat → RecT
  | 0 => RecT.none
  | n + 1 => ⟨execX (runX orc fns n), fun B f args h => askO (orc B f args h) (callFX (runX orc fns n) fns B f args h), callD (runO orc fns n) fns⟩
theorem runX_eq (orc : Orc) (fns : Nat → Option Fn) : ∀ n, runX orc fns n = runOT orc fns n
  | 0 => rfl
  | n + 1 => by
    simp only [runX, runOT, runX_eq orc fns n]
    congr 1
    · funext B rd c T; exact execX_eq ..
    · funext B f args h; rw [callFX_eq]
def noOrc : Orc := fun _ _ _ _ => none
theorem noOrc_ok (P : Program) : OrcOk P noOrc := fun _ _ _ _ _ _ h => (by cases h)
/-- A run that the kernel has seen. -/
theorem calls_of_runX {P : Program} (hm : P.follows .mixedOrders = true) {tab : List (Nat × Fn)} (htab : ∀ x ∈ tab, FnOk P x.1 x.2) {orc : Orc} (ho : OrcOk P orc) {n f : Nat} (h : okTrue ((runX orc (lookT tab) n).call 0 f [] []) = true) (w : World) :
    Calls P f #[] w fun e w' => e = .returned (.bool true) ∧ Go.RowKit.Below w.heap.size w w' := by
  rw [runX_eq] at h
  exact calls_of_runO hm htab ho h w
end Go.Mx
