/-
  The machine once more, step by step in full, for the kernel: it computes the same. Conditions: none.
-/
import Derived.Test.YtobhjbbinnbdaaaNsMx13
namespace Go.Mx
open Go
set_option linter.unusedSimpArgs false
set_option linter.unusedVariables false

/-! ### What is computed now is written down now -/
def fcNat {α : Type} (n : Nat) (k : Nat → α) : α :=
  match n with
  | .zero => k .zero
  | .succ m => k (.succ m)
theorem fcNat_eq {α : Type} (n : Nat) (k : Nat → α) : fcNat n k = k n := by cases n <;> rfl
def fcInt {α : Type} (n : Int) (k : Int → α) : α :=
  match n with
  | .ofNat m => fcNat m fun m' => k (.ofNat m')
  | .negSucc m => fcNat m fun m' => k (.negSucc m')
theorem fcInt_eq {α : Type} (n : Int) (k : Int → α) : fcInt n k = k n := by cases n <;> simp [fcInt, fcNat_eq]
def fcBool {α : Type} (b : Bool) (k : Bool → α) : α :=
  match b with
  | true => k true
  | false => k false
theorem fcBool_eq {α : Type} (b : Bool) (k : Bool → α) : fcBool b k = k b := by cases b <;> rfl
def fcList {α β : Type} (l : List β) (k : List β → α) : α :=
  match l with
  | [] => k []
  | x :: r => fcList r fun r' => k (x :: r')
theorem fcList_eq {α β : Type} : ∀ (l : List β) (k : List β → α), fcList l k = k l
  | [], _ => rfl
  | x :: r, k => by simp [fcList, fcList_eq r]
def fcON {α : Type} (o : Option Nat) (k : Option Nat → α) : α :=
  match o with
  | none => k none
  | some n => fcNat n fun n' => k (some n')
theorem fcON_eq {α : Type} (o : Option Nat) (k : Option Nat → α) : fcON o k = k o := by cases o <;> simp [fcON, fcNat_eq]
def fcV {α : Type} (v : V) (k : V → α) : α :=
  match v with
  | .lit (.int kd n) => fcInt n fun n' => k (.lit (.int kd n'))
  | .lit (.bool b) => fcBool b fun b' => k (.lit (.bool b'))
  | .lit x => k (.lit x)
  | .ptr β o => fcNat β fun β' => fcNat o fun o' => k (.ptr β' o')
  | .sl β o n len cap => fcNat β fun β' => fcNat o fun o' => fcNat n fun n' => fcNat len fun len' => fcON cap fun cap' => k (.sl β' o' n' len' cap')
  | .clo f a b => fcList a fun a' => fcList b fun b' => k (.clo f a' b')
  | .agg vs => fcList vs fun vs' => k (.agg vs')
  | .tup vs => fcList vs fun vs' => k (.tup vs')
  | v => k v
theorem fcV_eq {α : Type} (v : V) (k : V → α) : fcV v k = k v := by
  cases v with
  | lit x => cases x <;> simp [fcV, fcInt_eq, fcBool_eq]
  | _ => simp [fcV, fcNat_eq, fcON_eq, fcList_eq]
def setK {α β : Type} (l : List β) (n : Nat) (v : β) (k : List β → α) : α :=
  match l with
  | [] => k []
  | x :: r => match n with
    | .zero => k (v :: r)
    | .succ m => setK r m v fun r' => k (x :: r')
theorem setK_eq {α β : Type} : ∀ (l : List β) (n : Nat) (v : β) (k : List β → α), setK l n v k = k (l.set n v)
  | [], n, v, k => by simp [setK]
  | x :: r, 0, v, k => by simp [setK]
  | x :: r, n + 1, v, k => by simp [setK, setK_eq r n]
def nth {β : Type} (l : List β) (n : Nat) : Option β :=
  match l with
  | [] => none
  | x :: r => match n with
    | .zero => some x
    | .succ m => nth r m
theorem nth_eq {β : Type} : ∀ (l : List β) (n : Nat), nth l n = l[n]?
  | [], n => by simp [nth]
  | x :: r, 0 => by simp [nth]
  | x :: r, n + 1 => by simp [nth, nth_eq r n]

def blkK (h : Heap) (β : Nat) : Option (List V) :=
  match nth h β with
  | some (.blk cs) => some cs
  | _ => none
theorem blkK_eq (h : Heap) (β : Nat) : blkK h β = blkAt h β := by simp only [blkK, blkAt, nth_eq]; rfl

def evIG (g : X → Option V) (x : X) : Option Int := match g x with | some (.lit (.int _ n)) => some n | _ => none
def evBG (g : X → Option V) (x : X) : Option Bool := match g x with | some (.lit (.bool b)) => some b | _ => none
def evOIG (g : X → Option V) : Option X → Option (Option Int)
  | none => some none
  | some x => (evIG g x).map some
def takeK (cs : List V) (o : Nat) : Option Nat → Option V
  | none => nth cs o
  | some n => (slot o n cs).map .agg
theorem takeK_eq (cs : List V) (o : Nat) (n : Option Nat) : takeK cs o n = takeN cs o n := by cases n <;> simp [takeK, takeN, nth_eq]
def fillG (g : X → Option V) (cs : List V) : List (Nat × Nat × X) → Option (List V)
  | [] => some cs
  | (off, n, x) :: r => match (g x).bind V.cells with
    | some l => bif (l.length == n) && Nat.ble (off + n) cs.length then fcList (putAt cs off l) fun cs' => fillG g cs' r else none
    | none => none
theorem fillG_eq (env : List V) : ∀ (ps : List (Nat × Nat × X)) (cs : List V), fillG (ev env) cs ps = fillC env cs ps
  | [], cs => rfl
  | (off, n, x) :: r, cs => by
    simp only [fillG, fillC, fcList_eq, fillG_eq env r]; rfl
def hasCG (blk : Nat → Option (List V)) (β n : Nat) : Bool := match blk β with | some cs => Nat.ble n cs.length | none => false
def avoBG (g : X → Option V) (blk : Nat → Option (List V)) (β : Nat) (x : X) : Bool := match g x with
  | some (.ptr γ _) => (match blk γ with | some _ => true | none => false) && !(γ == β)
  | _ => false
def avoVG (g : X → Option V) (blk : Nat → Option (List V)) (xs : List X) (y : X) : Bool := match g y with
  | some v => (match blkV v with
    | some β => xs.all (avoBG g blk β)
    | none => true)
  | none => false
theorem avoVG_eq (h : Heap) (env : List V) (xs : List X) (y : X) : avoVG (ev env) (blkAt h) xs y = avoV h env xs y := by
  have hb : ∀ β, avoBG (ev env) (blkAt h) β = avoB h env β := by
    intro β
    funext x
    simp only [avoBG, avoB]
    cases ev env x with
    | none => rfl
    | some v =>
      cases v with
      | ptr γ o => simp only []; cases blkAt h γ <;> rfl
      | _ => rfl
  simp only [avoVG, avoV]
  cases ev env y with
  | none => rfl
  | some v =>
    simp only []
    cases blkV v with
    | none => rfl
    | some β => simp only [show avoBG (ev env) (blkAt h) = avoB h env from funext hb]
/-- What an operation that leaves the world alone yields. -/
def qG (g : X → Option V) (gs : List X → Option (List V)) (blk : Nat → Option (List V)) : I → Option V
  | .mov x => g x
  | .avo xs y => bif avoVG g blk xs y then some undefV else none
  | .pick c a b => (match evBG g c with
    | some true => g a
    | some false => g b
    | none => none)
  | .build z parts => (fillG g (z.map .lit) parts).map .agg
  | .load n x => (match g x with
    | some (.ptr β o) => (match blk β with
      | some cs => takeK cs o n
      | none => none)
    | _ => none)
  | .fld off x => (match g x with
    | some (.ptr β o) => some (.ptr β (o + off))
    | _ => none)
  | .idxS n x i => (match g x, evIG g i with
    | some (.sl β o n' len _), some m => bif (n == n') && decide (0 ≤ m) && decide (m < len) then some (.ptr β (o + m.toNat * n)) else none
    | _, _ => none)
  | .idxA n cnt x i => (match g x, evIG g i with
    | some (.ptr β o), some m => bif decide (0 ≤ m) && decide (m < cnt) then some (.ptr β (o + m.toNat * n)) else none
    | _, _ => none)
  | .idxV n cnt x i => (match g x, evIG g i with
    | some (.agg vs), some m => bif decide (0 ≤ m) && decide (m < cnt) then takeK vs (m.toNat * n.getD 1) n else none
    | _, _ => none)
  | .part n off x => (match g x with
    | some (.agg vs) => takeK vs off n
    | _ => none)
  | .bin op x y => (match g x, g y with
    | some v, some v' => binV op v v'
    | _, _ => none)
  | .eqb neg x y => (match evBG g x, evBG g y with
    | some a, some b => some (.lit (.bool (bif neg then !(a == b) else (a == b))))
    | _, _ => none)
  | .eqn neg x => (match g x with
    | some (.lit (.slice none 0 0)) => some (.lit (.bool !neg))
    | some (.sl ..) => some (.lit (.bool neg))
    | _ => none)
  | .eqi neg x => (match g x with
    | some (.lit .nilIface) => some (.lit (.bool !neg))
    | some (.ifc ..) => some (.lit (.bool neg))
    | _ => none)
  | .eqp neg x => (match g x with
    | some (.lit (.pointer none)) => some (.lit (.bool !neg))
    | some (.ptr ..) => some (.lit (.bool neg))
    | _ => none)
  | .un op x => (match g x with
    | some v => unV op v
    | none => none)
  | .conv k x => (match evIG g x with
    | some m => some (.lit (.int k (k.wrap m)))
    | none => none)
  | .len x => (match g x with
    | some v => lenV v
    | none => none)
  | .mm b xs => (match gs xs with
    | some (v :: vs) => mms b v vs
    | _ => none)
  | .ext x i => (match g x with
    | some (.tup vs) => nth vs i
    | _ => none)
  | .slc n x lo hi mx => (match g x, evOIG g lo, evOIG g hi, evOIG g mx with
    | some v, some l, some h, some m => slcV n l h m v
    | _, _, _, _ => none)
  | .slcA n cnt x lo hi mx => (match g x, evOIG g lo, evOIG g hi, evOIG g mx with
    | some (.ptr β o), some l, some hh, some m => bif Nat.blt 0 n && Nat.blt cnt (2 ^ 63) && hasCG blk β (o + cnt * n) then (bounds cnt (some cnt) l hh m).map fun (l, hh, c) => .sl β (o + l * n) n (hh - l) c else none
    | _, _, _, _ => none)
  | .nilck x => (match g x with
    | some (.ptr β o) => some (.ptr β o)
    | some (.clo f a b) => some (.clo f a b)
    | _ => none)
  | .clo f first cap => (match gs first, gs cap with
    | some vs, some vs' => some (.clo f vs vs')
    | _, _ => none)
  | .mkI t x => (match g x with
    | some v => some (.ifc t v)
    | none => none)
  | _ => none
theorem evIG_eq (env : List V) (x : X) : evIG (ev env) x = evI env x := rfl
theorem evOIG_eq (env : List V) (x : Option X) : evOIG (ev env) x = evOI env x := by cases x <;> rfl
theorem qG_eq (h : Heap) (env : List V) (i : I) : qG (ev env) (evs env) (blkAt h) i = q h env i := by
  cases i with
  | build z ps => simp only [qG, q, fillG_eq]
  | avo xs y => simp only [qG, q, avoVG_eq]
  | load n x =>
    simp only [qG, q, takeK_eq]
    cases ev env x with
    | none => rfl
    | some v =>
      cases v <;> first | rfl | (simp only []; cases blkAt h _ <;> rfl)
  | idxV n cnt x i => simp only [qG, q, takeK_eq, evIG_eq]; rfl
  | part n off x => simp only [qG, q, takeK_eq]; rfl
  | ext x i => simp only [qG, q, nth_eq]; rfl
  | un op x => simp only [qG, q]; cases ev env x <;> rfl
  | len x => simp only [qG, q]; cases ev env x <;> rfl
  | mkI t x => simp only [qG, q]; cases ev env x <;> rfl
  | slc n x lo hi mx => simp only [qG, q, evOIG_eq]; rfl
  | slcA n cnt x lo hi mx => simp only [qG, q, evOIG_eq]; rfl
  | _ => rfl
/-- What an operation that makes or writes memory yields: all that is new is written down. -/
def fcOb {α : Type} (o : Ob) (k : Ob → α) : α :=
  match o with
  | .blk cs => fcList cs fun cs' => k (.blk cs')
  | o => k o
theorem fcOb_eq {α : Type} (o : Ob) (k : Ob → α) : fcOb o k = k o := by cases o <;> simp [fcOb, fcList_eq]
def setAllK {α : Type} (env : List V) (ps : List Nat) (vs : List V) (k : List V → Option α) : Option α :=
  match ps, vs with
  | [], [] => k env
  | p :: ps, v :: vs => fcV v fun v' => setK env p v' fun env' => setAllK env' ps vs k
  | _, _ => none
theorem setAllK_eq {α : Type} : ∀ (ps : List Nat) (vs : List V) (env : List V) (k : List V → Option α), setAllK env ps vs k = (match setAll env ps vs with | some e => k e | none => none)
  | [], [], env, k => rfl
  | p :: ps, v :: vs, env, k => by simp only [setAllK, setAll, fcV_eq, setK_eq, setAllK_eq ps vs]
  | [], _ :: _, _, _ => rfl
  | _ :: _, [], _, _ => rfl
def resOneK (h : Heap) (env : List V) : RX → Option V
  | .tmp k => nth env k
  | .cell k n => (match nth env k with
    | some (.ptr β o) => (match blkK h β with
      | some cs => takeK cs o n
      | none => none)
    | _ => none)
theorem resOneK_eq (h : Heap) (env : List V) (x : RX) : resOneK h env x = resOne h env x := by
  cases x with
  | tmp k => simp [resOneK, resOne, nth_eq]
  | cell k n =>
    simp only [resOneK, resOne, nth_eq, blkK_eq, takeK_eq]
    cases env[k]? with
    | none => rfl
    | some v => cases v <;> first | rfl | (simp only []; cases blkAt h _ <;> rfl)
def lookT : List (Nat × Fn) → Nat → Option Fn
  | [], _ => none
  | (k, fn) :: r, f => bif Nat.beq k f then some fn else lookT r f
theorem lookT_mem : ∀ (t : List (Nat × Fn)) (f : Nat) (fn : Fn), lookT t f = some fn → (f, fn) ∈ t
  | [], f, fn, h => by cases h
  | (k, fn') :: r, f, fn, h => by
    simp only [lookT] at h
    cases hb : Nat.beq k f with
    | true =>
      simp only [hb, cond_true, Option.some.injEq] at h
      have := Nat.eq_of_beq_eq_true hb
      subst this; subst h
      exact List.mem_cons_self
    | false =>
      simp only [hb, cond_false] at h
      exact List.mem_cons_of_mem _ (lookT_mem r f fn h)
end Go.Mx
