/-
  The machine once more, step by step in full, for the kernel: it computes the same. Conditions: none.
-/
import Derived.Test.YtobhjbbinnbdaaaMx13
namespace Go.Mx
open Go
set_option linter.unusedSimpArgs false
set_option linter.unusedVariables false

/-! ### What is computed now is written down now -/
def fcNat {α : Type} (n : Nat) (k : Nat → α) : α :=
  match n with
  | .zero => k .zero
  | .succ m => k (.succ m)
theorem fcNat_eq {α : Type} (n : Nat) (k : Nat → α) : fcNat n k = k n := by cases n <;> rfl
def fcInt {α : Type} (n : Int) (k : Int → α) : α :=
  match n with
  | .ofNat m => fcNat m fun m' => k (.ofNat m')
  | .negSucc m => fcNat m fun m' => k (.negSucc m')
theorem fcInt_eq {α : Type} (n : Int) (k : Int → α) : fcInt n k = k n := by cases n <;> simp [fcInt, fcNat_eq]
def fcBool {α : Type} (b : Bool) (k : Bool → α) : α :=
  match b with
  | true => k true
  | false => k false
theorem fcBool_eq {α : Type} (b : Bool) (k : Bool → α) : fcBool b k = k b := by cases b <;> rfl
def fcList {α β : Type} (l : List β) (k : List β → α) : α :=
  match l with
  | [] => k []
  | x :: r => fcList r fun r' => k (x :: r')
theorem fcList_eq {α β : Type} : ∀ (l : List β) (k : List β → α), fcList l k = k l
  | [], _ => rfl
  | x :: r, k => by simp [fcList, fcList_eq r]
def fcON {α : Type} (o : Option Nat) (k : Option Nat → α) : α :=
  match o with
  | none => k none
  | some n => fcNat n fun n' => k (some n')
theorem fcON_eq {α : Type} (o : Option Nat) (k : Option Nat → α) : fcON o k = k o := by cases o <;> simp [fcON, fcNat_eq]
def fcV {α : Type} (v : V) (k : V → α) : α :=
  match v with
  | .lit (.int kd n) => fcInt n fun n' => k (.lit (.int kd n'))
  | .lit (.bool b) => fcBool b fun b' => k (.lit (.bool b'))
  | .lit x => k (.lit x)
  | .ptr β o => fcNat β fun β' => fcNat o fun o' => k (.ptr β' o')
  | .sl β o n len cap => fcNat β fun β' => fcNat o fun o' => fcNat n fun n' => fcNat len fun len' => fcON cap fun cap' => k (.sl β' o' n' len' cap')
  | .clo f a b => fcList a fun a' => fcList b fun b' => k (.clo f a' b')
  | .agg vs => fcList vs fun vs' => k (.agg vs')
  | .tup vs => fcList vs fun vs' => k (.tup vs')
  | v => k v
theorem fcV_eq {α : Type} (v : V) (k : V → α) : fcV v k = k v := by
  cases v with
  | lit x => cases x <;> simp [fcV, fcInt_eq, fcBool_eq]
  | _ => simp [fcV, fcNat_eq, fcON_eq, fcList_eq]
def setK {α β : Type} (l : List β) (n : Nat) (v : β) (k : List β → α) : α :=
  match l with
  | [] => k []
  | x :: r => match n with
    | .zero => k (v :: r)
    | .succ m => setK r m v fun r' => k (x :: r')
theorem setK_eq {α β : Type} : ∀ (l : List β) (n : Nat) (v : β) (k : List β → α), setK l n v k = k (l.set n v)
  | [], n, v, k => by simp [setK]
  | x :: r, 0, v, k => by simp [setK]
  | x :: r, n + 1, v, k => by simp [setK, setK_eq r n]
def snocK {α β : Type} (l : List β) (v : β) (k : List β → α) : α :=
  match l with
  | [] => k [v]
  | x :: r => snocK r v fun r' => k (x :: r')
theorem snocK_eq {α β : Type} : ∀ (l : List β) (v : β) (k : List β → α), snocK l v k = k (l ++ [v])
  | [], v, k => rfl
  | x :: r, v, k => by simp [snocK, snocK_eq r]
def nth {β : Type} (l : List β) (n : Nat) : Option β :=
  match l with
  | [] => none
  | x :: r => match n with
    | .zero => some x
    | .succ m => nth r m
theorem nth_eq {β : Type} : ∀ (l : List β) (n : Nat), nth l n = l[n]?
  | [], n => by simp [nth]
  | x :: r, 0 => by simp [nth]
  | x :: r, n + 1 => by simp [nth, nth_eq r n]

def evK (env : List V) : X → Option V
  | .c v => some (.lit v)
  | .s k => nth env k
  | .f f => some (.clo f [] [])
theorem evK_eq (env : List V) (x : X) : evK env x = ev env x := by cases x <;> simp [evK, ev, nth_eq]
def evsK (env : List V) : List X → Option (List V)
  | [] => some []
  | x :: r => match evK env x with
    | some v => (match evsK env r with
      | some vs => some (v :: vs)
      | none => none)
    | none => none
theorem evsK_eq (env : List V) : ∀ l, evsK env l = evs env l
  | [] => rfl
  | x :: r => by
    simp only [evsK, evs, evK_eq, evsK_eq env r]
    cases ev env x <;> cases evs env r <;> rfl
def blkK (h : Heap) (β : Nat) : Option (List V) :=
  match nth h β with
  | some (.blk cs) => some cs
  | _ => none
theorem blkK_eq (h : Heap) (β : Nat) : blkK h β = blkAt h β := by simp only [blkK, blkAt, nth_eq]; rfl

def evIG (g : X → Option V) (x : X) : Option Int := match g x with | some (.lit (.int _ n)) => some n | _ => none
def evBG (g : X → Option V) (x : X) : Option Bool := match g x with | some (.lit (.bool b)) => some b | _ => none
def evOIG (g : X → Option V) : Option X → Option (Option Int)
  | none => some none
  | some x => (evIG g x).map some
def takeK (cs : List V) (o : Nat) : Option Nat → Option V
  | none => nth cs o
  | some n => (slot o n cs).map .agg
theorem takeK_eq (cs : List V) (o : Nat) (n : Option Nat) : takeK cs o n = takeN cs o n := by cases n <;> simp [takeK, takeN, nth_eq]
def fillG (g : X → Option V) (cs : List V) : List (Nat × Nat × X) → Option (List V)
  | [] => some cs
  | (off, n, x) :: r => match (g x).bind V.cells with
    | some l => bif (l.length == n) && Nat.ble (off + n) cs.length then fcList (putAt cs off l) fun cs' => fillG g cs' r else none
    | none => none
theorem fillG_eq (env : List V) : ∀ (ps : List (Nat × Nat × X)) (cs : List V), fillG (ev env) cs ps = fillC env cs ps
  | [], cs => rfl
  | (off, n, x) :: r, cs => by
    simp only [fillG, fillC, fcList_eq, fillG_eq env r]; rfl
def hasCG (blk : Nat → Option (List V)) (β n : Nat) : Bool := match blk β with | some cs => Nat.ble n cs.length | none => false
def avoBG (g : X → Option V) (blk : Nat → Option (List V)) (β : Nat) (x : X) : Bool := match g x with
  | some (.ptr γ _) => (match blk γ with | some _ => true | none => false) && !(γ == β)
  | _ => false
def avoVG (g : X → Option V) (blk : Nat → Option (List V)) (xs : List X) (y : X) : Bool := match g y with
  | some v => (match blkV v with
    | some β => xs.all (avoBG g blk β)
    | none => true)
  | none => false
theorem avoVG_eq (h : Heap) (env : List V) (xs : List X) (y : X) : avoVG (ev env) (blkAt h) xs y = avoV h env xs y := by
  have hb : ∀ β, avoBG (ev env) (blkAt h) β = avoB h env β := by
    intro β
    funext x
    simp only [avoBG, avoB]
    cases ev env x with
    | none => rfl
    | some v =>
      cases v with
      | ptr γ o => simp only []; cases blkAt h γ <;> rfl
      | _ => rfl
  simp only [avoVG, avoV]
  cases ev env y with
  | none => rfl
  | some v =>
    simp only []
    cases blkV v with
    | none => rfl
    | some β => simp only [show avoBG (ev env) (blkAt h) = avoB h env from funext hb]
/-- What an operation that leaves the world alone yields. -/
def qG (g : X → Option V) (gs : List X → Option (List V)) (blk : Nat → Option (List V)) : I → Option V
  | .mov x => g x
  | .avo xs y => bif avoVG g blk xs y then some undefV else none
  | .pick c a b => (match evBG g c with
    | some true => g a
    | some false => g b
    | none => none)
  | .build z parts => (fillG g (z.map .lit) parts).map .agg
  | .load n x => (match g x with
    | some (.ptr β o) => (match blk β with
      | some cs => takeK cs o n
      | none => none)
    | _ => none)
  | .fld off x => (match g x with
    | some (.ptr β o) => some (.ptr β (o + off))
    | _ => none)
  | .idxS n x i => (match g x, evIG g i with
    | some (.sl β o n' len _), some m => bif (n == n') && decide (0 ≤ m) && decide (m < len) then some (.ptr β (o + m.toNat * n)) else none
    | _, _ => none)
  | .idxA n cnt x i => (match g x, evIG g i with
    | some (.ptr β o), some m => bif decide (0 ≤ m) && decide (m < cnt) then some (.ptr β (o + m.toNat * n)) else none
    | _, _ => none)
  | .idxV n cnt x i => (match g x, evIG g i with
    | some (.agg vs), some m => bif decide (0 ≤ m) && decide (m < cnt) then takeK vs (m.toNat * n.getD 1) n else none
    | _, _ => none)
  | .part n off x => (match g x with
    | some (.agg vs) => takeK vs off n
    | _ => none)
  | .bin op x y => (match g x, g y with
    | some v, some v' => binV op v v'
    | _, _ => none)
  | .eqb neg x y => (match evBG g x, evBG g y with
    | some a, some b => some (.lit (.bool (bif neg then !(a == b) else (a == b))))
    | _, _ => none)
  | .eqn neg x => (match g x with
    | some (.lit (.slice none 0 0)) => some (.lit (.bool !neg))
    | some (.sl ..) => some (.lit (.bool neg))
    | _ => none)
  | .eqi neg x => (match g x with
    | some (.lit .nilIface) => some (.lit (.bool !neg))
    | some (.ifc ..) => some (.lit (.bool neg))
    | _ => none)
  | .eqp neg x => (match g x with
    | some (.lit (.pointer none)) => some (.lit (.bool !neg))
    | some (.ptr ..) => some (.lit (.bool neg))
    | _ => none)
  | .un op x => (match g x with
    | some v => unV op v
    | none => none)
  | .conv k x => (match evIG g x with
    | some m => some (.lit (.int k (k.wrap m)))
    | none => none)
  | .len x => (match g x with
    | some v => lenV v
    | none => none)
  | .mm b xs => (match gs xs with
    | some (v :: vs) => mms b v vs
    | _ => none)
  | .ext x i => (match g x with
    | some (.tup vs) => nth vs i
    | _ => none)
  | .slc n x lo hi mx => (match g x, evOIG g lo, evOIG g hi, evOIG g mx with
    | some v, some l, some h, some m => slcV n l h m v
    | _, _, _, _ => none)
  | .slcA n cnt x lo hi mx => (match g x, evOIG g lo, evOIG g hi, evOIG g mx with
    | some (.ptr β o), some l, some hh, some m => bif Nat.blt 0 n && Nat.blt cnt (2 ^ 63) && hasCG blk β (o + cnt * n) then (bounds cnt (some cnt) l hh m).map fun (l, hh, c) => .sl β (o + l * n) n (hh - l) c else none
    | _, _, _, _ => none)
  | .nilck x => (match g x with
    | some (.ptr β o) => some (.ptr β o)
    | some (.clo f a b) => some (.clo f a b)
    | _ => none)
  | .clo f first cap => (match gs first, gs cap with
    | some vs, some vs' => some (.clo f vs vs')
    | _, _ => none)
  | .mkI t x => (match g x with
    | some v => some (.ifc t v)
    | none => none)
  | _ => none
theorem evIG_eq (env : List V) (x : X) : evIG (ev env) x = evI env x := rfl
theorem evBG_eq (env : List V) (x : X) : evBG (ev env) x = evB env x := rfl
theorem evOIG_eq (env : List V) (x : Option X) : evOIG (ev env) x = evOI env x := by cases x <;> rfl
theorem qG_eq (h : Heap) (env : List V) (i : I) : qG (ev env) (evs env) (blkAt h) i = q h env i := by
  cases i with
  | build z ps => simp only [qG, q, fillG_eq]
  | avo xs y => simp only [qG, q, avoVG_eq]
  | load n x =>
    simp only [qG, q, takeK_eq]
    cases ev env x with
    | none => rfl
    | some v =>
      cases v <;> first | rfl | (simp only []; cases blkAt h _ <;> rfl)
  | idxV n cnt x i => simp only [qG, q, takeK_eq, evIG_eq]; rfl
  | part n off x => simp only [qG, q, takeK_eq]; rfl
  | ext x i => simp only [qG, q, nth_eq]; rfl
  | un op x => simp only [qG, q]; cases ev env x <;> rfl
  | len x => simp only [qG, q]; cases ev env x <;> rfl
  | mkI t x => simp only [qG, q]; cases ev env x <;> rfl
  | slc n x lo hi mx => simp only [qG, q, evOIG_eq]; rfl
  | slcA n cnt x lo hi mx => simp only [qG, q, evOIG_eq]; rfl
  | _ => rfl
def qK (h : Heap) (env : List V) (i : I) : Option V := qG (evK env) (evsK env) (blkK h) i
theorem qK_eq (h : Heap) (env : List V) (i : I) : qK h env i = q h env i := by
  unfold qK
  rw [← qG_eq, show evK env = ev env from funext (evK_eq env), show evsK env = evs env from funext (evsK_eq env), show blkK h = blkAt h from funext (blkK_eq h)]

/-- What an operation that makes or writes memory yields: all that is new is written down. -/
def fcOb {α : Type} (o : Ob) (k : Ob → α) : α :=
  match o with
  | .blk cs => fcList cs fun cs' => k (.blk cs')
  | o => k o
theorem fcOb_eq {α : Type} (o : Ob) (k : Ob → α) : fcOb o k = k o := by cases o <;> simp [fcOb, fcList_eq]
def snocO {α : Type} (h : Heap) (o : Ob) (k : Heap → α) : α := fcOb o fun o' => snocK h o' k
theorem snocO_eq {α : Type} (h : Heap) (o : Ob) (k : Heap → α) : snocO h o k = k (h ++ [o]) := by simp [snocO, fcOb_eq, snocK_eq]
def setO {α : Type} (h : Heap) (β : Nat) (o : Ob) (k : Heap → α) : α := fcOb o fun o' => setK h β o' k
theorem setO_eq {α : Type} (h : Heap) (β : Nat) (o : Ob) (k : Heap → α) : setO h β o k = k (h.set β o) := by simp [setO, fcOb_eq, setK_eq]
def fillSK (env : List V) (n : Nat) (cs : List V) : List (Nat × X) → Option (List V)
  | [] => some cs
  | (i, x) :: r => match (evK env x).bind V.cells with
    | some l => bif (l.length == n) && Nat.ble (i * n + n) cs.length then fcList (putAt cs (i * n) l) fun cs' => fillSK env n cs' r else none
    | none => none
theorem fillSK_eq (env : List V) (n : Nat) : ∀ (ps : List (Nat × X)) (cs : List V), fillSK env n cs ps = fillS env n cs ps
  | [], cs => rfl
  | (i, x) :: r, cs => by simp only [fillSK, fillS, fcList_eq, fillSK_eq env n r, evK_eq]; rfl
def effK {α : Type} (B : Nat) (h : Heap) (env : List V) (i : I) (k : V → Heap → α) (fail : α) : α :=
  match i with
  | .alloc z => fcNat h.length fun n => snocO h (.blk (z.map .lit)) fun h' => k (.ptr n 0) h'
  | .box x => (match (evK env x).bind V.cells with
    | some l => fcNat h.length fun n => snocO h (.blk l) fun h' => k (.ptr n 0) h'
    | none => fail)
  | .bsl n len z parts => (match fillSK env n (reps len (z.map .lit)) parts with
    | some cs => fcNat h.length fun m => snocO h (.blk cs) fun h' => k (.sl m 0 n len (some len)) h'
    | none => fail)
  | .store n a x => (match evK env a with
    | some (.ptr β o) => (match (evK env x).bind V.cells with
      | some l => (match blkK h β with
        | some cs => bif Nat.ble B β && (l.length == n) && Nat.ble (o + n) cs.length then setO h β (.blk (putAt cs o l)) fun h' => k undefV h' else fail
        | none => fail)
      | none => fail)
    | _ => fail)
  | i => match eff B h env i with
    | some (v, h') => fcList h' fun h'' => k v h''
    | none => fail
theorem effK_eq {α : Type} (B : Nat) (h : Heap) (env : List V) (i : I) (k : V → Heap → α) (fail : α) : effK B h env i k fail = (match eff B h env i with | some (v, h') => k v h' | none => fail) := by
  cases i with
  | alloc z => simp only [effK, eff, fcNat_eq, snocO_eq]
  | box x =>
    simp only [effK, eff, fcNat_eq, snocO_eq, evK_eq]
    cases (ev env x).bind V.cells <;> rfl
  | bsl n len z ps =>
    simp only [effK, eff, fcNat_eq, snocO_eq, fillSK_eq]
    cases fillS env n (reps len (z.map .lit)) ps <;> rfl
  | store n a x =>
    simp only [effK, eff, setO_eq, evK_eq, blkK_eq]
    cases ev env a with
    | none => cases (ev env x).bind V.cells <;> rfl
    | some va =>
      cases va with
      | ptr β o =>
        cases (ev env x).bind V.cells with
        | none => rfl
        | some l =>
          simp only []
          cases blkAt h β with
          | none => rfl
          | some cs => simp only []; cases Nat.ble B β && (l.length == n) && Nat.ble (o + n) cs.length <;> rfl
      | _ => cases (ev env x).bind V.cells <;> rfl
  | _ => simp only [effK, fcList_eq]

def putK {α : Type} (S : St) (d : Option Nat) (v : V) (k : St → α) : α :=
  match d with
  | none => k S
  | some n => fcV v fun v' => setK S.env n v' fun env' => k ⟨env', S.dfs, S.heap⟩
theorem putK_eq {α : Type} (S : St) (d : Option Nat) (v : V) (k : St → α) : putK S d v k = k (S.put d v) := by cases d <;> simp [putK, St.put, fcV_eq, setK_eq]
def wantedK (env : List V) : Option (Nat × Bool) → Bool
  | none => true
  | some (k, want) => match nth env k with
    | some (.lit (.bool b)) => b == want
    | _ => false
theorem wantedK_eq (env : List V) (g : Option (Nat × Bool)) : wantedK env g = wanted env g := by
  cases g with
  | none => rfl
  | some kw => simp only [wantedK, wanted, nth_eq]; rfl
def setAllK {α : Type} (env : List V) (ps : List Nat) (vs : List V) (k : List V → Option α) : Option α :=
  match ps, vs with
  | [], [] => k env
  | p :: ps, v :: vs => fcV v fun v' => setK env p v' fun env' => setAllK env' ps vs k
  | _, _ => none
theorem setAllK_eq {α : Type} : ∀ (ps : List Nat) (vs : List V) (env : List V) (k : List V → Option α), setAllK env ps vs k = (match setAll env ps vs with | some e => k e | none => none)
  | [], [], env, k => rfl
  | p :: ps, v :: vs, env, k => by simp only [setAllK, setAll, fcV_eq, setK_eq, setAllK_eq ps vs]
  | [], _ :: _, _, _ => rfl
  | _ :: _, [], _, _ => rfl
def setLoopK {α : Type} (h : Heap) (l : Nat) (st : Bool) (pend : Option Jump) (k : Heap → Option α) : Option α :=
  match nth h l with
  | some (.loop _ _ env ps asg body) => setK h l (.loop st pend env ps asg body) k
  | _ => none
theorem setLoopK_eq {α : Type} (h : Heap) (l : Nat) (st : Bool) (pend : Option Jump) (k : Heap → Option α) : setLoopK h l st pend k = (match setLoop h l st pend with | some h' => k h' | none => none) := by
  unfold setLoopK setLoop
  rw [nth_eq]
  cases h[l]? with
  | none => rfl
  | some o => cases o <;> simp [setK_eq]
def roundEndK (l : Nat) : Option (Ex × St) → Option (CR × Heap)
  | some (.normal, ⟨_, [], h⟩) => setLoopK h l true none fun h' => some (.ret (.lit (.bool true)), h')
  | some (.ret, ⟨_, [], h⟩) => setLoopK h l false (some .ret) fun h' => some (.ret (.lit (.bool false)), h')
  | some (.exit id, ⟨_, [], h⟩) => setLoopK h l false (some (.exit id)) fun h' => some (.ret (.lit (.bool false)), h')
  | _ => none
theorem roundEndK_eq (l : Nat) (x : Option (Ex × St)) : roundEndK l x = roundEnd l x := by
  cases x with
  | none => rfl
  | some p =>
    obtain ⟨ex, env, dfs, h⟩ := p
    cases ex with
    | normal => cases dfs <;> simp only [roundEndK, roundEnd, setLoopK_eq]; cases setLoop h l true none <;> rfl
    | ret => cases dfs <;> simp only [roundEndK, roundEnd, setLoopK_eq]; cases setLoop h l false (some .ret) <;> rfl
    | exit id => cases dfs <;> simp only [roundEndK, roundEnd, setLoopK_eq]; cases setLoop h l false (some (.exit id)) <;> rfl
    | panic v e => cases dfs <;> rfl
def roundK (r : Rec) (B l : Nat) (vs : List V) (h : Heap) : Option (CR × Heap) :=
  match nth h l with
  | some (.loop true none env ps asg body) => bif Nat.ble B l then (setAllK env ps vs fun env' => (match r.code B (some l) asg ⟨env', [], h⟩ with
      | some (.normal, ⟨env1, [], h1⟩) => (match nth h1 l with
        | some (.loop true none e1 p1 a1 b1) => setK h1 l (.loop false none e1 p1 a1 b1) fun h2 => roundEndK l (r.code B (some l) body ⟨env1, [], h2⟩)
        | _ => none)
      | _ => none)) else none
  | _ => none
theorem roundK_eq (r : Rec) (B l : Nat) (vs : List V) (h : Heap) : roundK r B l vs h = round r B l vs h := by
  unfold roundK round
  simp only [nth_eq, setAllK_eq, setK_eq, roundEndK_eq]
  rfl
def callVK (r : Rec) (B : Nat) (v : V) (vs : List V) (h : Heap) : Option (CR × Heap) :=
  match v with
  | .clo f first cap => fcList (first ++ vs ++ cap) fun l => r.call B f l h
  | .yld l => roundK r B l vs h
  | _ => none
theorem callVK_eq (r : Rec) (B : Nat) (v : V) (vs : List V) (h : Heap) : callVK r B v vs h = callV r B v vs h := by
  unfold callVK callV
  simp only [fcList_eq, roundK_eq]
  rfl
def finOK (e : Bool) (o : O) (S : St) (x : Option (CR × Heap)) (k : St → Option (Ex × St)) : Option (Ex × St) :=
  match x with
  | some (.ret v, h) => putK ⟨S.env, S.dfs, h⟩ o.dst v k
  | some (.pan v, h) => some (.panic v e, ⟨S.env, S.dfs, h⟩)
  | none => none
theorem finOK_eq (e : Bool) (o : O) (S : St) (x : Option (CR × Heap)) (k : St → Option (Ex × St)) : finOK e o S x k = finO e o S x k := by
  unfold finOK finO
  simp only [putK_eq]
  rfl
def stepOK (r : Rec) (B : Nat) (bar top e : Bool) (S : St) (o : O) (k : St → Option (Ex × St)) : Option (Ex × St) :=
  match wantedK S.env o.g with
  | false => putK S o.dst undefV k
  | true => match o.i with
    | .call f xs => (match evsK S.env xs with
      | some vs => fcNat (bif bar then S.heap.length else B) fun B' => finOK e o S (r.call B' f vs S.heap) k
      | none => none)
    | .callv x xs => (match evK S.env x with
      | some v => (match evsK S.env xs with
        | some vs => fcNat (bif bar then S.heap.length else B) fun B' => finOK e o S (callVK r B' v vs S.heap) k
        | none => none)
      | none => none)
    | .panic x => (match evK S.env x with
      | some (.ifc t v) => some (.panic (.ifc t v) e, S)
      | _ => none)
    | .defer x xs => (match evK S.env x with
      | some (.clo f first cap) => (match evsK S.env xs with
        | some vs => bif top then fcList (first ++ vs ++ cap) fun l => putK ⟨S.env, .fn f l :: S.dfs, S.heap⟩ o.dst undefV k else none
        | none => none)
      | _ => none)
    | i => bif quietI i then (match qK S.heap S.env i with
        | some v => putK S o.dst v k
        | none => none)
      else effK B S.heap S.env i (fun v h => putK ⟨S.env, S.dfs, h⟩ o.dst v k) none
theorem stepOK_eq (r : Rec) (B : Nat) (bar top e : Bool) (S : St) (o : O) (k : St → Option (Ex × St)) : stepOK r B bar top e S o k = stepO r B bar top e S o k := by
  unfold stepOK stepO
  simp only [wantedK_eq, putK_eq, evsK_eq, evK_eq, fcNat_eq, finOK_eq, callVK_eq, fcList_eq, qK_eq, effK_eq]
  cases wanted S.env o.g with
  | false => rfl
  | true =>
    simp only []
    cases o.i with
    | callv x xs => simp only []; cases ev S.env x <;> cases evs S.env xs <;> rfl
    | defer x xs =>
      simp only []
      cases ev S.env x with
      | none => cases evs S.env xs <;> rfl
      | some v => cases v <;> cases evs S.env xs <;> rfl
    | _ => rfl
def runOpsK (r : Rec) (B : Nat) (bar top e : Bool) : List O → St → Option (Ex × St)
  | [], S => some (.normal, S)
  | o :: l, S => stepOK r B bar top e S o (runOpsK r B bar top e l)
theorem runOpsK_eq (r : Rec) (B : Nat) (bar top e : Bool) : ∀ (l : List O), runOpsK r B bar top e l = runOps r B bar top e l
  | [] => by funext S; rfl
  | o :: l => by
    funext S
    simp only [runOpsK, runOps, stepOK_eq, runOpsK_eq r B bar top e l]
def evBK (env : List V) (x : X) : Option Bool := match evK env x with | some (.lit (.bool b)) => some b | _ => none
theorem evBK_eq (env : List V) (x : X) : evBK env x = evB env x := by simp only [evBK, evB, evK_eq]; rfl
def execK (r : Rec) (B : Nat) (rd : Option Nat) : C → St → Option (Ex × St)
  | .skip, S => some (.normal, S)
  | .label _, S => some (.normal, S)
  | .reg dr bar os, S => runOpsK r B bar rd.isNone (!dr) os S
  | .seq a b, S => (match execK r B rd a S with
    | some (.normal, S') => execK r B rd b S'
    | x => x)
  | .cond x a b, S => (match evBK S.env x with
    | some true => execK r B rd a S
    | some false => execK r B rd b S
    | none => none)
  | .block id c, S => (match execK r B rd c S with
    | some (.exit id', S') => bif id' == id then some (.normal, S') else some (.exit id', S')
    | x => x)
  | .loop c, S => (match execK r B rd c S with
    | some (.normal, S') => r.code B rd (.loop c) S'
    | x => x)
  | .scope c, S => execK r B rd c S
  | .exit id, S => some (.exit id, S)
  | .ret, S => some (.ret, S)
  | .rfunc x ps asg body, S => fcList (lpHeap rd S) fun hh => (match evK S.env x with
    | some (.clo gf first cap) =>
      bif !(rdOk rd S.heap) then none else
      fcNat hh.length fun n => fcList (first ++ [.yld n] ++ cap) fun args => snocK hh (.loop true none S.env ps asg body) fun h0 =>
      (match r.call B gf args h0 with
      | some (.ret _, h) => (match nth h n with
        | some (.loop true none _ _ _ _) => setK h n .dead fun h' => some (.normal, ⟨S.env, lpDfs rd S, h'⟩)
        | some (.loop false (some j) _ _ _ _) => setK h n .dead fun h' => some (jumpEx j, ⟨S.env, lpDfs rd S, h'⟩)
        | _ => none)
      | some (.pan v, h) => some (.panic v true, ⟨S.env, lpDfs rd S, h⟩)
      | none => none)
    | _ => none)
  | .bad, _ => none
theorem execK_eq (r : Rec) (B : Nat) (rd : Option Nat) : ∀ (c : C), execK r B rd c = exec r B rd c
  | .skip => rfl
  | .label _ => rfl
  | .reg dr bar os => by funext S; simp only [execK, exec, runOpsK_eq]
  | .seq a b => by funext S; simp only [execK, exec, execK_eq r B rd a, execK_eq r B rd b]; rfl
  | .cond x a b => by funext S; simp only [execK, exec, execK_eq r B rd a, execK_eq r B rd b, evBK_eq]; rfl
  | .block id c => by funext S; simp only [execK, exec, execK_eq r B rd c]; rfl
  | .loop c => by funext S; simp only [execK, exec, execK_eq r B rd c]; rfl
  | .scope c => by funext S; simp only [execK, exec, execK_eq r B rd c]
  | .exit _ => rfl
  | .ret => rfl
  | .rfunc x ps asg body => by funext S; simp only [execK, exec, fcList_eq, fcNat_eq, evK_eq, snocK_eq, setK_eq, nth_eq]; rfl
  | .bad => rfl
def leaveK (r : Rec) (B : Nat) (pv : Option V) : List Df → Heap → Option (Option V × Heap)
  | [], h => some (pv, h)
  | .coll d :: ds, h => (match nth h d with
    | some .dfr => bif Nat.ble B d then setK h d .dead fun h' => leaveK r B pv ds h' else none
    | _ => none)
  | .fn f args :: ds, h => (match r.dcall B f args pv h with
    | some (pv', h') => leaveK r B pv' ds h'
    | none => none)
theorem leaveK_eq (r : Rec) (B : Nat) : ∀ (ds : List Df) (pv : Option V) (h : Heap), leaveK r B pv ds h = leave r B pv ds h
  | [], pv, h => rfl
  | .coll d :: ds, pv, h => by simp only [leaveK, leave, nth_eq, setK_eq, leaveK_eq r B ds]; rfl
  | .fn f args :: ds, pv, h => by simp only [leaveK, leave, leaveK_eq r B ds]; rfl
def resOneK (h : Heap) (env : List V) : RX → Option V
  | .tmp k => nth env k
  | .cell k n => (match nth env k with
    | some (.ptr β o) => (match blkK h β with
      | some cs => takeK cs o n
      | none => none)
    | _ => none)
def resAllK {α : Type} (h : Heap) (env : List V) (k : List V → Option α) : List RX → Option α
  | [] => k []
  | x :: r => match resOneK h env x with
    | some v => fcV v fun v' => resAllK h env (fun vs => k (v' :: vs)) r
    | none => none
theorem resOneK_eq (h : Heap) (env : List V) (x : RX) : resOneK h env x = resOne h env x := by
  cases x with
  | tmp k => simp [resOneK, resOne, nth_eq]
  | cell k n =>
    simp only [resOneK, resOne, nth_eq, blkK_eq, takeK_eq]
    cases env[k]? with
    | none => rfl
    | some v => cases v <;> first | rfl | (simp only []; cases blkAt h _ <;> rfl)
theorem resAllK_eq {α : Type} (h : Heap) (env : List V) : ∀ (l : List RX) (k : List V → Option α), resAllK h env k l = (resAll h env l).bind k
  | [], k => rfl
  | x :: r, k => by
    simp only [resAllK, resAll, resOneK_eq, fcV_eq, resAllK_eq h env r]
    cases resOne h env x <;> cases resAll h env r <;> rfl
def finK (r : Rec) (B : Nat) (fn : Fn) (pv : Option V) (e : Bool) (S : St) : Option (CR × Heap) :=
  match leaveK r B pv S.dfs S.heap with
  | some (none, h) => bif !e then none else resAllK h S.env (fun vs => some (.ret (mkRes vs), h)) fn.rs
  | some (some v, h) => some (.pan v, h)
  | none => none
theorem finK_eq (r : Rec) (B : Nat) (fn : Fn) (pv : Option V) (e : Bool) (S : St) : finK r B fn pv e S = fin r B fn pv e S := by
  unfold finK fin
  simp only [leaveK_eq, resAllK_eq]
  cases leave r B pv S.dfs S.heap with
  | none => rfl
  | some x =>
    obtain ⟨pv', h⟩ := x
    cases pv' with
    | some v => rfl
    | none => cases e <;> simp only [Bool.not_true, Bool.not_false, cond_true, cond_false]; cases resAll h S.env fn.rs <;> rfl
def bodyK (r : Rec) (fn : Fn) (B : Nat) (args : List V) (h : Heap) : Option (CR × Heap) :=
  bif Nat.ble args.length fn.N then
    fcList (args ++ List.replicate (fn.N - args.length) undefV) fun env => (match execK r B none fn.c ⟨env, [], h⟩ with
    | some (.normal, S) => finK r B fn none true S
    | some (.ret, S) => finK r B fn none true S
    | some (.panic v e, S) => finK r B fn (some v) e S
    | _ => none) else none
theorem bodyK_eq (r : Rec) (fn : Fn) (B : Nat) (args : List V) (h : Heap) : bodyK r fn B args h = body r fn B args h := by
  unfold bodyK body
  simp only [fcList_eq, execK_eq, finK_eq]
  rfl
def callFK (r : Rec) (fns : Nat → Option Fn) (B : Nat) (f : Nat) (args : List V) (h : Heap) : Option (CR × Heap) :=
  match fns f with
  | some fn => bif fn.p then (bif Nat.ble B h.length then fcNat h.length fun B' => forget h (bodyK r fn B' args h) else none) else bodyK r fn B args h
  | none => none
theorem callFK_eq (r : Rec) (fns : Nat → Option Fn) (B : Nat) (f : Nat) (args : List V) (h : Heap) : callFK r fns B f args h = callF r fns B f args h := by
  unfold callFK callF
  simp only [fcNat_eq, bodyK_eq]
  rfl
def Rec.stepK (fns : Nat → Option Fn) (r : Rec) : Rec := ⟨execK r, callFK r fns, callD r fns⟩
def runK (fns : Nat → Option Fn) : Nat → Rec
  | 0 => Rec.none
  | n + 1 => Rec.stepK fns (runK fns n)
theorem runK_eq (fns : Nat → Option Fn) : ∀ n, runK fns n = run fns n
  | 0 => rfl
  | n + 1 => by
    simp only [runK, run, Rec.stepK, Rec.step, runK_eq fns n]
    congr 1
    · funext B rd c; rw [execK_eq]
    · funext B f args h; rw [callFK_eq]

def lookT : List (Nat × Fn) → Nat → Option Fn
  | [], _ => none
  | (k, fn) :: r, f => bif Nat.beq k f then some fn else lookT r f
theorem lookT_mem : ∀ (t : List (Nat × Fn)) (f : Nat) (fn : Fn), lookT t f = some fn → (f, fn) ∈ t
  | [], f, fn, h => by cases h
  | (k, fn') :: r, f, fn, h => by
    simp only [lookT] at h
    cases hb : Nat.beq k f with
    | true =>
      simp only [hb, cond_true, Option.some.injEq] at h
      have := Nat.eq_of_beq_eq_true hb
      subst this; subst h
      exact List.mem_cons_self
    | false =>
      simp only [hb, cond_false] at h
      exact List.mem_cons_of_mem _ (lookT_mem r f fn h)
def okTrue : Option (CR × Heap) → Bool
  | some (.ret (.lit (.bool b)), _) => b
  | _ => false
/-- A run that the kernel has seen. -/
theorem calls_of_run {P : Program} (hm : P.follows .mixedOrders = true) {tab : List (Nat × Fn)} (htab : ∀ x ∈ tab, FnOk P x.1 x.2) {n f : Nat} (h : okTrue ((runK (lookT tab) n).call 0 f [] []) = true) (w : World) :
    Calls P f #[] w fun e w' => e = .returned (.bool true) ∧ Go.RowKit.Below w.heap.size w w' := by
  rw [runK_eq] at h
  have hok := run_ok hm (fns := lookT tab) (fun f fn hf => htab _ (lookT_mem tab f fn hf)) n
  cases hc : (run (lookT tab) n).call 0 f [] [] with
  | none => rw [hc] at h; cases h
  | some res =>
    obtain ⟨cr, h'⟩ := res
    rw [hc] at h
    have hS : Sim P 0 w (fun _ => none) [] w := ⟨Nat.le_refl _, Go.RowKit.Below.refl _ _, by simp, by simp, by simp, by simp, by simp⟩
    obtain ⟨_, hcalls⟩ := (hok.call _ _ _ _ _ _ hc).1 w (fun _ => none) w #[] hS ⟨rfl, by simp⟩
    have hw : CallsIn Fence.wide 0 P f #[] w (CPost P 0 w (fun _ => none) cr h') := hcalls
    refine Calls.mono (callsIn_wide.1 hw) fun e w' hp => ?_
    obtain ⟨ι', _, hS', hp⟩ := hp
    unfold okTrue at h
    split at h
    · rename_i b h2 heq
      cases heq
      obtain ⟨u, rfl, hv⟩ := hp
      cases hv
      subst h
      exact ⟨rfl, hS'.below⟩
    · cases h
end Go.Mx
