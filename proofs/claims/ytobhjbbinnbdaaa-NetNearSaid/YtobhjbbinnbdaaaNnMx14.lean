/-
  The machine once more, step by step in full, for the kernel: it computes the same. Conditions: none.
-/
import Derived.Test.YtobhjbbinnbdaaaNnMx13
namespace Go.Mx
open Go
def zcy {α : Type} (n : Nat) (k : Nat → α) : α :=
  match n with
  | .zero => k .zero
  | .succ m => k (.succ m)
theorem zbI {α : Type} (n : Nat) (k : Nat → α) : zcy n k = k n := by cases n <;> rfl
def zp9 {α : Type} (n : Int) (k : Int → α) : α :=
  match n with
  | .ofNat m => zcy m fun m' => k (.ofNat m')
  | .negSucc m => zcy m fun m' => k (.negSucc m')
theorem zlc {α : Type} (n : Int) (k : Int → α) : zp9 n k = k n := by cases n <;> simp [zp9, zbI]
def znn {α : Type} (b : Bool) (k : Bool → α) : α :=
  match b with
  | true => k true
  | false => k false
theorem zi3 {α : Type} (b : Bool) (k : Bool → α) : znn b k = k b := by cases b <;> rfl
def zb6 {α β : Type} (l : List β) (k : List β → α) : α :=
  match l with
  | [] => k []
  | x :: r => zb6 r fun r' => k (x :: r')
theorem zbN {α β : Type} : ∀ (l : List β) (k : List β → α), zb6 l k = k l
  | [], _ => rfl
  | x :: r, k => by simp [zb6, zbN r]
def zuJ {α : Type} (o : Option Nat) (k : Option Nat → α) : α :=
  match o with
  | none => k none
  | some n => zcy n fun n' => k (some n')
theorem zn0 {α : Type} (o : Option Nat) (k : Option Nat → α) : zuJ o k = k o := by cases o <;> simp [zuJ, zbI]
def fcV {α : Type} (v : V) (k : V → α) : α :=
  match v with
  | .lit (.int kd n) => zp9 n fun n' => k (.lit (.int kd n'))
  | .lit (.bool b) => znn b fun b' => k (.lit (.bool b'))
  | .lit x => k (.lit x)
  | .ptr β o => zcy β fun β' => zcy o fun o' => k (.ptr β' o')
  | .sl β o n len cap => zcy β fun β' => zcy o fun o' => zcy n fun n' => zcy len fun len' => zuJ cap fun cap' => k (.sl β' o' n' len' cap')
  | .clo f a b => zb6 a fun a' => zb6 b fun b' => k (.clo f a' b')
  | .agg vs => zb6 vs fun vs' => k (.agg vs')
  | .tup vs => zb6 vs fun vs' => k (.tup vs')
  | v => k v
theorem ztj {α : Type} (v : V) (k : V → α) : fcV v k = k v := by
  cases v with
  | lit x => cases x <;> simp [fcV, zlc, zi3]
  | _ => simp [fcV, zbI, zn0, zbN]
def zmE {α β : Type} (l : List β) (n : Nat) (v : β) (k : List β → α) : α :=
  match l with
  | [] => k []
  | x :: r => match n with
    | .zero => k (v :: r)
    | .succ m => zmE r m v fun r' => k (x :: r')
theorem zh9 {α β : Type} : ∀ (l : List β) (n : Nat) (v : β) (k : List β → α), zmE l n v k = k (l.set n v)
  | [], n, v, k => by simp [zmE]
  | x :: r, 0, v, k => by simp [zmE]
  | x :: r, n + 1, v, k => by simp [zmE, zh9 r n]
def nth {β : Type} (l : List β) (n : Nat) : Option β :=
  match l with
  | [] => none
  | x :: r => match n with
    | .zero => some x
    | .succ m => nth r m
theorem ze6 {β : Type} : ∀ (l : List β) (n : Nat), nth l n = l[n]?
  | [], n => by simp [nth]
  | x :: r, 0 => by simp [nth]
  | x :: r, n + 1 => by simp [nth, ze6 r n]
def zuP (h : zaj) (β : Nat) : Option (List V) :=
  match nth h β with
  | some (.blk cs) => some cs
  | _ => none
theorem zon (h : zaj) (β : Nat) : zuP h β = zaD h β := by simp only [zuP, zaD, ze6]; rfl
def zlV (g : X → Option V) (x : X) : Option Int := match g x with | some (.lit (.int _ n)) => some n | _ => none
def zuG (g : X → Option V) (x : X) : Option Bool := match g x with | some (.lit (.bool b)) => some b | _ => none
def zkd (g : X → Option V) : Option X → Option (Option Int)
  | none => some none
  | some x => (zlV g x).map some
def zj0 (cs : List V) (o : Nat) : Option Nat → Option V
  | none => nth cs o
  | some n => (slot o n cs).map .agg
theorem zfZ (cs : List V) (o : Nat) (n : Option Nat) : zj0 cs o n = takeN cs o n := by cases n <;> simp [zj0, takeN, ze6]
def zo6 (g : X → Option V) (cs : List V) : List (Nat × Nat × X) → Option (List V)
  | [] => some cs
  | (off, n, x) :: r => match (g x).bind V.cells with
    | some l => bif (l.length == n) && Nat.ble (off + n) cs.length then zb6 (za1 cs off l) fun cs' => zo6 g cs' r else none
    | none => none
theorem zll (env : List V) : ∀ (ps : List (Nat × Nat × X)) (cs : List V), zo6 (ev env) cs ps = zdW env cs ps
  | [], cs => rfl
  | (off, n, x) :: r, cs => by
    simp only [zo6, zdW, zbN, zll env r]; rfl
def zvd (blk : Nat → Option (List V)) (β n : Nat) : Bool := match blk β with | some cs => Nat.ble n cs.length | none => false
def zpq (g : X → Option V) (blk : Nat → Option (List V)) (β : Nat) (x : X) : Bool := match g x with
  | some (.ptr γ _) => (match blk γ with | some _ => true | none => false) && !(γ == β)
  | _ => false
def zsx (g : X → Option V) (blk : Nat → Option (List V)) (xs : List X) (y : X) : Bool := match g y with
  | some v => (match zmR v with
    | some β => xs.all (zpq g blk β)
    | none => true)
  | none => false
theorem zpx (h : zaj) (env : List V) (xs : List X) (y : X) : zsx (ev env) (zaD h) xs y = zmG h env xs y := by
  have hb : ∀ β, zpq (ev env) (zaD h) β = zrG h env β := by
    intro β
    funext x
    simp only [zpq, zrG]
    cases ev env x with
    | none => rfl
    | some v =>
      cases v with
      | ptr γ o => simp only []; cases zaD h γ <;> rfl
      | _ => rfl
  simp only [zsx, zmG]
  cases ev env y with
  | none => rfl
  | some v =>
    simp only []
    cases zmR v with
    | none => rfl
    | some β => simp only [show zpq (ev env) (zaD h) = zrG h env from funext hb]
def qG (g : X → Option V) (gs : List X → Option (List V)) (blk : Nat → Option (List V)) : I → Option V
  | .mov x => g x
  | .avo xs y => bif zsx g blk xs y then some zaF else none
  | .pick c a b => (match zuG g c with
    | some true => g a
    | some false => g b
    | none => none)
  | .build z parts => (zo6 g (z.map .lit) parts).map .agg
  | .load n x => (match g x with
    | some (.ptr β o) => (match blk β with
      | some cs => zj0 cs o n
      | none => none)
    | _ => none)
  | .fld off x => (match g x with
    | some (.ptr β o) => some (.ptr β (o + off))
    | _ => none)
  | .idxS n x i => (match g x, zlV g i with
    | some (.sl β o n' len _), some m => bif (n == n') && decide (0 ≤ m) && decide (m < len) then some (.ptr β (o + m.toNat * n)) else none
    | _, _ => none)
  | .idxA n cnt x i => (match g x, zlV g i with
    | some (.ptr β o), some m => bif decide (0 ≤ m) && decide (m < cnt) then some (.ptr β (o + m.toNat * n)) else none
    | _, _ => none)
  | .idxV n cnt x i => (match g x, zlV g i with
    | some (.agg vs), some m => bif decide (0 ≤ m) && decide (m < cnt) then zj0 vs (m.toNat * n.getD 1) n else none
    | _, _ => none)
  | .part n off x => (match g x with
    | some (.agg vs) => zj0 vs off n
    | _ => none)
  | .bin op x y => (match g x, g y with
    | some v, some v' => ziJ op v v'
    | _, _ => none)
  | .eqb neg x y => (match zuG g x, zuG g y with
    | some a, some b => some (.lit (.bool (bif neg then !(a == b) else (a == b))))
    | _, _ => none)
  | .eqn neg x => (match g x with
    | some (.lit (.slice none 0 0)) => some (.lit (.bool !neg))
    | some (.sl ..) => some (.lit (.bool neg))
    | _ => none)
  | .eqi neg x => (match g x with
    | some (.lit .nilIface) => some (.lit (.bool !neg))
    | some (.ifc ..) => some (.lit (.bool neg))
    | _ => none)
  | .eqp neg x => (match g x with
    | some (.lit (.pointer none)) => some (.lit (.bool !neg))
    | some (.ptr ..) => some (.lit (.bool neg))
    | _ => none)
  | .un op x => (match g x with
    | some v => unV op v
    | none => none)
  | .conv k x => (match zlV g x with
    | some m => some (.lit (.int k (k.wrap m)))
    | none => none)
  | .len x => (match g x with
    | some v => ztY v
    | none => none)
  | .mm b xs => (match gs xs with
    | some (v :: vs) => mms b v vs
    | _ => none)
  | .ext x i => (match g x with
    | some (.tup vs) => nth vs i
    | _ => none)
  | .slc n x lo hi mx => (match g x, zkd g lo, zkd g hi, zkd g mx with
    | some v, some l, some hh, some m => ztG blk n l hh m v
    | _, _, _, _ => none)
  | .slcA n cnt x lo hi mx => (match g x, zkd g lo, zkd g hi, zkd g mx with
    | some (.ptr β o), some l, some hh, some m => bif Nat.blt 0 n && Nat.blt cnt (2 ^ 63) && zvd blk β (o + cnt * n) then (bounds cnt (some cnt) l hh m).map fun (l, hh, c) => .sl β (o + l * n) n (hh - l) c else none
    | _, _, _, _ => none)
  | .nilck x => (match g x with
    | some (.ptr β o) => some (.ptr β o)
    | some (.clo f a b) => some (.clo f a b)
    | _ => none)
  | .clo f first cap => (match gs first, gs cap with
    | some vs, some vs' => some (.clo f vs vs')
    | _, _ => none)
  | .mkI t x => (match g x with
    | some v => some (.ifc t v)
    | none => none)
  | .chr l i => (match zlV g i with
    | some m => bif decide (0 ≤ m) then (match nth l m.toNat with
      | some b => some (.lit (.int .u8 (Int.ofNat b)))
      | none => none) else none
    | none => none)
  | _ => none
theorem zoD (env : List V) (x : X) : zlV (ev env) x = evI env x := rfl
theorem zk4 (env : List V) (x : Option X) : zkd (ev env) x = zmi env x := by cases x <;> rfl
theorem zuX (h : zaj) (env : List V) (i : I) : qG (ev env) (evs env) (zaD h) i = q h env i := by
  cases i with
  | build z ps => simp only [qG, q, zll]
  | avo xs y => simp only [qG, q, zpx]
  | load n x =>
    simp only [qG, q, zfZ]
    cases ev env x with
    | none => rfl
    | some v =>
      cases v <;> first | rfl | (simp only []; cases zaD h _ <;> rfl)
  | idxV n cnt x i => simp only [qG, q, zfZ, zoD]; rfl
  | part n off x => simp only [qG, q, zfZ]; rfl
  | ext x i => simp only [qG, q, ze6]; rfl
  | un op x => simp only [qG, q]; cases ev env x <;> rfl
  | len x => simp only [qG, q]; cases ev env x <;> rfl
  | mkI t x => simp only [qG, q]; cases ev env x <;> rfl
  | chr l i =>
    simp only [qG, q, zoD, ze6]
    cases evI env i with
    | none => rfl
    | some m => simp only []; cases l[m.toNat]? <;> rfl
  | slc n x lo hi mx => simp only [qG, q, zk4]; rfl
  | slcA n cnt x lo hi mx => simp only [qG, q, zk4]; rfl
  | _ => rfl
def ztD {α : Type} (o : Ob) (k : Ob → α) : α :=
  match o with
  | .blk cs => zb6 cs fun cs' => k (.blk cs')
  | o => k o
theorem zke {α : Type} (o : Ob) (k : Ob → α) : ztD o k = k o := by cases o <;> simp [ztD, zbN]
def ziC {α : Type} (env : List V) (ps : List Nat) (vs : List V) (k : List V → Option α) : Option α :=
  match ps, vs with
  | [], [] => k env
  | p :: ps, v :: vs => fcV v fun v' => zmE env p v' fun env' => ziC env' ps vs k
  | _, _ => none
theorem zg8 {α : Type} : ∀ (ps : List Nat) (vs : List V) (env : List V) (k : List V → Option α), ziC env ps vs k = (match zei env ps vs with | some e => k e | none => none)
  | [], [], env, k => rfl
  | p :: ps, v :: vs, env, k => by simp only [ziC, zei, ztj, zh9, zg8 ps vs]
  | [], _ :: _, _, _ => rfl
  | _ :: _, [], _, _ => rfl
def zgS (h : zaj) (env : List V) : RX → Option V
  | .tmp k => nth env k
  | .cell k n => (match nth env k with
    | some (.ptr β o) => (match zuP h β with
      | some cs => zj0 cs o n
      | none => none)
    | _ => none)
theorem zmd (h : zaj) (env : List V) (x : RX) : zgS h env x = zev h env x := by
  cases x with
  | tmp k => simp [zgS, zev, ze6]
  | cell k n =>
    simp only [zgS, zev, ze6, zon, zfZ]
    cases env[k]? with
    | none => rfl
    | some v => cases v <;> first | rfl | (simp only []; cases zaD h _ <;> rfl)
def zjG : List (Nat × Fn) → Nat → Option Fn
  | [], _ => none
  | (k, fn) :: r, f => bif Nat.beq k f then some fn else zjG r f
theorem zjS : ∀ (t : List (Nat × Fn)) (f : Nat) (fn : Fn), zjG t f = some fn → (f, fn) ∈ t
  | [], f, fn, h => by cases h
  | (k, fn') :: r, f, fn, h => by
    simp only [zjG] at h
    cases hb : Nat.beq k f with
    | true =>
      simp only [hb, cond_true, Option.some.injEq] at h
      have := Nat.eq_of_beq_eq_true hb
      subst this; subst h
      exact List.mem_cons_self
    | false =>
      simp only [hb, cond_false] at h
      exact List.mem_cons_of_mem _ (zjS r f fn h)
end Go.Mx
