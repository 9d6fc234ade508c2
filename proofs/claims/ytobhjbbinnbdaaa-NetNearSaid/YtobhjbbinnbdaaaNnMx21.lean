/-
  The machine with tries: one operation. Conditions: none.
-/
import Derived.Test.YtobhjbbinnbdaaaNnMx20
namespace Go.Mx
open Go
abbrev Sy := RecY → Nat → Bool → Bool → Bool → TY → O → KY → Option (Ex × TY)
def zfA (v : Option V) (T : TY) (o : O) (k : KY) : Option (Ex × TY) :=
  match v with
  | some v => zpy T o.dst v k
  | none => none
def zmK (e : Option EffR) (T : TY) (o : O) (k : KY) : Option (Ex × TY) :=
  match e with
  | some e => apY T.hp e fun v H => zpy (zoK T H) o.dst v k
  | none => none
def zey (i : I) : Sy := fun _ B _ _ _ T o k =>
  bif zah i then zfA (qF (evY T) (zqW T) (zmV T.hp) i) T o k else zmK (zqG B (zmV T.hp) (evY T) i) T o k
def zuK (e : Bool) (o : O) (T : TY) (x : Option (CR × HY)) (k : KY) : Option (Ex × TY) :=
  match x with
  | some (.ret v, H) => zpy (zoK T H) o.dst v k
  | some (.pan v, H) => some (.panic v e, zoK T H)
  | none => none
def zsM (f : Nat) (vs : Option (List V)) : Sy := fun r B bar _ e T o k =>
  match vs with
  | some vs => zcy (bif bar then T.hp.n else B) fun B' => zvm T fun H => zuK e o T (r.call B' f vs H) k
  | none => none
def zso (f : Nat) (xs : List X) : Sy := fun r B bar top e T o k => zsM f (zqW T xs) r B bar top e T o k
def zrm (v : Option V) (vs : Option (List V)) : Sy := fun r B bar _ e T o k =>
  match v with
  | some v => (match vs with
    | some vs => zcy (bif bar then T.hp.n else B) fun B' => zvm T fun H => zuK e o T (zn7 r B' v vs H) k
    | none => none)
  | none => none
def zmU (x : X) (xs : List X) : Sy := fun r B bar top e T o k => zrm (evY T x) (zqW T xs) r B bar top e T o k
def zrj (v : Option V) (e : Bool) (T : TY) : Option (Ex × TY) :=
  match v with
  | some (.ifc t v) => some (.panic (.ifc t v) e, T)
  | _ => none
def zoL (x : X) : Sy := fun _ _ _ _ e T _ _ => zrj (evY T x) e T
def zqM (v : Option V) (vs : Option (List V)) (top : Bool) (T : TY) (o : O) (k : KY) : Option (Ex × TY) :=
  match v with
  | some (.clo f first cap) => (match vs with
    | some vs => bif top then zb6 (first ++ vs ++ cap) fun l => zpy ⟨T.N, T.env, .fn f l :: T.dfs, T.hp⟩ o.dst zaF k else none
    | none => none)
  | _ => none
def znR (x : X) (xs : List X) : Sy := fun _ _ _ top _ T o k => zqM (evY T x) (zqW T xs) top T o k
def zfN (i : I) : Sy :=
  match i with
  | .call f xs => zso f xs
  | .zbb x xs => zmU x xs
  | .panic x => zoL x
  | .defer x xs => znR x xs
  | i => zey i
theorem zpK {rY : RecY} {r : Rec} (hr : RRY rY r) {B : Nat} {bar top e : Bool} {T T' : TY} {S : St} {o : O} {kY : KY} {k : St → Option (Ex × St)} {ex : Ex} (hS : RY T S) (hw : wanted S.env o.g = true)
    (hk : ∀ T1 S1, RY T1 S1 → kY T1 = some (ex, T') → ∃ S', k S1 = some (ex, S') ∧ RY T' S') (hc : zfN o.i rY B bar top e T o kY = some (ex, T')) : ∃ S', zbT r B bar top e S o k = some (ex, S') ∧ RY T' S' := by
  have hput : ∀ {T1 : TY} {S1 : St} {v : V}, RY T1 S1 → zpy T1 o.dst v kY = some (ex, T') → ∃ S', k (S1.put o.dst v) = some (ex, S') ∧ RY T' S' := by
    intro T1 S1 v h1 h2
    obtain ⟨T2, g1, g2⟩ := zoB h1 h2
    exact hk _ _ g1 g2
  have hfin : ∀ {x : Option (CR × HY)} {y : Option (CR × zaj)}, (∀ cr H', x = some (cr, H') → ∃ h', y = some (cr, h') ∧ zdL H' h') → zuK e o T x kY = some (ex, T') → ∃ S', zj3 e o S y k = some (ex, S') ∧ RY T' S' := by
    intro x y hxy hf
    unfold zuK at hf
    split at hf
    · rename_i v H
      obtain ⟨h', g1, g2⟩ := hxy _ _ rfl
      rw [g1]
      exact hput (hS.heap g2) hf
    · rename_i v H
      obtain ⟨h', g1, g2⟩ := hxy _ _ rfl
      rw [g1]
      simp only [Option.some.injEq, Prod.mk.injEq] at hf
      obtain ⟨rfl, rfl⟩ := hf
      exact ⟨_, rfl, hS.heap g2⟩
    · cases hf
  have hn : T.hp.n = S.heap.length := hS.2.2.2.1
  unfold zbT
  rw [hw]
  simp only []
  have plain : ∀ i, zey i rY B bar top e T o kY = some (ex, T') →
      ∃ S', (bif zah i then (match q S.heap S.env i with | some v => k (S.put o.dst v) | none => none) else (match eff B S.heap S.env i with | some (v, h) => k ({ S with heap := h }.put o.dst v) | none => none)) = some (ex, S') ∧ RY T' S' := by
    intro i hi
    unfold zey at hi
    rw [show evY T = ev S.env from funext (zgq hS), show zqW T = evs S.env from funext (zgO hS), show zmV T.hp = zaD S.heap from funext (zki hS.2.2.2)] at hi
    cases hq : zah i with
    | true =>
      rw [hq, cond_true, zuT, zuX] at hi
      simp only [cond_true]
      unfold zfA at hi
      split at hi
      · exact hput hS hi
      · cases hi
    | false =>
      rw [hq, cond_false] at hi
      simp only [cond_false]
      rw [← zrB]
      unfold zmK at hi
      split at hi
      · rename_i er her
        rw [her]
        obtain ⟨H', g1, g2⟩ := ztp hS.2.2.2 hi
        simp only [Option.map_some]
        exact hput (hS.heap g1) g2
      · cases hi
  cases hi : o.i with
  | call f xs =>
    rw [hi] at hc
    simp only [zfN, zso, zsM, zgO hS, zbI, hn, zmS] at hc
    simp only []
    split at hc
    · rename_i vs hvs
      rw [hvs]
      exact hfin (fun cr H' hz => hr.call _ _ _ _ _ _ _ hS.2.2.2 hz) hc
    · cases hc
  | zbb x xs =>
    rw [hi] at hc
    simp only [zfN, zmU, zrm, zgO hS, zgq hS, zbI, hn, zmS] at hc
    simp only []
    split at hc
    · rename_i v hv
      split at hc
      · rename_i vs hvs
        rw [hv, hvs]
        exact hfin (fun cr H' hz => zm9 hr hS.2.2.2 hz) hc
      · cases hc
    · cases hc
  | panic x =>
    rw [hi] at hc
    simp only [zfN, zoL, zrj, zgq hS] at hc
    simp only []
    split at hc
    · rename_i t v hv
      rw [hv]
      simp only [Option.some.injEq, Prod.mk.injEq] at hc
      obtain ⟨rfl, rfl⟩ := hc
      exact ⟨S, rfl, hS⟩
    · cases hc
  | defer x xs =>
    rw [hi] at hc
    simp only [zfN, znR, zqM, zgO hS, zgq hS, zbN] at hc
    simp only []
    split at hc
    · rename_i f first cap hv
      split at hc
      · rename_i vs hvs
        rw [hv, hvs]
        cases top with
        | true =>
          simp only [cond_true] at hc ⊢
          exact hput (T1 := ⟨T.N, T.env, .fn f (first ++ vs ++ cap) :: T.dfs, T.hp⟩) (S1 := { S with dfs := .fn f (first ++ vs ++ cap) :: S.dfs }) ⟨hS.1, hS.2.1, by rw [hS.2.2.1], hS.2.2.2⟩ hc
        | false => simp only [cond_false] at hc; cases hc
      · cases hc
    · cases hc
  | _ => rw [hi] at hc; exact plain _ hc
def zlh (p : Option V) (H : HY) (n : Option Nat) : Option V :=
  match p with
  | some (.ptr β o) => (match zmV H β with
    | some cs => zj0 cs o n
    | none => none)
  | _ => none
def zq5 (c : Option Bool) (T : TY) (a b : X) : Option V :=
  match c with
  | some true => evY T a
  | some false => evY T b
  | none => none
def zv0 (x : X) : Sy := fun _ _ _ _ _ T o k => zfA (evY T x) T o k
def zsN (n : Option Nat) (x : X) : Sy := fun _ _ _ _ _ T o k => zfA (zlh (evY T x) T.hp n) T o k
def zv8 (off : Nat) (x : X) : Sy := fun _ _ _ _ _ T o k => zfA (zv7 (evY T x) off) T o k
def zt0 (n : Nat) (x i : X) : Sy := fun _ _ _ _ _ T o k => zfA (zt6 n (evY T x) (ztf (evY T i))) T o k
def zuf (n cnt : Nat) (x i : X) : Sy := fun _ _ _ _ _ T o k => zfA (zuy n cnt (evY T x) (ztf (evY T i))) T o k
def zvF (op : BinOp) (x y : X) : Sy := fun _ _ _ _ _ T o k => zfA (zvr (bOp op) (intOf (evY T x)) (intOf (evY T y))) T o k
def ztV (kd : IntKind) (x : X) : Sy := fun _ _ _ _ _ T o k => zfA (zts kd (intOf (evY T x))) T o k
def zt4 (c a b : X) : Sy := fun _ _ _ _ _ T o k => zfA (zq5 (zlm (evY T c)) T a b) T o k
def yUn (op : UnOp) (x : X) : Sy := fun _ _ _ _ _ T o k => zfA (xUn op (evY T x)) T o k
def zwn (x : X) : Sy := fun _ _ _ _ _ T o k => zfA (zvs (evY T x)) T o k
def zwp (x : X) (i : Nat) : Sy := fun _ _ _ _ _ T o k => zfA (zwl (evY T x) i) T o k
def zty (z : List Value) : Sy := fun _ _ _ _ _ T o k => zhT T.hp (.blk (z.map .lit)) fun n H => zpy (zoK T H) o.dst (.ptr n 0) k
def zv6 (x : X) : Sy := fun _ _ _ _ _ T o k => zmK (zvC (zbJ (evY T x))) T o k
def ztx (n : Nat) (a x : X) : Sy := fun _ B _ _ _ T o k => zmK (zm3 B (zmV T.hp) n (evY T a) (zbJ (evY T x))) T o k
def zv5 (n bytes : Nat) (s x : X) : Sy := fun _ B _ _ _ T o k => zmK (zuV B (zmV T.hp) n bytes (evY T s) ((evY T x).bind (zsD (zmV T.hp) n))) T o k
def zi1 (i : I) : Sy :=
  match i with
  | .mov x => zv0 x
  | .load n x => zsN n x
  | .fld off x => zv8 off x
  | .idxS n x i => zt0 n x i
  | .idxA n cnt x i => zuf n cnt x i
  | .bin op x y => zvF op x y
  | .conv k x => ztV k x
  | .pick c a b => zt4 c a b
  | .un op x => yUn op x
  | .len x => zwn x
  | .ext x i => zwp x i
  | .call f xs => zso f xs
  | .zbb x xs => zmU x xs
  | .panic x => zoL x
  | .defer x xs => znR x xs
  | .alloc z => zty z
  | .box x => zv6 x
  | .store n a x => ztx n a x
  | .app n bytes s x => zv5 n bytes s x
  | i => zey i
theorem zqw (i : I) (r : RecY) (B : Nat) (bar top e : Bool) (T : TY) (o : O) (k : KY) : zi1 i r B bar top e T o k = zfN i r B bar top e T o k := by
  cases i with
  | load n x =>
    simp only [zi1, zfN, zey, zsN, zah, cond_true, qF, zlh]
    rfl
  | idxS n x i =>
    simp only [zi1, zfN, zey, zt0, zah, cond_true, qF, zt6]
    cases evY T x with
    | none => rfl
    | some v =>
      cases v with
      | sl β o n' len c =>
        simp only []
        cases evY T i with
        | none => rfl
        | some w =>
          cases w with
          | lit y =>
            cases y with
            | int kd m => cases m <;> rfl
            | _ => rfl
          | _ => rfl
      | _ => rfl
  | idxA n cnt x i =>
    simp only [zi1, zfN, zey, zuf, zah, cond_true, qF, zuy]
    cases evY T x with
    | none => rfl
    | some v =>
      cases v with
      | ptr β o =>
        simp only []
        cases evY T i with
        | none => rfl
        | some w =>
          cases w with
          | lit y =>
            cases y with
            | int kd m => cases m <;> rfl
            | _ => rfl
          | _ => rfl
      | _ => rfl
  | bin op x y =>
    simp only [zi1, zfN, zey, zvF, zah, cond_true, qF, zrU]
    rfl
  | conv kd x =>
    simp only [zi1, zfN, zey, ztV, zah, cond_true, qF, zts]
    cases evY T x with
    | none => rfl
    | some v =>
      cases v with
      | lit y => cases y <;> rfl
      | _ => rfl
  | pick c a b =>
    simp only [zi1, zfN, zey, zt4, zah, cond_true, qF, qG, zuG, zq5]
    cases evY T c with
    | none => rfl
    | some v =>
      cases v with
      | lit y =>
        cases y with
        | bool b => cases b <;> rfl
        | _ => rfl
      | _ => rfl
  | _ => rfl
def zsl : Sy := fun r B bar top e T o k =>
  match zkB T o.g with
  | false => zpy T o.dst zaF k
  | true => zi1 o.i r B bar top e T o k
theorem zqg {rY : RecY} {r : Rec} (hr : RRY rY r) {B : Nat} {bar top e : Bool} {T T' : TY} {S : St} {o : O} {kY : KY} {k : St → Option (Ex × St)} {ex : Ex} (hS : RY T S)
    (hk : ∀ T1 S1, RY T1 S1 → kY T1 = some (ex, T') → ∃ S', k S1 = some (ex, S') ∧ RY T' S') (hc : zsl rY B bar top e T o kY = some (ex, T')) : ∃ S', zbT r B bar top e S o k = some (ex, S') ∧ RY T' S' := by
  unfold zsl at hc
  rw [zmk hS] at hc
  cases hw : wanted S.env o.g with
  | false =>
    rw [hw] at hc
    unfold zbT
    rw [hw]
    obtain ⟨T2, g1, g2⟩ := zoB hS hc
    exact hk _ _ g1 g2
  | true =>
    rw [hw] at hc
    simp only [zqw] at hc
    exact zpK hr hS hw hk hc
def ziw (r : RecY) (B : Nat) (bar top e : Bool) : List O → KY
  | [], T => some (.normal, T)
  | o :: l, T => zsl r B bar top e T o (ziw r B bar top e l)
theorem zhI {rY : RecY} {r : Rec} (hr : RRY rY r) {B : Nat} {bar top e : Bool} {T' : TY} {ex : Ex} : ∀ (l : List O) (T : TY) (S : St), RY T S → ziw rY B bar top e l T = some (ex, T') → ∃ S', zaE r B bar top e l S = some (ex, S') ∧ RY T' S'
  | [], T, S, hS, hc => by
    simp only [ziw, Option.some.injEq, Prod.mk.injEq] at hc
    obtain ⟨rfl, rfl⟩ := hc
    exact ⟨S, rfl, hS⟩
  | o :: l, T, S, hS, hc => zqg hr hS (fun T1 S1 h1 h2 => zhI hr l T1 S1 h1 h2) hc
end Go.Mx
