/-
  The machine with tries: one operation. Conditions: none.
-/
import Derived.Test.YtobhjbbinnbdaaaNsMx20
namespace Go.Mx
open Go
set_option linter.unusedSimpArgs false
set_option linter.unusedVariables false

abbrev Sy := RecY → Nat → Bool → Bool → Bool → TY → O → KY → Option (Ex × TY)
def putMY (v : Option V) (T : TY) (o : O) (k : KY) : Option (Ex × TY) :=
  match v with
  | some v => putY T o.dst v k
  | none => none
def effGo (e : Option EffR) (T : TY) (o : O) (k : KY) : Option (Ex × TY) :=
  match e with
  | some e => apY T.hp e fun v H => putY (withH T H) o.dst v k
  | none => none
def sPlain (i : I) : Sy := fun _ B _ _ _ T o k =>
  bif quietI i then putMY (qF (evY T) (evsY T) (blkY T.hp) i) T o k else effGo (effD B (blkY T.hp) (evY T) i) T o k
def finY (e : Bool) (o : O) (T : TY) (x : Option (CR × HY)) (k : KY) : Option (Ex × TY) :=
  match x with
  | some (.ret v, H) => putY (withH T H) o.dst v k
  | some (.pan v, H) => some (.panic v e, withH T H)
  | none => none
def callY (f : Nat) (vs : Option (List V)) : Sy := fun r B bar _ e T o k =>
  match vs with
  | some vs => fcNat (bif bar then T.hp.n else B) fun B' => hpOf T fun H => finY e o T (r.call B' f vs H) k
  | none => none
def yCall (f : Nat) (xs : List X) : Sy := fun r B bar top e T o k => callY f (evsY T xs) r B bar top e T o k
def callvY (v : Option V) (vs : Option (List V)) : Sy := fun r B bar _ e T o k =>
  match v with
  | some v => (match vs with
    | some vs => fcNat (bif bar then T.hp.n else B) fun B' => hpOf T fun H => finY e o T (callVY r B' v vs H) k
    | none => none)
  | none => none
def yCallv (x : X) (xs : List X) : Sy := fun r B bar top e T o k => callvY (evY T x) (evsY T xs) r B bar top e T o k
def panicY (v : Option V) (e : Bool) (T : TY) : Option (Ex × TY) :=
  match v with
  | some (.ifc t v) => some (.panic (.ifc t v) e, T)
  | _ => none
def yPanic (x : X) : Sy := fun _ _ _ _ e T _ _ => panicY (evY T x) e T
def deferY (v : Option V) (vs : Option (List V)) (top : Bool) (T : TY) (o : O) (k : KY) : Option (Ex × TY) :=
  match v with
  | some (.clo f first cap) => (match vs with
    | some vs => bif top then fcList (first ++ vs ++ cap) fun l => putY ⟨T.N, T.env, .fn f l :: T.dfs, T.hp⟩ o.dst undefV k else none
    | none => none)
  | _ => none
def yDefer (x : X) (xs : List X) : Sy := fun _ _ _ top _ T o k => deferY (evY T x) (evsY T xs) top T o k
def dispG (i : I) : Sy :=
  match i with
  | .call f xs => yCall f xs
  | .callv x xs => yCallv x xs
  | .panic x => yPanic x
  | .defer x xs => yDefer x xs
  | i => sPlain i
theorem dispG_ok {rY : RecY} {r : Rec} (hr : RRY rY r) {B : Nat} {bar top e : Bool} {T T' : TY} {S : St} {o : O} {kY : KY} {k : St → Option (Ex × St)} {ex : Ex} (hS : RY T S) (hw : wanted S.env o.g = true)
    (hk : ∀ T1 S1, RY T1 S1 → kY T1 = some (ex, T') → ∃ S', k S1 = some (ex, S') ∧ RY T' S') (hc : dispG o.i rY B bar top e T o kY = some (ex, T')) : ∃ S', stepO r B bar top e S o k = some (ex, S') ∧ RY T' S' := by
  have hput : ∀ {T1 : TY} {S1 : St} {v : V}, RY T1 S1 → putY T1 o.dst v kY = some (ex, T') → ∃ S', k (S1.put o.dst v) = some (ex, S') ∧ RY T' S' := by
    intro T1 S1 v h1 h2
    obtain ⟨T2, g1, g2⟩ := putY_ok h1 h2
    exact hk _ _ g1 g2
  have hfin : ∀ {x : Option (CR × HY)} {y : Option (CR × Heap)}, (∀ cr H', x = some (cr, H') → ∃ h', y = some (cr, h') ∧ HRel H' h') → finY e o T x kY = some (ex, T') → ∃ S', finO e o S y k = some (ex, S') ∧ RY T' S' := by
    intro x y hxy hf
    unfold finY at hf
    split at hf
    · rename_i v H
      obtain ⟨h', g1, g2⟩ := hxy _ _ rfl
      rw [g1]
      exact hput (hS.heap g2) hf
    · rename_i v H
      obtain ⟨h', g1, g2⟩ := hxy _ _ rfl
      rw [g1]
      simp only [Option.some.injEq, Prod.mk.injEq] at hf
      obtain ⟨rfl, rfl⟩ := hf
      exact ⟨_, rfl, hS.heap g2⟩
    · cases hf
  have hn : T.hp.n = S.heap.length := hS.2.2.2.1
  unfold stepO
  rw [hw]
  simp only []
  have plain : ∀ i, sPlain i rY B bar top e T o kY = some (ex, T') →
      ∃ S', (bif quietI i then (match q S.heap S.env i with | some v => k (S.put o.dst v) | none => none) else (match eff B S.heap S.env i with | some (v, h) => k ({ S with heap := h }.put o.dst v) | none => none)) = some (ex, S') ∧ RY T' S' := by
    intro i hi
    unfold sPlain at hi
    rw [show evY T = ev S.env from funext (evY_eq hS), show evsY T = evs S.env from funext (evsY_eq hS), show blkY T.hp = blkAt S.heap from funext (blkY_eq hS.2.2.2)] at hi
    cases hq : quietI i with
    | true =>
      rw [hq, cond_true, qF_eq, qG_eq] at hi
      simp only [cond_true]
      unfold putMY at hi
      split at hi
      · exact hput hS hi
      · cases hi
    | false =>
      rw [hq, cond_false] at hi
      simp only [cond_false]
      rw [← effD_eq]
      unfold effGo at hi
      split at hi
      · rename_i er her
        rw [her]
        obtain ⟨H', g1, g2⟩ := apY_ok hS.2.2.2 hi
        simp only [Option.map_some]
        exact hput (hS.heap g1) g2
      · cases hi
  cases hi : o.i with
  | call f xs =>
    rw [hi] at hc
    simp only [dispG, yCall, callY, evsY_eq hS, fcNat_eq, hn, hpOf_eq] at hc
    simp only []
    split at hc
    · rename_i vs hvs
      rw [hvs]
      exact hfin (fun cr H' hz => hr.call _ _ _ _ _ _ _ hS.2.2.2 hz) hc
    · cases hc
  | callv x xs =>
    rw [hi] at hc
    simp only [dispG, yCallv, callvY, evsY_eq hS, evY_eq hS, fcNat_eq, hn, hpOf_eq] at hc
    simp only []
    split at hc
    · rename_i v hv
      split at hc
      · rename_i vs hvs
        rw [hv, hvs]
        exact hfin (fun cr H' hz => callVY_ok hr hS.2.2.2 hz) hc
      · cases hc
    · cases hc
  | panic x =>
    rw [hi] at hc
    simp only [dispG, yPanic, panicY, evY_eq hS] at hc
    simp only []
    split at hc
    · rename_i t v hv
      rw [hv]
      simp only [Option.some.injEq, Prod.mk.injEq] at hc
      obtain ⟨rfl, rfl⟩ := hc
      exact ⟨S, rfl, hS⟩
    · cases hc
  | defer x xs =>
    rw [hi] at hc
    simp only [dispG, yDefer, deferY, evsY_eq hS, evY_eq hS, fcList_eq] at hc
    simp only []
    split at hc
    · rename_i f first cap hv
      split at hc
      · rename_i vs hvs
        rw [hv, hvs]
        cases top with
        | true =>
          simp only [cond_true] at hc ⊢
          exact hput (T1 := ⟨T.N, T.env, .fn f (first ++ vs ++ cap) :: T.dfs, T.hp⟩) (S1 := { S with dfs := .fn f (first ++ vs ++ cap) :: S.dfs }) ⟨hS.1, hS.2.1, by rw [hS.2.2.1], hS.2.2.2⟩ hc
        | false => simp only [cond_false] at hc; cases hc
      · cases hc
    · cases hc
  | _ => rw [hi] at hc; exact plain _ hc

/-! ### The common operations by names of their own -/
def yLoadV (p : Option V) (H : HY) (n : Option Nat) : Option V :=
  match p with
  | some (.ptr β o) => (match blkY H β with
    | some cs => takeK cs o n
    | none => none)
  | _ => none
def yPickV (c : Option Bool) (T : TY) (a b : X) : Option V :=
  match c with
  | some true => evY T a
  | some false => evY T b
  | none => none
def yMov (x : X) : Sy := fun _ _ _ _ _ T o k => putMY (evY T x) T o k
def yLoad (n : Option Nat) (x : X) : Sy := fun _ _ _ _ _ T o k => putMY (yLoadV (evY T x) T.hp n) T o k
def yFld (off : Nat) (x : X) : Sy := fun _ _ _ _ _ T o k => putMY (xFld (evY T x) off) T o k
def yIdxS (n : Nat) (x i : X) : Sy := fun _ _ _ _ _ T o k => putMY (xIdxS n (evY T x) (natOf (evY T i))) T o k
def yIdxA (n cnt : Nat) (x i : X) : Sy := fun _ _ _ _ _ T o k => putMY (xIdxA n cnt (evY T x) (natOf (evY T i))) T o k
def yBin (op : BinOp) (x y : X) : Sy := fun _ _ _ _ _ T o k => putMY (bin2 (bOp op) (intOf (evY T x)) (intOf (evY T y))) T o k
def yConv (kd : IntKind) (x : X) : Sy := fun _ _ _ _ _ T o k => putMY (xConv kd (intOf (evY T x))) T o k
def yPick (c a b : X) : Sy := fun _ _ _ _ _ T o k => putMY (yPickV (boolOf (evY T c)) T a b) T o k
def yUn (op : UnOp) (x : X) : Sy := fun _ _ _ _ _ T o k => putMY (xUn op (evY T x)) T o k
def yLen (x : X) : Sy := fun _ _ _ _ _ T o k => putMY (xLen (evY T x)) T o k
def yExt (x : X) (i : Nat) : Sy := fun _ _ _ _ _ T o k => putMY (xExt (evY T x) i) T o k
def yAlloc (z : List Value) : Sy := fun _ _ _ _ _ T o k => snocY T.hp (.blk (z.map .lit)) fun n H => putY (withH T H) o.dst (.ptr n 0) k
def yBox (x : X) : Sy := fun _ _ _ _ _ T o k => effGo (dBox (cellsO (evY T x))) T o k
def yStore (n : Nat) (a x : X) : Sy := fun _ B _ _ _ T o k => effGo (dStore B (blkY T.hp) n (evY T a) (cellsO (evY T x))) T o k
def yApp (n bytes : Nat) (s x : X) : Sy := fun _ B _ _ _ T o k => effGo (dApp B (blkY T.hp) n bytes (evY T s) ((evY T x).bind (srcB (blkY T.hp) n))) T o k
def dispY (i : I) : Sy :=
  match i with
  | .mov x => yMov x
  | .load n x => yLoad n x
  | .fld off x => yFld off x
  | .idxS n x i => yIdxS n x i
  | .idxA n cnt x i => yIdxA n cnt x i
  | .bin op x y => yBin op x y
  | .conv k x => yConv k x
  | .pick c a b => yPick c a b
  | .un op x => yUn op x
  | .len x => yLen x
  | .ext x i => yExt x i
  | .call f xs => yCall f xs
  | .callv x xs => yCallv x xs
  | .panic x => yPanic x
  | .defer x xs => yDefer x xs
  | .alloc z => yAlloc z
  | .box x => yBox x
  | .store n a x => yStore n a x
  | .app n bytes s x => yApp n bytes s x
  | i => sPlain i
theorem dispY_eq (i : I) (r : RecY) (B : Nat) (bar top e : Bool) (T : TY) (o : O) (k : KY) : dispY i r B bar top e T o k = dispG i r B bar top e T o k := by
  cases i with
  | load n x =>
    simp only [dispY, dispG, sPlain, yLoad, quietI, cond_true, qF, yLoadV]
    rfl
  | idxS n x i =>
    simp only [dispY, dispG, sPlain, yIdxS, quietI, cond_true, qF, xIdxS]
    cases evY T x with
    | none => rfl
    | some v =>
      cases v with
      | sl β o n' len c =>
        simp only []
        cases evY T i with
        | none => rfl
        | some w =>
          cases w with
          | lit y =>
            cases y with
            | int kd m => cases m <;> rfl
            | _ => rfl
          | _ => rfl
      | _ => rfl
  | idxA n cnt x i =>
    simp only [dispY, dispG, sPlain, yIdxA, quietI, cond_true, qF, xIdxA]
    cases evY T x with
    | none => rfl
    | some v =>
      cases v with
      | ptr β o =>
        simp only []
        cases evY T i with
        | none => rfl
        | some w =>
          cases w with
          | lit y =>
            cases y with
            | int kd m => cases m <;> rfl
            | _ => rfl
          | _ => rfl
      | _ => rfl
  | bin op x y =>
    simp only [dispY, dispG, sPlain, yBin, quietI, cond_true, qF, bin2_eq]
    rfl
  | conv kd x =>
    simp only [dispY, dispG, sPlain, yConv, quietI, cond_true, qF, xConv]
    cases evY T x with
    | none => rfl
    | some v =>
      cases v with
      | lit y => cases y <;> rfl
      | _ => rfl
  | pick c a b =>
    simp only [dispY, dispG, sPlain, yPick, quietI, cond_true, qF, qG, evBG, yPickV]
    cases evY T c with
    | none => rfl
    | some v =>
      cases v with
      | lit y =>
        cases y with
        | bool b => cases b <;> rfl
        | _ => rfl
      | _ => rfl
  | _ => rfl
def stepY : Sy := fun r B bar top e T o k =>
  match wantedY T o.g with
  | false => putY T o.dst undefV k
  | true => dispY o.i r B bar top e T o k
theorem stepY_ok {rY : RecY} {r : Rec} (hr : RRY rY r) {B : Nat} {bar top e : Bool} {T T' : TY} {S : St} {o : O} {kY : KY} {k : St → Option (Ex × St)} {ex : Ex} (hS : RY T S)
    (hk : ∀ T1 S1, RY T1 S1 → kY T1 = some (ex, T') → ∃ S', k S1 = some (ex, S') ∧ RY T' S') (hc : stepY rY B bar top e T o kY = some (ex, T')) : ∃ S', stepO r B bar top e S o k = some (ex, S') ∧ RY T' S' := by
  unfold stepY at hc
  rw [wantedY_eq hS] at hc
  cases hw : wanted S.env o.g with
  | false =>
    rw [hw] at hc
    unfold stepO
    rw [hw]
    obtain ⟨T2, g1, g2⟩ := putY_ok hS hc
    exact hk _ _ g1 g2
  | true =>
    rw [hw] at hc
    simp only [dispY_eq] at hc
    exact dispG_ok hr hS hw hk hc
def runOpsY (r : RecY) (B : Nat) (bar top e : Bool) : List O → KY
  | [], T => some (.normal, T)
  | o :: l, T => stepY r B bar top e T o (runOpsY r B bar top e l)
theorem runOpsY_ok {rY : RecY} {r : Rec} (hr : RRY rY r) {B : Nat} {bar top e : Bool} {T' : TY} {ex : Ex} : ∀ (l : List O) (T : TY) (S : St), RY T S → runOpsY rY B bar top e l T = some (ex, T') → ∃ S', runOps r B bar top e l S = some (ex, S') ∧ RY T' S'
  | [], T, S, hS, hc => by
    simp only [runOpsY, Option.some.injEq, Prod.mk.injEq] at hc
    obtain ⟨rfl, rfl⟩ := hc
    exact ⟨S, rfl, hS⟩
  | o :: l, T, S, hS, hc => stepY_ok hr hS (fun T1 S1 h1 h2 => runOpsY_ok hr l T1 S1 h1 h2) hc
end Go.Mx
