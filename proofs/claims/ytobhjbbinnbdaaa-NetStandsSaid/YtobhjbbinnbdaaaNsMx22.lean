/-
  The machine with tries: code, calls, runs. Conditions: none.
-/
import Derived.Test.YtobhjbbinnbdaaaNsMx21
namespace Go.Mx
open Go
set_option linter.unusedSimpArgs false
set_option linter.unusedVariables false

def seqY (x : Option (Ex × TY)) (k : KY) : Option (Ex × TY) :=
  match x with
  | some (.normal, T') => k T'
  | x => x
def condY (b : Option Bool) (x y : KY) (T : TY) : Option (Ex × TY) :=
  match b with
  | some true => x T
  | some false => y T
  | none => none
def blockY (id : Nat) (x : Option (Ex × TY)) : Option (Ex × TY) :=
  match x with
  | some (.exit id', T') => bif Nat.beq id' id then some (.normal, T') else some (.exit id', T')
  | x => x
def rdOkY (rd : Option Nat) (H : HY) : Bool :=
  match rd with
  | none => true
  | some l => match H.t.get l with
    | some (.loop ..) => true
    | _ => false
theorem rdOkY_eq {H : HY} {h : Heap} (hh : HRel H h) (rd : Option Nat) : rdOkY rd H = rdOk rd h := by
  cases rd with
  | none => rfl
  | some l => simp only [rdOkY, rdOk, hh.2]; rfl
def lpStart {α : Type} (rd : Option Nat) (T : TY) (k : List Df → HY → Option α) : Option α :=
  match rd with
  | none => snocY T.hp .dfr fun n H => k (.coll n :: T.dfs) H
  | some _ => k T.dfs T.hp
theorem lpStart_ok {α : Type} {T : TY} {S : St} (hS : RY T S) {rd : Option Nat} {k : List Df → HY → Option α} {x : α} (hc : lpStart rd T k = some x) : ∃ H, HRel H (lpHeap rd S) ∧ k (lpDfs rd S) H = some x := by
  cases rd with
  | none =>
    obtain ⟨H, g1, g2⟩ := snocY_ok hS.2.2.2 hc
    exact ⟨H, g1, by rw [hS.2.2.1] at g2; exact g2⟩
  | some l => exact ⟨T.hp, hS.2.2.2, by rw [← show T.dfs = lpDfs (some l) S from hS.2.2.1]; exact hc⟩
def rfEnd (T : TY) (ds : List Df) (n : Nat) (x : Option (CR × HY)) : Option (Ex × TY) :=
  match x with
  | some (.ret _, h) => (match h.t.get n with
    | some (.loop true none _ _ _ _) => setHY h n .dead fun h' => some (.normal, ⟨T.N, T.env, ds, h'⟩)
    | some (.loop false (some j) _ _ _ _) => setHY h n .dead fun h' => some (jumpEx j, ⟨T.N, T.env, ds, h'⟩)
    | _ => none)
  | some (.pan v, h) => some (.panic v true, ⟨T.N, T.env, ds, h⟩)
  | none => none
def rfuncY (r : RecY) (B : Nat) (rd : Option Nat) (v : Option V) (ps : List Nat) (asg body : C) (T : TY) : Option (Ex × TY) :=
  match v with
  | some (.clo gf first cap) => bif rdOkY rd T.hp then lpStart rd T fun ds H => fcList (envOf T) fun env => snocY H (.loop true none env ps asg body) fun n H' =>
      fcList (first ++ [.yld n] ++ cap) fun args => rfEnd T ds n (r.call B gf args H') else none
  | _ => none
def execY (r : RecY) (B : Nat) (rd : Option Nat) : C → KY
  | .skip => fun T => some (.normal, T)
  | .label _ => fun T => some (.normal, T)
  | .reg dr bar os => runOpsY r B bar rd.isNone (!dr) os
  | .seq a b => fun T => seqY (execY r B rd a T) (execY r B rd b)
  | .cond x a b => fun T => condY (boolOf (evY T x)) (execY r B rd a) (execY r B rd b) T
  | .block id c => fun T => blockY id (execY r B rd c T)
  | .loop c => fun T => seqY (execY r B rd c T) (r.code B rd (.loop c))
  | .scope c => execY r B rd c
  | .exit id => fun T => some (.exit id, T)
  | .ret => fun T => some (.ret, T)
  | .rfunc x ps asg body => fun T => rfuncY r B rd (evY T x) ps asg body T
  | .bad => fun _ => none
theorem boolOf_eq {T : TY} {S : St} (h : RY T S) (x : X) : boolOf (evY T x) = evB S.env x := by simp only [boolOf, evB, evY_eq h]; rfl
theorem execY_ok {rY : RecY} {r : Rec} (hr : RRY rY r) {B : Nat} {rd : Option Nat} : ∀ (c : C) (T T' : TY) (S : St) (ex : Ex), RY T S → execY rY B rd c T = some (ex, T') → ∃ S', exec r B rd c S = some (ex, S') ∧ RY T' S'
  | .skip, T, T', S, ex, hS, hc => by simp only [execY, Option.some.injEq, Prod.mk.injEq] at hc; obtain ⟨rfl, rfl⟩ := hc; exact ⟨S, rfl, hS⟩
  | .label _, T, T', S, ex, hS, hc => by simp only [execY, Option.some.injEq, Prod.mk.injEq] at hc; obtain ⟨rfl, rfl⟩ := hc; exact ⟨S, rfl, hS⟩
  | .exit _, T, T', S, ex, hS, hc => by simp only [execY, Option.some.injEq, Prod.mk.injEq] at hc; obtain ⟨rfl, rfl⟩ := hc; exact ⟨S, rfl, hS⟩
  | .ret, T, T', S, ex, hS, hc => by simp only [execY, Option.some.injEq, Prod.mk.injEq] at hc; obtain ⟨rfl, rfl⟩ := hc; exact ⟨S, rfl, hS⟩
  | .reg dr bar os, T, T', S, ex, hS, hc => runOpsY_ok hr os T S hS hc
  | .seq a b, T, T', S, ex, hS, hc => by
    simp only [execY, seqY] at hc
    simp only [exec]
    split at hc
    · rename_i T1 hx
      obtain ⟨S1, g1, g2⟩ := execY_ok hr a T T1 S _ hS hx
      rw [g1]
      exact execY_ok hr b T1 T' S1 ex g2 hc
    · rename_i x hx
      obtain ⟨S1, g1, g2⟩ := execY_ok hr a T T' S ex hS hc
      rw [g1]
      cases ex with
      | normal => exact absurd hc (hx T')
      | _ => exact ⟨S1, rfl, g2⟩
  | .cond x a b, T, T', S, ex, hS, hc => by
    simp only [execY, condY, boolOf_eq hS] at hc
    simp only [exec]
    split at hc
    · rename_i hb
      rw [hb]
      exact execY_ok hr a T T' S ex hS hc
    · rename_i hb
      rw [hb]
      exact execY_ok hr b T T' S ex hS hc
    · cases hc
  | .block id c, T, T', S, ex, hS, hc => by
    simp only [execY, blockY] at hc
    simp only [exec]
    split at hc
    · rename_i id' T1 hx
      obtain ⟨S1, g1, g2⟩ := execY_ok hr c T T1 S _ hS hx
      rw [g1]
      simp only [beq_nat] at hc ⊢
      cases hid : (id' == id) <;> simp only [hid, cond_true, cond_false, Option.some.injEq, Prod.mk.injEq] at hc ⊢ <;> (obtain ⟨rfl, rfl⟩ := hc; exact ⟨S1, ⟨rfl, rfl⟩, g2⟩)
    · rename_i x hx
      obtain ⟨S1, g1, g2⟩ := execY_ok hr c T T' S ex hS hc
      rw [g1]
      cases ex with
      | exit id' => exact absurd hc (hx id' T')
      | _ => exact ⟨S1, rfl, g2⟩
  | .loop c, T, T', S, ex, hS, hc => by
    simp only [execY, seqY] at hc
    simp only [exec]
    split at hc
    · rename_i T1 hx
      obtain ⟨S1, g1, g2⟩ := execY_ok hr c T T1 S _ hS hx
      rw [g1]
      exact hr.code _ _ _ _ _ _ _ g2 hc
    · rename_i x hx
      obtain ⟨S1, g1, g2⟩ := execY_ok hr c T T' S ex hS hc
      rw [g1]
      cases ex with
      | normal => exact absurd hc (hx T')
      | _ => exact ⟨S1, rfl, g2⟩
  | .scope c, T, T', S, ex, hS, hc => execY_ok hr c T T' S ex hS hc
  | .rfunc x ps asg body, T, T', S, ex, hS, hc => by
    simp only [execY, rfuncY, evY_eq hS, rdOkY_eq hS.2.2.2, fcList_eq, envOf_eq hS] at hc
    simp only [exec]
    split at hc
    · rename_i gf first cap hx
      rw [hx]
      cases hok : rdOk rd S.heap with
      | false => rw [hok, cond_false] at hc; cases hc
      | true =>
        rw [hok, cond_true] at hc
        simp only [Bool.not_true, cond_false]
        obtain ⟨H1, g1, g2⟩ := lpStart_ok hS hc
        obtain ⟨H2, g3, g4⟩ := snocY_ok g1 g2
        cases hcall : rY.call B gf (first ++ [.yld (lpHeap rd S).length] ++ cap) H2 with
        | none => rw [hcall] at g4; cases g4
        | some res =>
          obtain ⟨cr, H3⟩ := res
          rw [hcall] at g4
          obtain ⟨h3, k1, k2⟩ := hr.call _ _ _ _ _ _ _ g3 hcall
          rw [k1]
          cases cr with
          | ret v =>
            simp only [rfEnd] at g4
            simp only []
            rw [k2.2] at g4
            split at g4
            · rename_i hh
              rw [hh]
              obtain ⟨H4, m1, m2⟩ := setHY_ok k2 g4
              simp only [Option.some.injEq, Prod.mk.injEq] at m2
              obtain ⟨rfl, rfl⟩ := m2
              exact ⟨_, rfl, hS.1, hS.2.1, rfl, m1⟩
            · rename_i hh
              rw [hh]
              obtain ⟨H4, m1, m2⟩ := setHY_ok k2 g4
              simp only [Option.some.injEq, Prod.mk.injEq] at m2
              obtain ⟨rfl, rfl⟩ := m2
              exact ⟨_, rfl, hS.1, hS.2.1, rfl, m1⟩
            · cases g4
          | pan v =>
            simp only [rfEnd, Option.some.injEq, Prod.mk.injEq] at g4
            obtain ⟨rfl, rfl⟩ := g4
            exact ⟨_, rfl, hS.1, hS.2.1, rfl, k2⟩
    · cases hc
  | .bad, T, T', S, ex, hS, hc => by cases hc

def leaveY (r : RecY) (B : Nat) (pv : Option V) : List Df → HY → Option (Option V × HY)
  | [], h => some (pv, h)
  | .coll d :: ds, h => (match h.t.get d with
    | some .dfr => bif Nat.ble B d then setHY h d .dead fun h' => leaveY r B pv ds h' else none
    | _ => none)
  | .fn f args :: ds, h => (match r.dcall B f args pv h with
    | some (pv', h') => leaveY r B pv' ds h'
    | none => none)
theorem leaveY_ok {rY : RecY} {r : Rec} (hr : RRY rY r) {B : Nat} {pv' : Option V} {H' : HY} : ∀ (ds : List Df) (pv : Option V) (H : HY) (h : Heap), HRel H h → leaveY rY B pv ds H = some (pv', H') → ∃ h', leave r B pv ds h = some (pv', h') ∧ HRel H' h'
  | [], pv, H, h, hh, hc => by
    simp only [leaveY, Option.some.injEq, Prod.mk.injEq] at hc
    obtain ⟨rfl, rfl⟩ := hc
    exact ⟨h, rfl, hh⟩
  | .coll d :: ds, pv, H, h, hh, hc => by
    simp only [leaveY, hh.2] at hc
    simp only [leave]
    split at hc
    · rename_i hd
      rw [hd]
      simp only []
      cases hB : Nat.ble B d with
      | false => rw [hB, cond_false] at hc; cases hc
      | true =>
        rw [hB, cond_true] at hc
        simp only [cond_true]
        obtain ⟨H1, g1, g2⟩ := setHY_ok hh hc
        exact leaveY_ok hr ds pv H1 _ g1 g2
    · cases hc
  | .fn f args :: ds, pv, H, h, hh, hc => by
    simp only [leaveY] at hc
    simp only [leave]
    split at hc
    · rename_i pv1 H1 hd
      obtain ⟨h1, g1, g2⟩ := hr.dcall _ _ _ _ _ _ _ _ hh hd
      rw [g1]
      exact leaveY_ok hr ds pv1 H1 h1 g2 hc
    · cases hc
def resOneY (H : HY) (T : TY) : RX → Option V
  | .tmp k => getY T k
  | .cell k n => yLoadV (getY T k) H n
def resAllY {α : Type} (H : HY) (T : TY) (k : List V → Option α) : List RX → Option α
  | [] => k []
  | x :: r => match resOneY H T x with
    | some v => fcX v fun v' => resAllY H T (fun vs => k (v' :: vs)) r
    | none => none
theorem resAllY_eq {α : Type} {H : HY} {h : Heap} (hh : HRel H h) {T : TY} {S : St} (hS : RY T S) : ∀ (l : List RX) (k : List V → Option α), resAllY H T k l = (resAll h S.env l).bind k := by
  have one : ∀ x, resOneY H T x = resOne h S.env x := by
    intro x
    rw [← resOneK_eq]
    cases x with
    | tmp k => simp only [resOneY, resOneK, hS.2.1, nth_eq]
    | cell k n =>
      simp only [resOneY, resOneK, hS.2.1, nth_eq, yLoadV, blkY_eq hh, blkK_eq]
      rfl
  intro l
  induction l with
  | nil => intro k; rfl
  | cons x r ih =>
    intro k
    simp only [resAllY, resAll, one, fcX_eq, ih]
    cases resOne h S.env x <;> cases resAll h S.env r <;> rfl
def finFY (r : RecY) (B : Nat) (fn : Fn) (pv : Option V) (e : Bool) (T : TY) : Option (CR × HY) :=
  match leaveY r B pv T.dfs T.hp with
  | some (none, h) => bif !e then none else resAllY h T (fun vs => some (.ret (mkRes vs), h)) fn.rs
  | some (some v, h) => some (.pan v, h)
  | none => none
theorem finFY_ok {rY : RecY} {r : Rec} (hr : RRY rY r) {B : Nat} {fn : Fn} {pv : Option V} {e : Bool} {T : TY} {S : St} {cr : CR} {H' : HY} (hS : RY T S) (hc : finFY rY B fn pv e T = some (cr, H')) : ∃ h', fin r B fn pv e S = some (cr, h') ∧ HRel H' h' := by
  unfold finFY at hc
  unfold fin
  rw [hS.2.2.1] at hc
  split at hc
  · rename_i H hl
    obtain ⟨h, g1, g2⟩ := leaveY_ok hr _ _ _ _ hS.2.2.2 hl
    rw [g1]
    cases e with
    | false => simp only [Bool.not_false, cond_true] at hc; cases hc
    | true =>
      simp only [Bool.not_true, cond_false] at hc ⊢
      rw [resAllY_eq g2 hS] at hc
      cases hx : resAll h S.env fn.rs with
      | none => rw [hx] at hc; cases hc
      | some vs =>
        rw [hx] at hc
        simp only [Option.bind_some, Option.some.injEq, Prod.mk.injEq] at hc
        obtain ⟨rfl, rfl⟩ := hc
        exact ⟨h, rfl, g2⟩
  · rename_i v H hl
    obtain ⟨h, g1, g2⟩ := leaveY_ok hr _ _ _ _ hS.2.2.2 hl
    rw [g1]
    simp only [Option.some.injEq, Prod.mk.injEq] at hc
    obtain ⟨rfl, rfl⟩ := hc
    exact ⟨h, rfl, g2⟩
  · cases hc
def endY (r : RecY) (B : Nat) (fn : Fn) (x : Option (Ex × TY)) : Option (CR × HY) :=
  match x with
  | some (.normal, S) => finFY r B fn none true S
  | some (.ret, S) => finFY r B fn none true S
  | some (.panic v e, S) => finFY r B fn (some v) e S
  | _ => none
def bodyY (r : RecY) (fn : Fn) (B : Nat) (args : List V) (H : HY) : Option (CR × HY) :=
  bif Nat.ble args.length fn.N then fcNat fn.N fun N => putA args 0 .leaf fun t => endY r B fn (execY r B none fn.c ⟨N, t, [], H⟩) else none
theorem putA_args {args : List V} {N : Nat} (hN : args.length ≤ N) {t : Tr V} (h : ∀ j, t.get j = if 0 ≤ j ∧ j < 0 + args.length then args[j - 0]? else (Tr.leaf : Tr V).get j) {H : HY} {hp : Heap} (hh : HRel H hp) :
    RY ⟨N, t, [], H⟩ ⟨args ++ List.replicate (N - args.length) undefV, [], hp⟩ := by
  refine ⟨by simp; omega, fun k => ?_, rfl, hh⟩
  simp only [getY, h, List.getElem?_append, List.getElem?_replicate]
  by_cases hk : k < args.length
  · rw [if_pos (by omega), Nat.sub_zero, if_pos hk, List.getElem?_eq_getElem hk]
  · rw [if_neg (by omega), if_neg hk]
    simp only [Tr.get, blt_decide]
    by_cases hk2 : k < N
    · rw [if_pos (by omega)]; simp [hk2]
    · rw [if_neg (by omega)]; simp [hk2]
theorem bodyY_ok {rY : RecY} {r : Rec} (hr : RRY rY r) {B : Nat} {fn : Fn} {args : List V} {H H' : HY} {h : Heap} (hh : HRel H h) {cr : CR} (hc : bodyY rY fn B args H = some (cr, H')) : ∃ h', body r fn B args h = some (cr, h') ∧ HRel H' h' := by
  unfold bodyY at hc
  unfold body
  cases hle : Nat.ble args.length fn.N with
  | false => rw [hle, cond_false] at hc; cases hc
  | true =>
    rw [hle, cond_true, fcNat_eq] at hc
    simp only [cond_true]
    obtain ⟨t, g1, g2⟩ := putA_ok _ _ _ _ hc
    have hS := putA_args (Nat.le_of_ble_eq_true hle) g2 hh
    cases hx : execY rY B none fn.c ⟨fn.N, t, [], H⟩ with
    | none => rw [hx] at g1; cases g1
    | some res =>
      obtain ⟨ex, T'⟩ := res
      obtain ⟨S', k1, k2⟩ := execY_ok hr _ _ _ _ _ hS hx
      rw [hx] at g1
      rw [k1]
      cases ex with
      | normal => exact finFY_ok hr k2 g1
      | ret => exact finFY_ok hr k2 g1
      | panic v e => exact finFY_ok hr k2 g1
      | exit id => cases g1
def forgetY (H : HY) (x : Option (CR × HY)) : Option (CR × HY) :=
  match x with
  | some (.ret v, _) => bif v.plain then some (.ret v, H) else none
  | some (.pan v, _) => bif v.plain then some (.pan v, H) else none
  | none => none
def pureY (r : RecY) (fn : Fn) (B : Nat) (args : List V) (H : HY) : Option (CR × HY) := bif Nat.ble B H.n then forgetY H (bodyY r fn H.n args H) else none
def callFY (r : RecY) (fns : Nat → Option Fn) (B : Nat) (f : Nat) (args : List V) (H : HY) : Option (CR × HY) :=
  match fns f with
  | some fn => bif fn.p then pureY r fn B args H else bodyY r fn B args H
  | none => none
theorem callFY_ok {rY : RecY} {r : Rec} (hr : RRY rY r) {fns : Nat → Option Fn} {B f : Nat} {args : List V} {H H' : HY} {h : Heap} (hh : HRel H h) {cr : CR} (hc : callFY rY fns B f args H = some (cr, H')) : ∃ h', callF r fns B f args h = some (cr, h') ∧ HRel H' h' := by
  unfold callFY at hc
  unfold callF
  split at hc
  · rename_i fn hfn
    rw [hfn]
    cases hp : fn.p with
    | false =>
      rw [hp, cond_false] at hc
      simp only [hp, cond_false]
      exact bodyY_ok hr hh hc
    | true =>
      rw [hp, cond_true] at hc
      simp only [hp, cond_true]
      unfold pureY at hc
      rw [hh.1] at hc
      cases hB : Nat.ble B h.length with
      | false => rw [hB, cond_false] at hc; cases hc
      | true =>
        rw [hB, cond_true] at hc
        simp only [cond_true]
        cases hb : bodyY rY fn h.length args H with
        | none => rw [hb] at hc; cases hc
        | some y =>
          obtain ⟨cr1, H1⟩ := y
          rw [hb] at hc
          obtain ⟨h1, g1, _⟩ := bodyY_ok hr hh hb
          rw [g1]
          cases cr1 with
          | ret v =>
            simp only [forgetY] at hc
            simp only [forget]
            cases hv : v.plain with
            | false => rw [hv, cond_false] at hc; cases hc
            | true =>
              rw [hv, cond_true] at hc
              simp only [Option.some.injEq, Prod.mk.injEq] at hc
              obtain ⟨rfl, rfl⟩ := hc
              exact ⟨h, rfl, hh⟩
          | pan v =>
            simp only [forgetY] at hc
            simp only [forget]
            cases hv : v.plain with
            | false => rw [hv, cond_false] at hc; cases hc
            | true =>
              rw [hv, cond_true] at hc
              simp only [Option.some.injEq, Prod.mk.injEq] at hc
              obtain ⟨rfl, rfl⟩ := hc
              exact ⟨h, rfl, hh⟩
  · cases hc
def dcallY (d : List V → Option V → Heap → Option (Option V × Heap)) (args : List V) (pv : Option V) (H : HY) : Option (Option V × HY) :=
  match d args pv (heapOf H) with
  | some (pv', h') => putA h' 0 .leaf fun t => fcNat h'.length fun n => some (pv', ⟨n, t⟩)
  | none => none
theorem putA_hrel {l : Heap} {t : Tr Ob} (h : ∀ j, t.get j = if 0 ≤ j ∧ j < 0 + l.length then l[j - 0]? else (Tr.leaf : Tr Ob).get j) : HRel ⟨l.length, t⟩ l := by
  refine ⟨rfl, fun k => ?_⟩
  simp only [h]
  by_cases hk : k < l.length
  · rw [if_pos (by omega), Nat.sub_zero]
  · rw [if_neg (by omega), List.getElem?_eq_none (by omega)]; rfl
theorem dcallY_ok {d : List V → Option V → Heap → Option (Option V × Heap)} {args : List V} {pv pv' : Option V} {H H' : HY} {h : Heap} (hh : HRel H h) (hc : dcallY d args pv H = some (pv', H')) : ∃ h', d args pv h = some (pv', h') ∧ HRel H' h' := by
  unfold dcallY at hc
  rw [heapOf_eq hh] at hc
  split at hc
  · rename_i pv1 h1 hd
    obtain ⟨t, g1, g2⟩ := putA_ok _ _ _ _ hc
    simp only [fcNat_eq, Option.some.injEq, Prod.mk.injEq] at g1
    obtain ⟨rfl, rfl⟩ := g1
    exact ⟨h1, hd, putA_hrel g2⟩
  · cases hc
/-! ### An oracle that looks at blocks -/
structure Ans where
  res : Nat → CR
  new : Option Ob
abbrev Dcd := (Nat → Option (List V)) → Nat → List V → Option Ans
def Ans.ap (h : Heap) (a : Ans) : CR × Heap :=
  match a.new with
  | none => (a.res h.length, h)
  | some o => (a.res h.length, h ++ [o])
def orcOf (D : Dcd) : Orc := fun _ f args h => (D (blkAt h) f args).map (Ans.ap h)
def ansY (H : HY) (a : Ans) : Option (CR × HY) :=
  match a.new with
  | none => some (a.res H.n, H)
  | some o => fcNat H.n fun m => Tr.put o 40 H.t m fun t' => fcNat (Nat.succ m) fun n' => some (a.res m, ⟨n', t'⟩)
theorem ansY_ok {H H' : HY} {h : Heap} (hh : HRel H h) {a : Ans} {cr : CR} (hc : ansY H a = some (cr, H')) : ∃ h', a.ap h = (cr, h') ∧ HRel H' h' := by
  unfold ansY at hc
  unfold Ans.ap
  cases hn : a.new with
  | none =>
    rw [hn] at hc
    simp only [Option.some.injEq, Prod.mk.injEq] at hc
    obtain ⟨rfl, rfl⟩ := hc
    exact ⟨h, by rw [hh.1], hh⟩
  | some o =>
    rw [hn] at hc
    simp only [fcNat_eq] at hc
    have hc2 : snocY H o (fun m H2 => some (a.res m, H2)) = some (cr, H') := by
      simp only [snocY, fcNat_eq, fcOb_eq]; exact hc
    obtain ⟨H2, g1, g2⟩ := snocY_ok hh hc2
    simp only [Option.some.injEq, Prod.mk.injEq] at g2
    obtain ⟨rfl, rfl⟩ := g2
    exact ⟨_, rfl, g1⟩
def askY (x : Option Ans) (H : HY) (k : HY → Option (CR × HY)) : Option (CR × HY) :=
  match x with
  | some a => ansY H a
  | none => k H
def RecY.none : RecY := ⟨fun _ _ _ _ => .none, fun _ _ _ _ => .none, fun _ _ _ _ _ => .none⟩
def runY (D : Dcd) (fns : Nat → Option Fn) : Nat → RecY
  | 0 => RecY.none
  | n + 1 => ⟨execY (runY D fns n), fun B f args H => askY (D (blkY H) f args) H (callFY (runY D fns n) fns B f args), fun B f => dcallY (callD (runO (orcOf D) fns n) fns B f)⟩
theorem runY_ok (D : Dcd) (fns : Nat → Option Fn) : ∀ n, RRY (runY D fns n) (runO (orcOf D) fns n)
  | 0 => ⟨fun _ _ _ _ _ _ _ _ h => (by cases h), fun _ _ _ _ _ _ _ _ h => (by cases h), fun _ _ _ _ _ _ _ _ _ h => (by cases h)⟩
  | n + 1 => by
    refine ⟨fun B rd c T S ex T' hS hc => execY_ok (runY_ok D fns n) c T T' S ex hS hc, fun B f args H h cr H' hh hc => ?_, fun B f args pv H h pv' H' hh hc => dcallY_ok hh hc⟩
    simp only [runY] at hc
    simp only [runO, orcOf]
    rw [show blkY H = blkAt h from funext (blkY_eq hh)] at hc
    cases ho : D (blkAt h) f args with
    | some y =>
      rw [ho] at hc
      obtain ⟨h', g1, g2⟩ := ansY_ok hh hc
      exact ⟨h', by simp only [Option.map_some, askO, g1], g2⟩
    | none =>
      rw [ho] at hc
      exact callFY_ok (runY_ok D fns n) hh hc
def okTrueY : Option (CR × HY) → Bool
  | some (.ret (.lit (.bool b)), _) => b
  | _ => false
def HY.empty : HY := ⟨0, .leaf⟩
def noD : Dcd := fun _ _ _ => none
theorem noD_ok (P : Program) : OrcOk P (orcOf noD) := fun _ _ _ _ _ _ h => (by cases h)
/-- A run that the kernel has seen. -/
theorem calls_of_runY {P : Program} (hm : P.follows .mixedOrders = true) {tab : List (Nat × Fn)} (htab : ∀ x ∈ tab, FnOk P x.1 x.2) {D : Dcd} (ho : OrcOk P (orcOf D)) {n f : Nat}
    (h : okTrueY ((runY D (lookT tab) n).call 0 f [] HY.empty) = true) (w : World) :
    Calls P f #[] w fun e w' => e = .returned (.bool true) ∧ Go.RowKit.Below w.heap.size w w' := by
  have hok := runO_ok hm (fns := lookT tab) (fun f fn hf => htab _ (lookT_mem tab f fn hf)) ho n
  cases hc0 : (runY D (lookT tab) n).call 0 f [] HY.empty with
  | none => rw [hc0] at h; cases h
  | some res =>
    rw [hc0] at h
    obtain ⟨cr, H'⟩ := res
    obtain ⟨h', hc, _⟩ := (runY_ok D (lookT tab) n).call _ _ _ _ [] _ _ ⟨rfl, fun k => by simp [HY.empty, Tr.get]⟩ hc0
    have hS : Sim P 0 w (fun _ => none) [] w := ⟨Nat.le_refl _, Go.RowKit.Below.refl _ _, by simp, by simp, by simp, by simp, by simp⟩
    obtain ⟨_, hcalls⟩ := (hok.call _ _ _ _ _ _ hc).1 w (fun _ => none) w #[] hS ⟨rfl, by simp⟩
    have hw : CallsIn Fence.wide 0 P f #[] w (CPost P 0 w (fun _ => none) cr h') := hcalls
    refine Calls.mono (callsIn_wide.1 hw) fun e w' hp => ?_
    obtain ⟨ι', _, hS', hp⟩ := hp
    unfold okTrueY at h
    split at h
    · rename_i b h2 heq
      cases heq
      obtain ⟨u, rfl, hv⟩ := hp
      cases hv
      subst h
      exact ⟨rfl, hS'.below⟩
    · cases h
end Go.Mx
