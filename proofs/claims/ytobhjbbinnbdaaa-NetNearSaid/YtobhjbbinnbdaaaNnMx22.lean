/-
  The machine with tries: code, calls, runs. Conditions: none.
-/
import Derived.Test.YtobhjbbinnbdaaaNnMx21
namespace Go.Mx
open Go
def zuH (x : Option (Ex × TY)) (k : KY) : Option (Ex × TY) :=
  match x with
  | some (.normal, T') => k T'
  | x => x
def ztE (b : Option Bool) (x y : KY) (T : TY) : Option (Ex × TY) :=
  match b with
  | some true => x T
  | some false => y T
  | none => none
def zq1 (id : Nat) (x : Option (Ex × TY)) : Option (Ex × TY) :=
  match x with
  | some (.exit id', T') => bif Nat.beq id' id then some (.normal, T') else some (.exit id', T')
  | x => x
def zrZ (rd : Option Nat) (H : HY) : Bool :=
  match rd with
  | none => true
  | some l => match H.t.get l with
    | some (.loop ..) => true
    | _ => false
theorem zqy {H : HY} {h : zaj} (hh : zdL H h) (rd : Option Nat) : zrZ rd H = zm2 rd h := by
  cases rd with
  | none => rfl
  | some l => simp only [zrZ, zm2, hh.2]; rfl
def zoX {α : Type} (rd : Option Nat) (T : TY) (k : List Df → HY → Option α) : Option α :=
  match rd with
  | none => zhT T.hp .dfr fun n H => k (.coll n :: T.dfs) H
  | some _ => k T.dfs T.hp
theorem zma {α : Type} {T : TY} {S : St} (hS : RY T S) {rd : Option Nat} {k : List Df → HY → Option α} {x : α} (hc : zoX rd T k = some x) : ∃ H, zdL H (zbi rd S) ∧ k (zfz rd S) H = some x := by
  cases rd with
  | none =>
    obtain ⟨H, g1, g2⟩ := zfo hS.2.2.2 hc
    exact ⟨H, g1, by rw [hS.2.2.1] at g2; exact g2⟩
  | some l => exact ⟨T.hp, hS.2.2.2, by rw [← show T.dfs = zfz (some l) S from hS.2.2.1]; exact hc⟩
def zsy (T : TY) (ds : List Df) (n : Nat) (x : Option (CR × HY)) : Option (Ex × TY) :=
  match x with
  | some (.ret _, h) => (match h.t.get n with
    | some (.loop true none _ _ _ _) => zid h n .dead fun h' => some (.normal, ⟨T.N, T.env, ds, h'⟩)
    | some (.loop false (some j) _ _ _ _) => zid h n .dead fun h' => some (znh j, ⟨T.N, T.env, ds, h'⟩)
    | _ => none)
  | some (.pan v, h) => some (.panic v true, ⟨T.N, T.env, ds, h⟩)
  | none => none
def zqZ (r : RecY) (B : Nat) (rd : Option Nat) (v : Option V) (ps : List Nat) (asg body : C) (T : TY) : Option (Ex × TY) :=
  match v with
  | some (.clo gf first cap) => bif zrZ rd T.hp then zoX rd T fun ds H => zb6 (zrt T) fun env => zhT H (.loop true none env ps asg body) fun n H' =>
      zb6 (first ++ [.yld n] ++ cap) fun args => zsy T ds n (r.call B gf args H') else none
  | _ => none
def zdC (r : RecY) (B : Nat) (rd : Option Nat) : C → KY
  | .skip => fun T => some (.normal, T)
  | .label _ => fun T => some (.normal, T)
  | .reg dr bar os => ziw r B bar rd.isNone (!dr) os
  | .seq a b => fun T => zuH (zdC r B rd a T) (zdC r B rd b)
  | .cond x a b => fun T => ztE (zlm (evY T x)) (zdC r B rd a) (zdC r B rd b) T
  | .block id c => fun T => zq1 id (zdC r B rd c T)
  | .loop c => fun T => zuH (zdC r B rd c T) (r.code B rd (.loop c))
  | .scope c => zdC r B rd c
  | .exit id => fun T => some (.exit id, T)
  | .ret => fun T => some (.ret, T)
  | .zdf x ps asg body => fun T => zqZ r B rd (evY T x) ps asg body T
  | .bad => fun _ => none
theorem zoC {T : TY} {S : St} (h : RY T S) (x : X) : zlm (evY T x) = evB S.env x := by simp only [zlm, evB, zgq h]; rfl
theorem zbR {rY : RecY} {r : Rec} (hr : RRY rY r) {B : Nat} {rd : Option Nat} : ∀ (c : C) (T T' : TY) (S : St) (ex : Ex), RY T S → zdC rY B rd c T = some (ex, T') → ∃ S', exec r B rd c S = some (ex, S') ∧ RY T' S'
  | .skip, T, T', S, ex, hS, hc => by simp only [zdC, Option.some.injEq, Prod.mk.injEq] at hc; obtain ⟨rfl, rfl⟩ := hc; exact ⟨S, rfl, hS⟩
  | .label _, T, T', S, ex, hS, hc => by simp only [zdC, Option.some.injEq, Prod.mk.injEq] at hc; obtain ⟨rfl, rfl⟩ := hc; exact ⟨S, rfl, hS⟩
  | .exit _, T, T', S, ex, hS, hc => by simp only [zdC, Option.some.injEq, Prod.mk.injEq] at hc; obtain ⟨rfl, rfl⟩ := hc; exact ⟨S, rfl, hS⟩
  | .ret, T, T', S, ex, hS, hc => by simp only [zdC, Option.some.injEq, Prod.mk.injEq] at hc; obtain ⟨rfl, rfl⟩ := hc; exact ⟨S, rfl, hS⟩
  | .reg dr bar os, T, T', S, ex, hS, hc => zhI hr os T S hS hc
  | .seq a b, T, T', S, ex, hS, hc => by
    simp only [zdC, zuH] at hc
    simp only [exec]
    split at hc
    · rename_i T1 hx
      obtain ⟨S1, g1, g2⟩ := zbR hr a T T1 S _ hS hx
      rw [g1]
      exact zbR hr b T1 T' S1 ex g2 hc
    · rename_i x hx
      obtain ⟨S1, g1, g2⟩ := zbR hr a T T' S ex hS hc
      rw [g1]
      cases ex with
      | normal => exact absurd hc (hx T')
      | _ => exact ⟨S1, rfl, g2⟩
  | .cond x a b, T, T', S, ex, hS, hc => by
    simp only [zdC, ztE, zoC hS] at hc
    simp only [exec]
    split at hc
    · rename_i hb
      rw [hb]
      exact zbR hr a T T' S ex hS hc
    · rename_i hb
      rw [hb]
      exact zbR hr b T T' S ex hS hc
    · cases hc
  | .block id c, T, T', S, ex, hS, hc => by
    simp only [zdC, zq1] at hc
    simp only [exec]
    split at hc
    · rename_i id' T1 hx
      obtain ⟨S1, g1, g2⟩ := zbR hr c T T1 S _ hS hx
      rw [g1]
      simp only [zkl] at hc ⊢
      cases hid : (id' == id) <;> simp only [hid, cond_true, cond_false, Option.some.injEq, Prod.mk.injEq] at hc ⊢ <;> (obtain ⟨rfl, rfl⟩ := hc; exact ⟨S1, ⟨rfl, rfl⟩, g2⟩)
    · rename_i x hx
      obtain ⟨S1, g1, g2⟩ := zbR hr c T T' S ex hS hc
      rw [g1]
      cases ex with
      | exit id' => exact absurd hc (hx id' T')
      | _ => exact ⟨S1, rfl, g2⟩
  | .loop c, T, T', S, ex, hS, hc => by
    simp only [zdC, zuH] at hc
    simp only [exec]
    split at hc
    · rename_i T1 hx
      obtain ⟨S1, g1, g2⟩ := zbR hr c T T1 S _ hS hx
      rw [g1]
      exact hr.code _ _ _ _ _ _ _ g2 hc
    · rename_i x hx
      obtain ⟨S1, g1, g2⟩ := zbR hr c T T' S ex hS hc
      rw [g1]
      cases ex with
      | normal => exact absurd hc (hx T')
      | _ => exact ⟨S1, rfl, g2⟩
  | .scope c, T, T', S, ex, hS, hc => zbR hr c T T' S ex hS hc
  | .zdf x ps asg body, T, T', S, ex, hS, hc => by
    simp only [zdC, zqZ, zgq hS, zqy hS.2.2.2, zbN, zpb hS] at hc
    simp only [exec]
    split at hc
    · rename_i gf first cap hx
      rw [hx]
      cases hok : zm2 rd S.heap with
      | false => rw [hok, cond_false] at hc; cases hc
      | true =>
        rw [hok, cond_true] at hc
        simp only [Bool.not_true, cond_false]
        obtain ⟨H1, g1, g2⟩ := zma hS hc
        obtain ⟨H2, g3, g4⟩ := zfo g1 g2
        cases hcall : rY.call B gf (first ++ [.yld (zbi rd S).length] ++ cap) H2 with
        | none => rw [hcall] at g4; cases g4
        | some res =>
          obtain ⟨cr, H3⟩ := res
          rw [hcall] at g4
          obtain ⟨h3, k1, k2⟩ := hr.call _ _ _ _ _ _ _ g3 hcall
          rw [k1]
          cases cr with
          | ret v =>
            simp only [zsy] at g4
            simp only []
            rw [k2.2] at g4
            split at g4
            · rename_i hh
              rw [hh]
              obtain ⟨H4, m1, m2⟩ := zdH k2 g4
              simp only [Option.some.injEq, Prod.mk.injEq] at m2
              obtain ⟨rfl, rfl⟩ := m2
              exact ⟨_, rfl, hS.1, hS.2.1, rfl, m1⟩
            · rename_i hh
              rw [hh]
              obtain ⟨H4, m1, m2⟩ := zdH k2 g4
              simp only [Option.some.injEq, Prod.mk.injEq] at m2
              obtain ⟨rfl, rfl⟩ := m2
              exact ⟨_, rfl, hS.1, hS.2.1, rfl, m1⟩
            · cases g4
          | pan v =>
            simp only [zsy, Option.some.injEq, Prod.mk.injEq] at g4
            obtain ⟨rfl, rfl⟩ := g4
            exact ⟨_, rfl, hS.1, hS.2.1, rfl, k2⟩
    · cases hc
  | .bad, T, T', S, ex, hS, hc => by cases hc
def zgt (r : RecY) (B : Nat) (pv : Option V) : List Df → HY → Option (Option V × HY)
  | [], h => some (pv, h)
  | .coll d :: ds, h => (match h.t.get d with
    | some .dfr => bif Nat.ble B d then zid h d .dead fun h' => zgt r B pv ds h' else none
    | _ => none)
  | .fn f args :: ds, h => (match r.dcall B f args pv h with
    | some (pv', h') => zgt r B pv' ds h'
    | none => none)
theorem zfg {rY : RecY} {r : Rec} (hr : RRY rY r) {B : Nat} {pv' : Option V} {H' : HY} : ∀ (ds : List Df) (pv : Option V) (H : HY) (h : zaj), zdL H h → zgt rY B pv ds H = some (pv', H') → ∃ h', leave r B pv ds h = some (pv', h') ∧ zdL H' h'
  | [], pv, H, h, hh, hc => by
    simp only [zgt, Option.some.injEq, Prod.mk.injEq] at hc
    obtain ⟨rfl, rfl⟩ := hc
    exact ⟨h, rfl, hh⟩
  | .coll d :: ds, pv, H, h, hh, hc => by
    simp only [zgt, hh.2] at hc
    simp only [leave]
    split at hc
    · rename_i hd
      rw [hd]
      simp only []
      cases hB : Nat.ble B d with
      | false => rw [hB, cond_false] at hc; cases hc
      | true =>
        rw [hB, cond_true] at hc
        simp only [cond_true]
        obtain ⟨H1, g1, g2⟩ := zdH hh hc
        exact zfg hr ds pv H1 _ g1 g2
    · cases hc
  | .fn f args :: ds, pv, H, h, hh, hc => by
    simp only [zgt] at hc
    simp only [leave]
    split at hc
    · rename_i pv1 H1 hd
      obtain ⟨h1, g1, g2⟩ := hr.dcall _ _ _ _ _ _ _ _ hh hd
      rw [g1]
      exact zfg hr ds pv1 H1 h1 g2 hc
    · cases hc
def zhW (H : HY) (T : TY) : RX → Option V
  | .tmp k => zp7 T k
  | .cell k n => zlh (zp7 T k) H n
def zh2 {α : Type} (H : HY) (T : TY) (k : List V → Option α) : List RX → Option α
  | [] => k []
  | x :: r => match zhW H T x with
    | some v => fcX v fun v' => zh2 H T (fun vs => k (v' :: vs)) r
    | none => none
theorem zmp {α : Type} {H : HY} {h : zaj} (hh : zdL H h) {T : TY} {S : St} (hS : RY T S) : ∀ (l : List RX) (k : List V → Option α), zh2 H T k l = (zbK h S.env l).bind k := by
  have one : ∀ x, zhW H T x = zev h S.env x := by
    intro x
    rw [← zmd]
    cases x with
    | tmp k => simp only [zhW, zgS, hS.2.1, ze6]
    | cell k n =>
      simp only [zhW, zgS, hS.2.1, ze6, zlh, zki hh, zon]
      rfl
  intro l
  induction l with
  | nil => intro k; rfl
  | cons x r ih =>
    intro k
    simp only [zh2, zbK, one, zqK, ih]
    cases zev h S.env x <;> cases zbK h S.env r <;> rfl
def zmX (r : RecY) (B : Nat) (fn : Fn) (pv : Option V) (e : Bool) (T : TY) : Option (CR × HY) :=
  match zgt r B pv T.dfs T.hp with
  | some (none, h) => bif !e then none else zh2 h T (fun vs => some (.ret (zeL vs), h)) fn.rs
  | some (some v, h) => some (.pan v, h)
  | none => none
theorem zir {rY : RecY} {r : Rec} (hr : RRY rY r) {B : Nat} {fn : Fn} {pv : Option V} {e : Bool} {T : TY} {S : St} {cr : CR} {H' : HY} (hS : RY T S) (hc : zmX rY B fn pv e T = some (cr, H')) : ∃ h', fin r B fn pv e S = some (cr, h') ∧ zdL H' h' := by
  unfold zmX at hc
  unfold fin
  rw [hS.2.2.1] at hc
  split at hc
  · rename_i H hl
    obtain ⟨h, g1, g2⟩ := zfg hr _ _ _ _ hS.2.2.2 hl
    rw [g1]
    cases e with
    | false => simp only [Bool.not_false, cond_true] at hc; cases hc
    | true =>
      simp only [Bool.not_true, cond_false] at hc ⊢
      rw [zmp g2 hS] at hc
      cases hx : zbK h S.env fn.rs with
      | none => rw [hx] at hc; cases hc
      | some vs =>
        rw [hx] at hc
        simp only [Option.bind_some, Option.some.injEq, Prod.mk.injEq] at hc
        obtain ⟨rfl, rfl⟩ := hc
        exact ⟨h, rfl, g2⟩
  · rename_i v H hl
    obtain ⟨h, g1, g2⟩ := zfg hr _ _ _ _ hS.2.2.2 hl
    rw [g1]
    simp only [Option.some.injEq, Prod.mk.injEq] at hc
    obtain ⟨rfl, rfl⟩ := hc
    exact ⟨h, rfl, g2⟩
  · cases hc
def zwc (r : RecY) (B : Nat) (fn : Fn) (x : Option (Ex × TY)) : Option (CR × HY) :=
  match x with
  | some (.normal, S) => zmX r B fn none true S
  | some (.ret, S) => zmX r B fn none true S
  | some (.panic v e, S) => zmX r B fn (some v) e S
  | _ => none
def zn6 (r : RecY) (fn : Fn) (B : Nat) (args : List V) (H : HY) : Option (CR × HY) :=
  bif Nat.ble args.length fn.N then zcy fn.N fun N => zsF args 0 .leaf fun t => zwc r B fn (zdC r B none fn.c ⟨N, t, [], H⟩) else none
theorem zne {args : List V} {N : Nat} (hN : args.length ≤ N) {t : Tr V} (h : ∀ j, t.get j = if 0 ≤ j ∧ j < 0 + args.length then args[j - 0]? else (Tr.leaf : Tr V).get j) {H : HY} {hp : zaj} (hh : zdL H hp) :
    RY ⟨N, t, [], H⟩ ⟨args ++ List.replicate (N - args.length) zaF, [], hp⟩ := by
  refine ⟨by simp; omega, fun k => ?_, rfl, hh⟩
  simp only [zp7, h, List.getElem?_append, List.getElem?_replicate]
  by_cases hk : k < args.length
  · rw [if_pos (by omega), Nat.sub_zero, if_pos hk, List.getElem?_eq_getElem hk]
  · rw [if_neg (by omega), if_neg hk]
    simp only [Tr.get, zeq]
    by_cases hk2 : k < N
    · rw [if_pos (by omega)]; simp [hk2]
    · rw [if_neg (by omega)]; simp [hk2]
theorem zls {rY : RecY} {r : Rec} (hr : RRY rY r) {B : Nat} {fn : Fn} {args : List V} {H H' : HY} {h : zaj} (hh : zdL H h) {cr : CR} (hc : zn6 rY fn B args H = some (cr, H')) : ∃ h', body r fn B args h = some (cr, h') ∧ zdL H' h' := by
  unfold zn6 at hc
  unfold body
  cases hle : Nat.ble args.length fn.N with
  | false => rw [hle, cond_false] at hc; cases hc
  | true =>
    rw [hle, cond_true, zbI] at hc
    simp only [cond_true]
    obtain ⟨t, g1, g2⟩ := ziq _ _ _ _ hc
    have hS := zne (Nat.le_of_ble_eq_true hle) g2 hh
    cases hx : zdC rY B none fn.c ⟨fn.N, t, [], H⟩ with
    | none => rw [hx] at g1; cases g1
    | some res =>
      obtain ⟨ex, T'⟩ := res
      obtain ⟨S', k1, k2⟩ := zbR hr _ _ _ _ _ hS hx
      rw [hx] at g1
      rw [k1]
      cases ex with
      | normal => exact zir hr k2 g1
      | ret => exact zir hr k2 g1
      | panic v e => exact zir hr k2 g1
      | exit id => cases g1
def zkE (H : HY) (x : Option (CR × HY)) : Option (CR × HY) :=
  match x with
  | some (.ret v, _) => bif v.plain then some (.ret v, H) else none
  | some (.pan v, _) => bif v.plain then some (.pan v, H) else none
  | none => none
def zsV (r : RecY) (fn : Fn) (B : Nat) (args : List V) (H : HY) : Option (CR × HY) := bif Nat.ble B H.n then zkE H (zn6 r fn H.n args H) else none
def znY (r : RecY) (fns : Nat → Option Fn) (B : Nat) (f : Nat) (args : List V) (H : HY) : Option (CR × HY) :=
  match fns f with
  | some fn => bif fn.p then zsV r fn B args H else zn6 r fn B args H
  | none => none
theorem zoj {rY : RecY} {r : Rec} (hr : RRY rY r) {fns : Nat → Option Fn} {B f : Nat} {args : List V} {H H' : HY} {h : zaj} (hh : zdL H h) {cr : CR} (hc : znY rY fns B f args H = some (cr, H')) : ∃ h', zga r fns B f args h = some (cr, h') ∧ zdL H' h' := by
  unfold znY at hc
  unfold zga
  split at hc
  · rename_i fn hfn
    rw [hfn]
    cases hp : fn.p with
    | false =>
      rw [hp, cond_false] at hc
      simp only [hp, cond_false]
      exact zls hr hh hc
    | true =>
      rw [hp, cond_true] at hc
      simp only [hp, cond_true]
      unfold zsV at hc
      rw [hh.1] at hc
      cases hB : Nat.ble B h.length with
      | false => rw [hB, cond_false] at hc; cases hc
      | true =>
        rw [hB, cond_true] at hc
        simp only [cond_true]
        cases hb : zn6 rY fn h.length args H with
        | none => rw [hb] at hc; cases hc
        | some y =>
          obtain ⟨cr1, H1⟩ := y
          rw [hb] at hc
          obtain ⟨h1, g1, _⟩ := zls hr hh hb
          rw [g1]
          cases cr1 with
          | ret v =>
            simp only [zkE] at hc
            simp only [forget]
            cases hv : v.plain with
            | false => rw [hv, cond_false] at hc; cases hc
            | true =>
              rw [hv, cond_true] at hc
              simp only [Option.some.injEq, Prod.mk.injEq] at hc
              obtain ⟨rfl, rfl⟩ := hc
              exact ⟨h, rfl, hh⟩
          | pan v =>
            simp only [zkE] at hc
            simp only [forget]
            cases hv : v.plain with
            | false => rw [hv, cond_false] at hc; cases hc
            | true =>
              rw [hv, cond_true] at hc
              simp only [Option.some.injEq, Prod.mk.injEq] at hc
              obtain ⟨rfl, rfl⟩ := hc
              exact ⟨h, rfl, hh⟩
  · cases hc
def zny (d : List V → Option V → zaj → Option (Option V × zaj)) (args : List V) (pv : Option V) (H : HY) : Option (Option V × HY) :=
  match d args pv (znA H) with
  | some (pv', h') => zsF h' 0 .leaf fun t => zcy h'.length fun n => some (pv', ⟨n, t⟩)
  | none => none
theorem znE {l : zaj} {t : Tr Ob} (h : ∀ j, t.get j = if 0 ≤ j ∧ j < 0 + l.length then l[j - 0]? else (Tr.leaf : Tr Ob).get j) : zdL ⟨l.length, t⟩ l := by
  refine ⟨rfl, fun k => ?_⟩
  simp only [h]
  by_cases hk : k < l.length
  · rw [if_pos (by omega), Nat.sub_zero]
  · rw [if_neg (by omega), List.getElem?_eq_none (by omega)]; rfl
theorem zoi {d : List V → Option V → zaj → Option (Option V × zaj)} {args : List V} {pv pv' : Option V} {H H' : HY} {h : zaj} (hh : zdL H h) (hc : zny d args pv H = some (pv', H')) : ∃ h', d args pv h = some (pv', h') ∧ zdL H' h' := by
  unfold zny at hc
  rw [zoT hh] at hc
  split at hc
  · rename_i pv1 h1 hd
    obtain ⟨t, g1, g2⟩ := ziq _ _ _ _ hc
    simp only [zbI, Option.some.injEq, Prod.mk.injEq] at g1
    obtain ⟨rfl, rfl⟩ := g1
    exact ⟨h1, hd, znE g2⟩
  · cases hc
structure Ans where
  res : Nat → CR
  new : Option Ob
abbrev Dcd := (Nat → Option (List V)) → Nat → List V → Option Ans
def Ans.ap (h : zaj) (a : Ans) : CR × zaj :=
  match a.new with
  | none => (a.res h.length, h)
  | some o => (a.res h.length, h ++ [o])
def zod (D : Dcd) : Orc := fun _ f args h => (D (zaD h) f args).map (Ans.ap h)
def zuN (H : HY) (a : Ans) : Option (CR × HY) :=
  match a.new with
  | none => some (a.res H.n, H)
  | some o => zcy H.n fun m => Tr.put o 40 H.t m fun t' => zcy (Nat.succ m) fun n' => some (a.res m, ⟨n', t'⟩)
theorem zrN {H H' : HY} {h : zaj} (hh : zdL H h) {a : Ans} {cr : CR} (hc : zuN H a = some (cr, H')) : ∃ h', a.ap h = (cr, h') ∧ zdL H' h' := by
  unfold zuN at hc
  unfold Ans.ap
  cases hn : a.new with
  | none =>
    rw [hn] at hc
    simp only [Option.some.injEq, Prod.mk.injEq] at hc
    obtain ⟨rfl, rfl⟩ := hc
    exact ⟨h, by rw [hh.1], hh⟩
  | some o =>
    rw [hn] at hc
    simp only [zbI] at hc
    have hc2 : zhT H o (fun m H2 => some (a.res m, H2)) = some (cr, H') := by
      simp only [zhT, zbI, zke]; exact hc
    obtain ⟨H2, g1, g2⟩ := zfo hh hc2
    simp only [Option.some.injEq, Prod.mk.injEq] at g2
    obtain ⟨rfl, rfl⟩ := g2
    exact ⟨_, rfl, g1⟩
def zwh (x : Option Ans) (H : HY) (k : HY → Option (CR × HY)) : Option (CR × HY) :=
  match x with
  | some a => zuN H a
  | none => k H
def RecY.none : RecY := ⟨fun _ _ _ _ => .none, fun _ _ _ _ => .none, fun _ _ _ _ _ => .none⟩
def zst (D : Dcd) (fns : Nat → Option Fn) : Nat → RecY
  | 0 => RecY.none
  | n + 1 => ⟨zdC (zst D fns n), fun B f args H => zwh (D (zmV H) f args) H (znY (zst D fns n) fns B f args), fun B f => zny (zj9 (zo0 (zod D) fns n) fns B f)⟩
theorem zkS (D : Dcd) (fns : Nat → Option Fn) : ∀ n, RRY (zst D fns n) (zo0 (zod D) fns n)
  | 0 => ⟨fun _ _ _ _ _ _ _ _ h => (by cases h), fun _ _ _ _ _ _ _ _ h => (by cases h), fun _ _ _ _ _ _ _ _ _ h => (by cases h)⟩
  | n + 1 => by
    refine ⟨fun B rd c T S ex T' hS hc => zbR (zkS D fns n) c T T' S ex hS hc, fun B f args H h cr H' hh hc => ?_, fun B f args pv H h pv' H' hh hc => zoi hh hc⟩
    simp only [zst] at hc
    simp only [zo0, zod]
    rw [show zmV H = zaD h from funext (zki hh)] at hc
    cases ho : D (zaD h) f args with
    | some y =>
      rw [ho] at hc
      obtain ⟨h', g1, g2⟩ := zrN hh hc
      exact ⟨h', by simp only [Option.map_some, zuU, g1], g2⟩
    | none =>
      rw [ho] at hc
      exact zoj (zkS D fns n) hh hc
def zkR : Option (CR × HY) → Bool
  | some (.ret (.lit (.bool b)), _) => b
  | _ => false
def HY.empty : HY := ⟨0, .leaf⟩
def noD : Dcd := fun _ _ _ => none
theorem zud (P : Program) : zn8 P (zod noD) := fun _ _ _ _ _ _ h => (by cases h)
theorem ziD {P : Program} (hm : P.follows .mixedOrders = true) {tab : List (Nat × Fn)} (htab : ∀ x ∈ tab, zbv P x.1 x.2) {D : Dcd} (ho : zn8 P (zod D)) {n f : Nat}
    (h : zkR ((zst D (zjG tab) n).call 0 f [] HY.empty) = true) (w : World) :
    Calls P f #[] w fun e w' => e = .returned (.bool true) ∧ Go.RowKit.Below w.heap.size w w' := by
  have hok := zkT hm (fns := zjG tab) (fun f fn hf => htab _ (zjS tab f fn hf)) ho n
  cases hc0 : (zst D (zjG tab) n).call 0 f [] HY.empty with
  | none => rw [hc0] at h; cases h
  | some res =>
    rw [hc0] at h
    obtain ⟨cr, H'⟩ := res
    obtain ⟨h', hc, _⟩ := (zkS D (zjG tab) n).call _ _ _ _ [] _ _ ⟨rfl, fun k => by simp [HY.empty, Tr.get]⟩ hc0
    have hS : Sim P 0 w (fun _ => none) [] w := ⟨Nat.le_refl _, Go.RowKit.Below.refl _ _, by simp, by simp, by simp, by simp, by simp⟩
    obtain ⟨_, hcalls⟩ := (hok.call _ _ _ _ _ _ hc).1 w (fun _ => none) w #[] hS ⟨rfl, by simp⟩
    have hw : CallsIn Fence.wide 0 P f #[] w (zmv P 0 w (fun _ => none) cr h') := hcalls
    refine Calls.mono (callsIn_wide.1 hw) fun e w' hp => ?_
    obtain ⟨ι', _, hS', hp⟩ := hp
    unfold zkR at h
    split at h
    · rename_i b h2 heq
      cases heq
      obtain ⟨u, rfl, hv⟩ := hp
      cases hv
      subst h
      exact ⟨rfl, hS'.below⟩
    · cases h
end Go.Mx
