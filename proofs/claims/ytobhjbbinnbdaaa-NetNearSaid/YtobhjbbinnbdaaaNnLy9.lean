/-
  Trees: rules for calls, and how a function's own rule comes of its code. Conditions: none.
-/
import Derived.Test.YtobhjbbinnbdaaaNnLy8
namespace Go.Lx
open Go Go.Mx
section
variable {fns : Mach} {k0 : Nat} {Q : LX → LSt → Prop} {c : Cx} {L : List LB} {S S' : LSt} {M : St} {H : zaj} {B : Nat} {rd : Option Nat} {bar top e : Bool}
theorem EvO.zbb {QM : Ex → St → Prop} {S : St} {o : O} {l : List O} {f : Nat} {x : X} {xs : List X} {vs first cap : List V} (hw : wanted S.env o.g = true) (hi : o.i = .zbb x xs) (hx : ev S.env x = some (.clo f first cap)) (hv : evs S.env xs = some vs)
    (h : EvF fns (bif bar then S.heap.length else B) f (first ++ vs ++ cap) S.heap fun cr hp => match cr with | .ret v => EvO fns B bar top e l ({ S with heap := hp }.put o.dst v) QM | .pan v => QM (.panic v e) { S with heap := hp }) : EvO fns B bar top e (o :: l) S QM := by
  obtain ⟨N, cr, h', h1, h2⟩ := h
  cases cr with
  | ret v =>
    obtain ⟨N2, ex, S', h3, h4⟩ := h2
    refine ⟨max N N2, ex, S', fun n hn => ?_, h4⟩
    rw [zaE, zbT, hw, hi]
    simp only [hx, hv, zje, zj3, h1 n (by omega)]
    exact h3 n (by omega)
  | pan v =>
    refine ⟨N, _, _, fun n hn => ?_, h2⟩
    rw [zaE, zbT, hw, hi]
    simp only [hx, hv, zje, zj3, h1 n hn]
theorem EvO.panic {QM : Ex → St → Prop} {S : St} {o : O} {l : List O} {x : X} {t : TypeId} {v : V} (hw : wanted S.env o.g = true) (hi : o.i = .panic x) (hx : ev S.env x = some (.ifc t v)) (h : QM (.panic (.ifc t v) e) S) : EvO fns B bar top e (o :: l) S QM := by
  refine ⟨0, _, _, fun n hn => ?_, h⟩
  rw [zaE, zbT, hw, hi]
  simp only [hx]
theorem EvF.body {f : Nat} {fn : Mx.Fn} {args : List V} {h : zaj} {QF : CR → zaj → Prop} (hf : fns.has f fn) (hp : fn.p = false) (hN : args.length ≤ fn.N)
    (hb : EvC fns B none fn.c ⟨args ++ List.replicate (fn.N - args.length) zaF, [], h⟩ fun ex S' => ∃ H', Leaves B S'.dfs S'.heap H' ∧ match ex with
      | .ret => ∃ vs, zbK H' S'.env fn.rs = some vs ∧ QF (.ret (zeL vs)) H'
      | .normal => ∃ vs, zbK H' S'.env fn.rs = some vs ∧ QF (.ret (zeL vs)) H'
      | .panic v e => QF (.pan v) H'
      | .exit _ => False) : EvF fns B f args h QF := by
  obtain ⟨N, ex, S', h1, H', h3, h2⟩ := hb
  have key : ∀ m, (fns.run (m + 1)).call B f args h = (match exec (fns.run m) B none fn.c ⟨args ++ List.replicate (fn.N - args.length) zaF, [], h⟩ with
    | some (.normal, S) => fin (fns.run m) B fn none true S
    | some (.ret, S) => fin (fns.run m) B fn none true S
    | some (.panic v e, S) => fin (fns.run m) B fn (some v) e S
    | _ => none) := by
    intro m
    rw [Mach.zkD hf]
    unfold zga
    rw [hf.1]
    simp only [hp, cond_false, Mx.body, Nat.ble_eq_true_of_le hN, cond_true]
    rfl
  cases ex with
  | exit id => exact h2.elim
  | normal =>
    obtain ⟨vs, h4, h6⟩ := h2
    refine ⟨N + 1, _, _, fun n hn => ?_, h6⟩
    obtain ⟨m, rfl⟩ : ∃ m, n = m + 1 := ⟨n - 1, by omega⟩
    rw [key, h1 m (by omega)]
    simp [fin, h3 _ _, h4]
  | ret =>
    obtain ⟨vs, h4, h6⟩ := h2
    refine ⟨N + 1, _, _, fun n hn => ?_, h6⟩
    obtain ⟨m, rfl⟩ : ∃ m, n = m + 1 := ⟨n - 1, by omega⟩
    rw [key, h1 m (by omega)]
    simp [fin, h3 _ _, h4]
  | panic v e =>
    refine ⟨N + 1, _, _, fun n hn => ?_, h2⟩
    obtain ⟨m, rfl⟩ : ∃ m, n = m + 1 := ⟨n - 1, by omega⟩
    rw [key, h1 m (by omega)]
    simp [fin, h3 _ _]
theorem zfs {QM : Ex → St → Prop} {ex : Ex} (h : zg5 (sem fns B rd QM []) ex M) : QM ex M := by cases ex <;> exact h
theorem ze2 {v : V} {QM : Ex → St → Prop} (k : List KM) : (sem fns B rd QM k).2 (.panic v e) M = QM (.panic v e) M := by
  induction k with
  | nil => rfl
  | cons x k ih => cases x <;> exact ih
theorem EvL.call {k : List K} {d : Option Nat} {f : Nat} {xs : List X} {g : Option (Nat × Bool)} {l : List O} {ds : List D} {Q1 Qp1 : D → List LB → Prop} (hw : zbj S.env g = some true) (hx : zfW S.env xs = some ds) (hc : zc5 fns bar f ds S.heap Q1 Qp1)
    (hk : ∀ r L', Q1 r L' → wp fns k0 (.ops bar e l :: k) (LSt.put ⟨S.N, S.env, L'⟩ d r) Q) (hp : ∀ r L', Qp1 r L' → Q (.panic r) ⟨S.N, S.env, L'⟩) : EvL fns k0 (.ops bar e (⟨d, .call f xs, g⟩ :: l) :: k) S Q := by
  intro c0 H0 c B rd M hd hway hr hB
  obtain ⟨vs, g1, g2⟩ := zbA hr hx
  refine EvO.call (zb1 hr hw) rfl g1 (EvF.mono (hc c B M.heap vs hr.heap hB g2) ?_)
  rintro cr H' ⟨c', r, L', h1, h2, h3, h4⟩
  cases cr with
  | ret v =>
    have hk' := hk r L' h4.2
    cases hs : LSt.put ⟨S.N, S.env, L'⟩ d r with
    | none => rw [hs, wp] at hk'; exact hk'.elim
    | some S1 =>
      rw [hs] at hk'
      exact zaa hk' c0 H0 c' B rd _ hd (by cases d <;> exact hway.go h1 h3 hr.heap rfl) (zcS hr h3 h2 h4.1 hs) (by rw [h1.base]; exact hB)
  | pan v =>
    show (sem fns B rd (zmH k0 c0 H0 Q) (k.map (toM k0 c0 H0))).2 (.panic v e) _
    rw [ze2]
    exact ⟨c', ⟨S.N, S.env, L'⟩, .panic r, hway.go h1 h3 hr.heap rfl, ⟨fun j d hj => by obtain ⟨v, q1, q2⟩ := hr.env j d hj; exact ⟨v, q1, q2.mono h3⟩, hr.len, h2⟩, h4.1, hp r L' h4.2⟩
theorem EvL.zbb {k : List K} {d : Option Nat} {f : Nat} {x : X} {xs : List X} {g : Option (Nat × Bool)} {l : List O} {ds first cap : List D} {Q1 Qp1 : D → List LB → Prop} (hw : zbj S.env g = some true) (hf : evD S.env x = some (.clo f first cap)) (hx : zfW S.env xs = some ds)
    (hc : zc5 fns bar f (first ++ ds ++ cap) S.heap Q1 Qp1)
    (hk : ∀ r L', Q1 r L' → wp fns k0 (.ops bar e l :: k) (LSt.put ⟨S.N, S.env, L'⟩ d r) Q) (hp : ∀ r L', Qp1 r L' → Q (.panic r) ⟨S.N, S.env, L'⟩) : EvL fns k0 (.ops bar e (⟨d, .zbb x xs, g⟩ :: l) :: k) S Q := by
  intro c0 H0 c B rd M hd hway hr hB
  obtain ⟨vs, g1, g2⟩ := zbA hr hx
  obtain ⟨u, g3, g4⟩ := zac hr hf
  cases g4 with
  | clo q1 q2 q3 q4 =>
    rename_i us ws
    refine EvO.zbb (zb1 hr hw) rfl g3 g1 (EvF.mono (hc c B M.heap (us ++ vs ++ ws) hr.heap hB ((Rs.append ⟨q1, q3⟩ g2).append ⟨q2, q4⟩)) ?_)
    rintro cr H' ⟨c', r, L', h1, h2, h3, h4⟩
    cases cr with
    | ret v =>
      have hk' := hk r L' h4.2
      cases hs : LSt.put ⟨S.N, S.env, L'⟩ d r with
      | none => rw [hs, wp] at hk'; exact hk'.elim
      | some S1 =>
        rw [hs] at hk'
        exact zaa hk' c0 H0 c' B rd _ hd (by cases d <;> exact hway.go h1 h3 hr.heap rfl) (zcS hr h3 h2 h4.1 hs) (by rw [h1.base]; exact hB)
    | pan v =>
      show (sem fns B rd (zmH k0 c0 H0 Q) (k.map (toM k0 c0 H0))).2 (.panic v e) _
      rw [ze2]
      exact ⟨c', ⟨S.N, S.env, L'⟩, .panic r, hway.go h1 h3 hr.heap rfl, ⟨fun j d hj => by obtain ⟨v, q1, q2⟩ := hr.env j d hj; exact ⟨v, q1, q2.mono h3⟩, hr.len, h2⟩, h4.1, hp r L' h4.2⟩
theorem EvL.panic {k : List K} {d : Option Nat} {x : X} {g : Option (Nat × Bool)} {l : List O} {t : TypeId} {r : D} (hw : zbj S.env g = some true) (hx : evD S.env x = some (.ifc t r)) (hp : Q (.panic (.ifc t r)) S) : EvL fns k0 (.ops bar e (⟨d, .panic x, g⟩ :: l) :: k) S Q := by
  intro c0 H0 c B rd M hd hway hr hB
  obtain ⟨u, g3, g4⟩ := zac hr hx
  cases g4 with
  | ifc q =>
    refine EvO.panic (zb1 hr hw) rfl g3 ?_
    show (sem fns B rd (zmH k0 c0 H0 Q) (k.map (toM k0 c0 H0))).2 (.panic _ e) _
    rw [ze2]
    exact ⟨c, S, .panic (.ifc t r), hway, hr, .ifc q, hp⟩
theorem EvL.skip {k : List K} {o : O} {l : List O} (hw : zbj S.env o.g = some false) (hk : wp fns k0 (.ops bar e l :: k) (S.put o.dst zhh) Q) : EvL fns k0 (.ops bar e (o :: l) :: k) S Q := by
  intro c0 H0 c B rd M hd hway hr hB
  cases hs : S.put o.dst zhh with
  | none => rw [hs, wp] at hk; exact hk.elim
  | some S1 =>
    rw [hs] at hk
    have hput := zcS (L := S.heap) (H := M.heap) hr hr.le0 hr.heap (.lit _) hs
    refine EvO.skip (zb1 hr hw) (zaa hk c0 H0 c B rd _ hd ?_ hput hB)
    obtain ⟨od, oi, og⟩ := o
    cases od <;> exact ⟨hway.step, hway.le, hway.dfs⟩
theorem EvL.fn {k : List K} {d : Option Nat} {f : Nat} {xs : List X} {g : Option (Nat × Bool)} {l : List O} {ds args : List D} {res : D} (hf : Fn fns f args res) (hw : zbj S.env g = some true) (hx : zfW S.env xs = some ds) (hs : Snps S.heap false ds args)
    (hk : wp fns k0 (.ops bar e l :: k) (LSt.put ⟨S.N, S.env, S.heap⟩ d res) Q) : EvL fns k0 (.ops bar e (⟨d, .call f xs, g⟩ :: l) :: k) S Q :=
  EvL.call (Qp1 := fun _ _ => False) hw hx (hf.call hs bar _) (fun r L' h => by obtain ⟨rfl, rfl⟩ := h; exact hk) fun _ _ h => h.elim
theorem zhM (S : LSt) (d : Option Nat) (i : I) : zi4 S d i (some true) = doI S d i := rfl
theorem zf3 (S : LSt) (d : Option Nat) (i : I) : zi4 S d i (some false) = S.put d zhh := rfl
theorem zhu (a b : C) : zkz (some true) a b = a := rfl
theorem zgC (a b : C) : zkz (some false) a b = b := rfl
theorem zoW (L : List LB) (t : Bool) (n : Nat) (els : List (List D)) : zmI L (.fz t n els) = some (.lit (.int .i64 els.length)) := rfl
theorem zoG (L : List LB) (β s n len : Nat) (cap : Option Nat) (st : Nat) : zmI L (.sl β s n len cap st) = (match zdk L β n st with | some _ => some (.lit (.int .i64 len)) | none => none) := rfl
theorem zla (L : List LB) : zmI L (.lit (.slice none 0 0)) = some (.lit (.int .i64 0)) := rfl
theorem zoV (L : List LB) (t : Bool) (n : Nat) : zmI L (.z0 t n) = some (.lit (.int .i64 0)) := rfl
theorem zom (L : List LB) (n : Nat) (m : Int) (t : Bool) (n' : Nat) (els : List (List D)) : zq2 L n m (.fz t n' els) = (if n = n' ∧ 0 ≤ m then (match els[m.toNat]? with | some cells => some (.fptr t cells) | none => none) else none) := rfl
theorem zob (L : List LB) (n : Nat) (m : Int) (β s n' len : Nat) (cap : Option Nat) (st : Nat) : zq2 L n m (.sl β s n' len cap st) = (if n = n' ∧ 0 ≤ m ∧ m < len then (match zdk L β n st with | some _ => some (.eptr β n (s + m.toNat) 0 st) | none => none) else none) := rfl
theorem zjR (L : List LB) (n : Option Nat) (β o : Nat) : zig L n (.ptr β o) = (match L[β]? with | some (.cells ds) => zfk ds o n | _ => none) := rfl
theorem zhf (L : List LB) (n : Option Nat) (β n' i off st : Nat) : zig L n (.eptr β n' i off st) = (match zdk L β n' st with | some es => (match es[i]? with | some cells => zfk cells off n | none => none) | none => none) := rfl
theorem zg9 (L : List LB) (n : Option Nat) (t : Bool) (ds : List D) : zig L n (.fptr t ds) = zfk ds 0 n := rfl
theorem ziY (v : Value) : D.cells (.lit v) = bif zez v then some [.lit v] else none := rfl
theorem zjM (ds : List D) : D.cells (.agg ds) = some ds := rfl
theorem zjV (β o : Nat) : D.cells (.ptr β o) = some [.ptr β o] := rfl
theorem zlM (β s n len : Nat) (cap : Option Nat) (st : Nat) : D.cells (.sl β s n len cap st) = some [.sl β s n len cap st] := rfl
theorem zln (t : Bool) (n : Nat) (els : List (List D)) : D.cells (.fz t n els) = some [.fz t n els] := rfl
theorem ziL (f : Nat) (xs ys : List D) : D.cells (.clo f xs ys) = some [.clo f xs ys] := rfl
theorem ziP (t : TypeId) (d : D) : D.cells (.ifc t d) = some [.ifc t d] := rfl
theorem zhi (β n i off st : Nat) : D.cells (.eptr β n i off st) = some [.eptr β n i off st] := rfl
theorem zoz (L : List LB) (n : Nat) (t : Bool) (n' : Nat) (els : List (List D)) : zlg L n (.fz t n' els) = (if n = n' then some els else none) := rfl
theorem zli (L : List LB) (n : Nat) : zlg L n (.lit (.slice none 0 0)) = some [] := rfl
theorem zot (L : List LB) (n β s n' len : Nat) (cap : Option Nat) (st : Nat) : zlg L n (.sl β s n' len cap st) = (if n = n' then (match zdk L β n st with | some es => if s + len ≤ es.length then some ((es.drop s).take len) else none | none => none) else none) := rfl
def zeH (i : Nat) : List D → List (Nat × D)
  | [] => []
  | d :: r => (i, d) :: zeH (i + 1) r
theorem zlr : ∀ (ds : List D) (i k : Nat) (d : D), lk (zeH i ds) k = some d → i ≤ k ∧ ds[k - i]? = some d
  | [], i, k, d, h => by cases h
  | e :: r, i, k, d, h => by
    simp only [zeH, lk] at h
    split at h
    · rename_i he; subst he; cases h; exact ⟨Nat.le_refl _, by simp⟩
    · obtain ⟨h1, h2⟩ := zlr r (i + 1) k d h
      refine ⟨by omega, ?_⟩
      rw [show k - i = (k - (i + 1)) + 1 by omega]
      simpa using h2
theorem zib (hH : RelH c L H) {args : List D} {vs : List V} (hr : Rs c args vs) {N : Nat} (hN : args.length ≤ N) : Rel c ⟨N, zeH 0 args, L⟩ ⟨vs ++ List.replicate (N - vs.length) zaF, [], H⟩ := by
  refine ⟨fun k d hk => ?_, ?_, hH⟩
  · obtain ⟨_, h2⟩ := zlr args 0 k d hk
    rw [Nat.sub_zero] at h2
    obtain ⟨v, g1, g2⟩ := hr.get h2
    exact ⟨v, by rw [List.getElem?_append_left (List.getElem?_eq_some_iff.1 g1).1]; exact g1, g2⟩
  · have := hr.1; simp; omega
def zuL (L : List LB) (E : List (Nat × D)) : RX → Option D
  | .tmp k => lk E k
  | .cell k n => match lk E k with
    | some d => zig L n d
    | none => none
def zer (L : List LB) (E : List (Nat × D)) : List RX → Option (List D)
  | [] => some []
  | x :: r => match zuL L E x with
    | some d => (match zer L E r with
      | some ds => some (d :: ds)
      | none => none)
    | none => none
def zdd : List D → D
  | [d] => d
  | ds => .tup ds
theorem zmy (h : Rel c S M) {x : RX} {d : D} (hd : zuL S.heap S.env x = some d) : ∃ v, zev M.heap M.env x = some v ∧ R c d v := by
  cases x with
  | tmp k => exact h.env k d hd
  | cell k n =>
    simp only [zuL] at hd
    cases hl : lk S.env k with
    | none => rw [hl] at hd; cases hd
    | some d0 =>
      rw [hl] at hd
      obtain ⟨v, g1, g2⟩ := h.env k d0 hl
      obtain ⟨v', g3, g4⟩ := zhe h.heap g2 hd
      refine ⟨v', ?_, g4⟩
      simp only [zev, g1]
      split at g3
      · exact g3
      · cases g3
theorem zcW (h : Rel c S M) : ∀ {xs : List RX} {ds : List D}, zer S.heap S.env xs = some ds → ∃ vs, zbK M.heap M.env xs = some vs ∧ Rs c ds vs
  | [], ds, hd => by cases hd; exact ⟨[], rfl, Rs.nil c⟩
  | x :: r, ds, hd => by
    simp only [zer] at hd
    cases h1 : zuL S.heap S.env x with
    | none => rw [h1] at hd; cases hd
    | some d =>
      cases h2 : zer S.heap S.env r with
      | none => rw [h1, h2] at hd; cases hd
      | some ds' =>
        rw [h1, h2] at hd
        cases hd
        obtain ⟨v, g1, g2⟩ := zmy h h1
        obtain ⟨vs, g3, g4⟩ := zcW h h2
        exact ⟨v :: vs, by simp only [zbK, g1, g3], g4.cons g2⟩
theorem zfc {ds : List D} {vs : List V} (h : Rs c ds vs) : R c (zdd ds) (zeL vs) := by
  have hl := h.1
  match ds, vs, h with
  | [], [], h => exact .tup h.1 h.2
  | [d], [v], h => exact h.2 0 d v rfl rfl
  | _ :: _ :: _, _ :: _ :: _, h => exact .tup h.1 h.2
  | [], _ :: _, _ => simp at hl
  | _ :: _, [], _ => simp at hl
  | [_], _ :: _ :: _, _ => simp at hl
  | _ :: _ :: _, [_], _ => simp at hl
theorem zc5.intro {f : Nat} {fn : Mx.Fn} {args : List D} {Q1 Qp1 : D → List LB → Prop} (hf : fns.has f fn) (hp : fn.p = false) (hN : args.length ≤ fn.N)
    (h : EvL fns L.length [.code fn.c] ⟨fn.N, zeH 0 args, L⟩ fun x S' => match x with
      | .ret => ∃ ds, zer S'.heap S'.env fn.rs = some ds ∧ Q1 (zdd ds) S'.heap
      | .normal => ∃ ds, zer S'.heap S'.env fn.rs = some ds ∧ Q1 (zdd ds) S'.heap
      | .panic d => Qp1 d S'.heap
      | .exit _ => False) : zc5 fns false f args L Q1 Qp1 := by
  intro c B H vs hH hB hr
  have hrel := zib hH hr hN
  refine EvF.body hf hp (by rw [← hr.1]; exact hN) (EvC.mono (h c H c B none _ (zsI.none _) (Way.start _ _ _ _) hrel hB) ?_)
  intro ex M' hx
  have hx' := zfs hx
  obtain ⟨c', S', x, h1, h2, h3, h4⟩ := hx'
  have hle : c.le c' := ⟨h1.le.za, h1.le.zf, fun β y hy => h1.le.ρ β y (hH.scope β y hy) hy, h2.heap.apart⟩
  obtain ⟨H2, l1, l2, l3⟩ := h1.leave h2.heap (Nat.le_trans hB hH.base)
  have h2' : Rel c' S' { M' with heap := H2 } := ⟨h2.env, h2.len, l2⟩
  refine ⟨H2, l1, ?_⟩
  cases x with
  | normal =>
    cases ex <;> first | (exact h3.elim) | skip
    obtain ⟨ds, g1, g2⟩ := h4
    obtain ⟨vs', g3, g4⟩ := zcW h2' g1
    exact ⟨vs', g3, c', zdd ds, S'.heap, l3, l2, hle, zfc g4, g2⟩
  | ret =>
    cases ex <;> first | (exact h3.elim) | skip
    obtain ⟨ds, g1, g2⟩ := h4
    obtain ⟨vs', g3, g4⟩ := zcW h2' g1
    exact ⟨vs', g3, c', zdd ds, S'.heap, l3, l2, hle, zfc g4, g2⟩
  | panic d =>
    cases ex <;> first | (exact h3.elim) | skip
    exact ⟨c', d, S'.heap, l3, l2, hle, h3, h4⟩
  | exit id => exact h4.elim
mutual
def D.pl : D → Bool
  | .lit _ => true
  | .tup ds => D.pls ds
  | .agg ds => D.pls ds
  | _ => false
def D.pls : List D → Bool
  | [] => true
  | .lit _ :: r => D.pls r
  | _ => false
end
theorem zkF : ∀ {ds : List D} {vs : List V}, D.pls ds = true → Rs c ds vs → V.lits vs = true
  | [], vs, _, hr => by have := hr.1; cases vs with | nil => rfl | cons _ _ => simp at this
  | d :: r, vs, hp, hr => by
    obtain ⟨v, vs', rfl, h1, h2⟩ := hr.inv
    cases d <;> first | (cases hp; done) | skip
    cases zgY h1
    simp only [V.lits]
    exact zkF (by simpa [D.pls] using hp) h2
theorem zq6 {d : D} {v : V} (hp : d.pl = true) (hr : R c d v) : v.plain = true := by
  cases d <;> first | (cases hp; done) | skip
  · cases zgY hr; rfl
  · cases hr with | agg h1 h2 => exact zkF (by simpa [D.pl] using hp) ⟨h1, h2⟩
  · cases hr with | tup h1 h2 => exact zkF (by simpa [D.pl] using hp) ⟨h1, h2⟩
def zdj (rs : List RX) (res : D) : LX → LSt → Prop := fun x S' => (x = .ret ∨ x = .normal) ∧ ∃ ds, zer S'.heap S'.env rs = some ds ∧ Snp S'.heap true (zdd ds) res
theorem zdj.ret {rs : List RX} {res : D} {ds : List D} (h : zer S.heap S.env rs = some ds) (hs : Snp S.heap true (zdd ds) res) : zdj rs res .ret S := ⟨.inl rfl, ds, h, hs⟩
theorem Fn.intro {f : Nat} {fn : Mx.Fn} {args : List D} {res : D} (hf : fns.has f fn) (hN : args.length ≤ fn.N) (hpl : fn.p = true → res.pl = true)
    (h : EvL fns 0 [.code fn.c] ⟨fn.N, zeH 0 args, []⟩ (zdj fn.rs res)) : Fn fns f args res := by
  intro z B H vs hz hB hr
  have hH : RelH ⟨z, fun _ => none, fun _ => none, H.length⟩ [] H := ⟨Nat.le_refl _, fun b cs hb => ⟨(List.getElem?_eq_some_iff.1 (hz b cs hb)).1, hz b cs hb⟩, fun b cs hb => (by cases hb), fun β x b hx => (by cases hx), fun β β' x x' b hx => (by cases hx), fun β x hx => (by cases hx), fun β o ho => (by simp at ho)⟩
  have hrel := zib hH hr hN
  have hN' : vs.length ≤ fn.N := by rw [← hr.1]; exact hN
  have post : ∀ (B' : Nat), B' ≤ H.length → EvC fns B' none fn.c ⟨vs ++ List.replicate (fn.N - vs.length) zaF, [], H⟩ fun ex M' => (ex = .ret ∨ ex = .normal) ∧ ∃ H2 : zaj, Leaves B' M'.dfs M'.heap H2 ∧ ∃ us, zbK H2 M'.env fn.rs = some us ∧
      H.length ≤ H2.length ∧ (∀ b : Nat, b < H.length → H2[b]? = H[b]?) ∧ ∃ zf : Nat → Option (List V), (∀ b cs, zf b = some cs → H.length ≤ b ∧ H2[b]? = some (.blk cs)) ∧ R ⟨fun _ => none, zf, fun _ => none, H.length⟩ res (zeL us) := by
    intro B' hB'
    refine EvC.mono (h _ H _ B' none _ (zsI.none _) (Way.start _ _ _ _) hrel hB') ?_
    intro ex M' hx
    have hx' := zfs hx
    obtain ⟨c', S', x, h1, h2, h3, h4, ds, h5, h6⟩ := hx'
    have hex : ex = .ret ∨ ex = .normal := by
      rcases h4 with rfl | rfl
      · cases ex <;> first | (exact h3.elim) | exact .inl rfl
      · cases ex <;> first | (exact h3.elim) | exact .inr rfl
    obtain ⟨H2, l1, l2, l3⟩ := h1.leave h2.heap hB'
    have h2' : Rel c' S' { M' with heap := H2 } := ⟨h2.env, h2.len, l2⟩
    obtain ⟨us, g1, g2⟩ := zcW h2' h5
    have hsn := zjp l2 h6 l2.under (zfc g2)
    have hbase : c'.base = H.length := h1.step.base
    refine ⟨hex, H2, l1, us, g1, l3.len, fun b hb => l3.zdx b hb fun β x hx => (by cases hx), fun b => if H.length ≤ b then zaD H2 b else none, fun b cs hb => ?_, ?_⟩
    · simp only at hb
      split at hb
      · rename_i hle
        refine ⟨hle, ?_⟩
        unfold zaD at hb
        split at hb
        · cases hb; assumption
        · cases hb
      · cases hb
    · refine hsn.mono ⟨fun b cs hb => (by simp [full] at hb), fun b cs hb => ?_, fun β x hx => (by cases hx), fun b cs cs' _ h2 => (by cases h2)⟩
      simp only [full, Bool.true_and, decide_eq_true_eq, hbase] at hb
      exact hb
  cases hp : fn.p with
  | false =>
    obtain ⟨N, ex, S', h1, h2, H2, h3, us, h4, h5, h6, zf, h7, h8⟩ := post B hB
    exact EvF.plain hf hp hN' ⟨N, ex, S', h1, h2, H2, h3, us, h4, h5, h6, zeL us, zf, rfl, h7, h8⟩
  | true =>
    obtain ⟨N, ex, S', h1, h2, H2, h3, us, h4, h5, h6, zf, h7, h8⟩ := post H.length (Nat.le_refl _)
    refine EvF.mono (EvF.pure hf hp hN' hB (zq6 (hpl hp) h8) ⟨N, ex, S', h1, h2, H2, h3, by rw [h4]; rfl⟩) ?_
    rintro cr h' ⟨rfl, rfl⟩
    refine ⟨Nat.le_refl _, fun _ _ => rfl, zeL us, fun _ => none, rfl, fun b cs hb => (by cases hb), ?_⟩
    have hpr := zq6 (hpl hp) h8
    have hpres := hpl hp
    have lits : ∀ {ds : List D} {vs : List V} {c c' : Cx}, D.pls ds = true → Rs c ds vs → Rs c' ds vs := by
      intro ds
      induction ds with
      | nil => intro vs c c' _ hr; exact ⟨hr.1, fun i d v h => (by simp at h)⟩
      | cons d r ih =>
        intro vs c c' hp hr
        obtain ⟨v, vs', rfl, h1, h2⟩ := hr.inv
        cases d <;> first | (cases hp; done) | skip
        cases zgY h1
        exact (ih (by simpa [D.pls] using hp) h2).cons (.lit _)
    generalize zeL us = u at h8
    cases res <;> first | (cases hpres; done) | skip
    · cases h8; exact .lit _
    · cases h8 with | agg q1 q2 => have := lits (c' := ⟨fun _ => none, fun _ => none, fun _ => none, h'.length⟩) (by simpa [D.pl] using hpres) ⟨q1, q2⟩; exact .agg this.1 this.2
    · cases h8 with | tup q1 q2 => have := lits (c' := ⟨fun _ => none, fun _ => none, fun _ => none, h'.length⟩) (by simpa [D.pl] using hpres) ⟨q1, q2⟩; exact .tup this.1 this.2
theorem ztL {d : D} (h : d.pl = true) (L : List LB) (t : Bool) : Snp L t d d := by
  have aux : ∀ (ds : List D), D.pls ds = true → ∀ (i : Nat) d d', ds[i]? = some d → ds[i]? = some d' → Snp L t d d' := by
    intro ds
    induction ds with
    | nil => intro _ i d d' h1; simp at h1
    | cons e r ih =>
      intro hp i d d' h1 h2
      cases e <;> first | (cases hp; done) | skip
      cases i with
      | zero => simp at h1 h2; subst h1; subst h2; exact .lit _
      | succ i => exact ih (by simpa [D.pls] using hp) i d d' (by simpa using h1) (by simpa using h2)
  cases d <;> first | (cases h; done) | skip
  · exact .lit _
  · exact .agg rfl (aux _ (by simpa [D.pl] using h))
  · exact .tup rfl (aux _ (by simpa [D.pl] using h))
theorem zdj.pl {rs : List RX} {res : D} (h : (zer S.heap S.env rs).map zdd = some res) (hp : res.pl = true) : zdj rs res .ret S := by
  cases hr : zer S.heap S.env rs with
  | none => rw [hr] at h; cases h
  | some ds =>
    rw [hr] at h
    simp only [Option.map_some, Option.some.injEq] at h
    exact ⟨.inl rfl, ds, hr, by rw [h]; exact ztL hp _ _⟩
theorem Snp.zg0 {t : Bool} {ds ds' : List D} (h : Snps L t ds ds') : Snp L t (.tup ds) (.tup ds') := .tup h.len h.get
theorem Snp.zgT {t : Bool} {ds ds' : List D} (h : Snps L t ds ds') : Snp L t (.agg ds) (.agg ds') := .agg h.len h.get
end
end Go.Lx
