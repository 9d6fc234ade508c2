/-
  Trees: what an operation that leaves memory alone yields. Conditions: none.
-/
import Derived.Test.YtobhjbbinnbdaaaNnLy1
namespace Go.Lx
open Go Go.Mx
def evD (E : List (Nat × D)) : X → Option D
  | .c v => some (.lit v)
  | .s k => lk E k
  | .f f => some (.clo f [] [])
def zfW (E : List (Nat × D)) : List X → Option (List D)
  | [] => some []
  | x :: r => match evD E x with
    | some v => (match zfW E r with
      | some vs => some (v :: vs)
      | none => none)
    | none => none
def zhK : Option D → Option Int
  | some (.lit (.int _ n)) => some n
  | _ => none
def zeF : Option D → Option Bool
  | some (.lit (.bool b)) => some b
  | _ => none
def zfM (E : List (Nat × D)) : Option X → Option (Option Int)
  | none => some none
  | some x => match zhK (evD E x) with
    | some n => some (some n)
    | none => none
def D.cells : D → Option (List D)
  | .lit v => bif zez v then some [.lit v] else none
  | .agg ds => some ds
  | .tup _ => none
  | .any => none
  | d => some [d]
def zml (o n : Nat) (cs : List D) : Option (List D) := if o + n ≤ cs.length then some ((cs.drop o).take n) else none
def zfk (cs : List D) (o : Nat) : Option Nat → Option D
  | none => cs[o]?
  | some n => match zml o n cs with
    | some l => some (.agg l)
    | none => none
def zlS (cs : List D) (off : Nat) (ns : List D) : List D := cs.take off ++ ns ++ cs.drop (off + ns.length)
def zbJ : Option D → Option (List D)
  | some d => d.cells
  | none => none
def ziz (E : List (Nat × D)) (cs : List D) : List (Nat × Nat × X) → Option (List D)
  | [] => some cs
  | (off, n, x) :: r => match zbJ (evD E x) with
    | some l => if l.length = n ∧ off + n ≤ cs.length then ziz E (zlS cs off l) r else none
    | none => none
def zdk (L : List LB) (β n st : Nat) : Option (List (List D)) :=
  match L[β]? with
  | some (.els n' es) => if n = n' ∧ st = es.length then some es else none
  | some (.grow n' es) => if n = n' ∧ st = es.length then some es else none
  | _ => none
def zpa : Option V → Option D
  | some (.lit v) => some (.lit v)
  | _ => none
def zmF : Option D → Option V
  | some (.lit v) => some (.lit v)
  | _ => none
def zgm : List D → Option (List V)
  | [] => some []
  | .lit v :: r => match zgm r with
    | some l => some (.lit v :: l)
    | none => none
  | _ => none
def zmI (L : List LB) : D → Option D
  | .lit (.slice none 0 0) => some (.lit (.int .i64 0))
  | .sl β s n len cap st => (match zdk L β n st with
    | some _ => some (.lit (.int .i64 len))
    | none => none)
  | .fz _ _ els => some (.lit (.int .i64 els.length))
  | .z0 _ _ => some (.lit (.int .i64 0))
  | _ => none
def zsE (t : Bool) (n : Nat) (els : List (List D)) (lo hi mx : Option Int) : Option D :=
  if decide (hi.getD els.length ≤ els.length) && decide (mx.getD els.length ≤ els.length) then
    match bounds els.length (some els.length) lo hi mx with
    | some (l, h, c) => if mx.isSome && (c == some 0) && !(els.length == 0) then some (.z0 t n) else some (.fz t n ((els.drop l).take (h - l)))
    | none => none
  else none
def zmD (L : List LB) (n : Nat) (lo hi mx : Option Int) : D → Option D
  | .lit (.slice none 0 0) => (match bounds 0 (some 0) lo hi mx with
    | some _ => some (.lit (.slice none 0 0))
    | none => none)
  | .sl β s n' len cap st => if n = n' then (match zdk L β n st with
    | some _ => (match bounds len cap lo hi mx with
      | some (l, h, c) => if mx = none then some (.sl β (s + l) n (h - l) c st) else none
      | none => none)
    | none => none) else none
  | .fz t n' els => if n = n' then zsE t n els lo hi mx else none
  | _ => none
def zig (L : List LB) (n : Option Nat) : D → Option D
  | .ptr β o => (match L[β]? with
    | some (.cells ds) => zfk ds o n
    | _ => none)
  | .eptr β n' i off st => (match zdk L β n' st with
    | some es => (match es[i]? with
      | some cells => zfk cells off n
      | none => none)
    | none => none)
  | .fptr t ds => zfk ds 0 n
  | _ => none
def zmc (L : List LB) (off : Nat) : D → Option D
  | .ptr β o => some (.ptr β (o + off))
  | .eptr β n i o st => (match zdk L β n st with
    | some _ => some (.eptr β n i (o + off) st)
    | none => none)
  | .fptr t ds => if off ≤ ds.length then some (.fptr t (ds.drop off)) else none
  | _ => none
def zq2 (L : List LB) (n : Nat) (m : Int) : D → Option D
  | .sl β s n' len cap st => if n = n' ∧ 0 ≤ m ∧ m < len then (match zdk L β n st with
    | some _ => some (.eptr β n (s + m.toNat) 0 st)
    | none => none) else none
  | .fz t n' els => if n = n' ∧ 0 ≤ m then (match els[m.toNat]? with
    | some cells => some (.fptr t cells)
    | none => none) else none
  | _ => none
def yB (L : List LB) : D → Option (Option Nat)
  | .lit (.slice none 0 0) => some none
  | .ptr β _ => some (some β)
  | .eptr β n _ _ st => match zdk L β n st with
    | some _ => some (some β)
    | none => none
  | .sl β _ n _ _ st => match zdk L β n st with
    | some _ => some (some β)
    | none => none
  | _ => none
def xB (L : List LB) (β : Nat) : D → Bool
  | .fptr _ _ => true
  | .ptr γ _ => match L[γ]? with
    | some (.cells _) => !(γ == β)
    | _ => false
  | .eptr γ n _ _ st => match zdk L γ n st with
    | some _ => !(γ == β)
    | none => false
  | _ => false
def xBs (L : List LB) (β : Nat) : List D → Bool
  | [] => true
  | d :: r => match xB L β d with
    | true => xBs L β r
    | false => false
def qL (L : List LB) (E : List (Nat × D)) : I → Option D
  | .mov x => evD E x
  | .avo xs y => (match evD E y with
    | some d => (match yB L d with
      | some none => some (.lit (.tuple #[]))
      | some (some β) => (match zfW E xs with
        | some ds => (match xBs L β ds with
          | true => some (.lit (.tuple #[]))
          | false => none)
        | none => none)
      | none => none)
    | none => none)
  | .pick c a b => (match zeF (evD E c) with
    | some true => evD E a
    | some false => evD E b
    | none => none)
  | .build z parts => (match ziz E (z.map .lit) parts with
    | some l => some (.agg l)
    | none => none)
  | .load n x => (match evD E x with
    | some d => zig L n d
    | none => none)
  | .fld off x => (match evD E x with
    | some d => zmc L off d
    | none => none)
  | .idxS n x i => (match evD E x with
    | some d => (match zhK (evD E i) with
      | some m => zq2 L n m d
      | none => none)
    | none => none)
  | .idxA n cnt x i => (match evD E x with
    | some d => (match zhK (evD E i) with
      | some m => if 0 ≤ m ∧ m < cnt then zmc L (m.toNat * n) d else none
      | none => none)
    | none => none)
  | .idxV n cnt x i => (match evD E x with
    | some (.agg ds) => (match zhK (evD E i) with
      | some m => if 0 ≤ m ∧ m < cnt then zfk ds (m.toNat * n.getD 1) n else none
      | none => none)
    | _ => none)
  | .part n off x => (match evD E x with
    | some (.agg ds) => zfk ds off n
    | _ => none)
  | .bin op x y => (match zmF (evD E x) with
    | some u => (match zmF (evD E y) with
      | some u' => zpa (ziJ op u u')
      | none => none)
    | none => none)
  | .eqb neg x y => (match zeF (evD E x) with
    | some a => (match zeF (evD E y) with
      | some b => some (.lit (.bool (bif neg then !(a == b) else (a == b))))
      | none => none)
    | none => none)
  | .eqn neg x => (match evD E x with
    | some (.lit (.slice none 0 0)) => some (.lit (.bool !neg))
    | some (.sl β s n len cap st) => (match zdk L β n st with
      | some es => if es.length = 0 then none else some (.lit (.bool neg))
      | none => none)
    | some (.fz t n els) => if els.length = 0 then none else some (.lit (.bool neg))
    | _ => none)
  | .eqi neg x => (match evD E x with
    | some (.lit .nilIface) => some (.lit (.bool !neg))
    | some (.ifc ..) => some (.lit (.bool neg))
    | _ => none)
  | .eqp neg x => (match evD E x with
    | some (.lit (.pointer none)) => some (.lit (.bool !neg))
    | some (.ptr ..) => some (.lit (.bool neg))
    | some (.fptr ..) => some (.lit (.bool neg))
    | _ => none)
  | .un op x => (match zmF (evD E x) with
    | some u => zpa (unV op u)
    | none => none)
  | .conv k x => (match zhK (evD E x) with
    | some m => some (.lit (.int k (k.wrap m)))
    | none => none)
  | .len x => (match evD E x with
    | some d => zmI L d
    | none => none)
  | .mm b xs => (match zfW E xs with
    | some l => (match zgm l with
      | some (v :: vs) => zpa (mms b v vs)
      | _ => none)
    | _ => none)
  | .ext x i => (match evD E x with
    | some (.tup vs) => vs[i]?
    | _ => none)
  | .slc n x lo hi mx => (match evD E x with
    | some d => (match zfM E lo with
      | some l => (match zfM E hi with
        | some h => (match zfM E mx with
          | some m => zmD L n l h m d
          | none => none)
        | none => none)
      | none => none)
    | none => none)
  | .nilck x => (match evD E x with
    | some (.ptr β o) => some (.ptr β o)
    | some (.fptr t ds) => some (.fptr t ds)
    | some (.clo f a b) => some (.clo f a b)
    | some (.eptr β n i off st) => (match zdk L β n st with
      | some _ => some (.eptr β n i off st)
      | none => none)
    | _ => none)
  | .clo f first cap => (match zfW E first with
    | some vs => (match zfW E cap with
      | some vs' => some (.clo f vs vs')
      | none => none)
    | none => none)
  | .mkI t x => (match evD E x with
    | some d => some (.ifc t d)
    | none => none)
  | _ => none
section
variable {c : Cx} {S : LSt} {M : St} {L : List LB} {H : zaj}
theorem zac (h : Rel c S M) {x : X} {d : D} (he : evD S.env x = some d) : ∃ v, ev M.env x = some v ∧ R c d v := by
  cases x with
  | s k => exact h.env k d he
  | c v => cases he; exact ⟨_, rfl, .lit v⟩
  | f f => cases he; exact ⟨_, rfl, .clo rfl rfl (by simp) (by simp)⟩
theorem zbA (h : Rel c S M) : ∀ {xs : List X} {ds : List D}, zfW S.env xs = some ds → ∃ vs, evs M.env xs = some vs ∧ Rs c ds vs
  | [], ds, he => by cases he; exact ⟨[], rfl, Rs.nil c⟩
  | x :: r, ds, he => by
    simp only [zfW] at he
    cases h1 : evD S.env x with
    | none => rw [h1] at he; cases he
    | some d =>
      cases h2 : zfW S.env r with
      | none => rw [h1, h2] at he; cases he
      | some ds' =>
        rw [h1, h2] at he
        cases he
        obtain ⟨v, g1, g2⟩ := zac h h1
        obtain ⟨vs, g3, g4⟩ := zbA h h2
        exact ⟨v :: vs, by simp only [evs, g1, g3], g4.cons g2⟩
theorem zgY {d : V} {v : Value} (hr : R c (.lit v) d) : d = .lit v := by cases hr; rfl
theorem zc3 (h : Rel c S M) {x : X} {n : Int} (he : zhK (evD S.env x) = some n) : evI M.env x = some n := by
  cases h1 : evD S.env x with
  | none => rw [h1] at he; cases he
  | some d =>
    rw [h1] at he
    obtain ⟨v, g1, g2⟩ := zac h h1
    unfold zhK at he
    split at he
    · rename_i heq; cases heq; cases he; cases zgY g2; simp [evI, g1]
    · cases he
theorem zep (h : Rel c S M) {x : X} {b : Bool} (he : zeF (evD S.env x) = some b) : evB M.env x = some b := by
  cases h1 : evD S.env x with
  | none => rw [h1] at he; cases he
  | some d =>
    rw [h1] at he
    obtain ⟨v, g1, g2⟩ := zac h h1
    unfold zeF at he
    split at he
    · rename_i heq; cases heq; cases he; cases zgY g2; simp [evB, g1]
    · cases he
theorem zh3 (h : Rel c S M) {x : Option X} {n : Option Int} (he : zfM S.env x = some n) : zmi M.env x = some n := by
  cases x with
  | none => cases he; rfl
  | some x =>
    simp only [zfM] at he
    cases h1 : zhK (evD S.env x) with
    | none => rw [h1] at he; cases he
    | some m => rw [h1] at he; cases he; simp [zmi, zc3 h h1]
theorem zgn (h : Rel c S M) {x : X} {u : V} (he : zmF (evD S.env x) = some u) : ev M.env x = some u := by
  cases h1 : evD S.env x with
  | none => rw [h1] at he; cases he
  | some d =>
    rw [h1] at he
    obtain ⟨v, g1, g2⟩ := zac h h1
    unfold zmF at he
    split at he
    · rename_i heq; cases heq; cases he; cases zgY g2; exact g1
    · cases he
theorem zl5 {ds : List D} {us vs : List V} (he : zgm ds = some us) (hr : Rs c ds vs) : vs = us := by
  induction ds generalizing us vs with
  | nil => cases he; have := hr.1; cases vs with | nil => rfl | cons _ _ => simp at this
  | cons d ds ih =>
    obtain ⟨v, vs', rfl, h1, h2⟩ := hr.inv
    unfold zgm at he
    split at he
    · rename_i heq; cases heq
    · rename_i u r heq
      cases heq
      cases h3 : zgm ds with
      | none => rw [h3] at he; cases he
      | some l => rw [h3] at he; cases he; rw [ih h3 h2, zgY h1]
    · cases he
theorem zkm {o : Option V} {d : D} (h : zpa o = some d) : ∃ v, o = some (.lit v) ∧ d = .lit v := by
  unfold zpa at h
  split at h
  · cases h; exact ⟨_, rfl, rfl⟩
  · cases h
theorem zdp {v : V} (h : v.one = true) : v.cells = some [v] := by
  cases v <;> simp_all [V.one, V.cells]
theorem zkc {d : D} {v : V} (hr : R c d v) {l : List D} (hl : d.cells = some l) : ∃ l', v.cells = some l' ∧ Rs c l l' := by
  have one : ∀ {d : D} {v : V}, R c d v → v.one = true → ∃ l', v.cells = some l' ∧ Rs c [d] l' := fun h h1 => ⟨_, zdp h1, (Rs.nil c).cons h⟩
  cases hr with
  | any v => cases hl
  | lit v =>
    cases hv : zez v with
    | false => simp [D.cells, hv] at hl
    | true => simp [D.cells, hv] at hl; subst hl; exact one (.lit v) hv
  | ptr h1 => cases hl; exact one (.ptr h1) rfl
  | eptr h1 h2 =>
    cases hl
    refine one (.eptr h1 h2) ?_
    rcases h2 with ⟨_, h2⟩ | ⟨_, rfl⟩
    · exact h2
    · rfl
  | sl h1 h2 =>
    cases hl
    refine one (.sl h1 h2) ?_
    rcases h2 with ⟨_, h2⟩ | ⟨_, rfl⟩
    · exact h2
    · rfl
  | slg h1 => cases hl; exact one (.slg h1) rfl
  | fz h1 h2 h3 h4 h5 h6 => cases hl; exact one (.fz h1 h2 h3 h4 h5 h6) rfl
  | fz0 => cases hl; exact one .fz0 rfl
  | fzn => cases hl; exact one .fzn rfl
  | z0 h1 h2 => cases hl; exact one (.z0 h1 h2) rfl
  | z0n => cases hl; exact one .z0n rfl
  | fptr h1 h2 h3 => cases hl; exact one (.fptr h1 h2 h3) rfl
  | clo h1 h2 h3 h4 => cases hl; exact one (.clo h1 h2 h3 h4) rfl
  | yld h1 => cases hl; exact one (.yld h1) rfl
  | ifc h1 => cases hl; exact one (.ifc h1) rfl
  | agg h1 h2 => cases hl; exact ⟨_, rfl, h1, h2⟩
  | tup h1 h2 => cases hl
theorem zdb (h : Rel c S M) {x : X} {l : List D} (he : zbJ (evD S.env x) = some l) : ∃ l', (ev M.env x).bind V.cells = some l' ∧ Rs c l l' := by
  cases h1 : evD S.env x with
  | none => rw [h1] at he; cases he
  | some d =>
    rw [h1] at he
    obtain ⟨v, g1, g2⟩ := zac h h1
    obtain ⟨l', g3, g4⟩ := zkc g2 he
    exact ⟨l', by rw [g1]; exact g3, g4⟩
theorem zl4 {ds l : List D} {vs : List V} (hr : Rs c ds vs) {o n : Nat} (hs : zml o n ds = some l) : ∃ l', slot o n vs = some l' ∧ Rs c l l' := by
  unfold zml at hs
  split at hs
  · rename_i hle
    cases hs
    refine ⟨_, ?_, (hr.drop o).take n⟩
    unfold slot
    rw [Nat.ble_eq_true_of_le (by rw [← hr.1]; exact hle), cond_true]
  · cases hs
theorem zb4 {ds : List D} {vs : List V} (hr : Rs c ds vs) {o : Nat} {n : Option Nat} {d : D} (ht : zfk ds o n = some d) : ∃ v, takeN vs o n = some v ∧ R c d v := by
  cases n with
  | none => exact hr.get ht
  | some n =>
    simp only [zfk] at ht
    cases hs : zml o n ds with
    | none => rw [hs] at ht; cases ht
    | some l =>
      rw [hs] at ht
      cases ht
      obtain ⟨l', g1, g2⟩ := zl4 hr hs
      exact ⟨.agg l', by simp [takeN, g1], .agg g2.1 g2.2⟩
theorem zjW {vs : List V} {a m o : Nat} {n : Option Nat} {v : V} (ha : a ≤ vs.length) (ht : takeN ((vs.drop a).take m) o n = some v) : takeN vs (a + o) n = some v := by
  cases n with
  | none =>
    simp only [takeN, List.getElem?_take, List.getElem?_drop] at ht ⊢
    split at ht
    · exact ht
    · cases ht
  | some n =>
    simp only [takeN, slot] at ht ⊢
    cases hb : Nat.ble (o + n) ((vs.drop a).take m).length with
    | false => rw [hb] at ht; cases ht
    | true =>
      rw [hb] at ht
      have hle := Nat.le_of_ble_eq_true hb
      simp only [List.length_take, List.length_drop] at hle
      rw [Nat.ble_eq_true_of_le (by omega : a + o + n ≤ vs.length)]
      simp only [cond_true, Option.map_some, Option.some.injEq] at ht ⊢
      rw [← ht, List.drop_take, List.drop_drop, List.take_take, Nat.min_eq_left (by omega)]
theorem zfS {n : Nat} : ∀ {es : List (List D)}, (∀ cells, cells ∈ es → cells.length = n) → es.flatten.length = es.length * n
  | [], _ => by simp
  | e :: es, h => by
    rw [List.flatten_cons, List.length_append, zfS fun x hx => h x (List.mem_cons_of_mem _ hx), h e (by simp), List.length_cons, Nat.succ_mul]
    omega
theorem zji {n : Nat} : ∀ {es : List (List D)} (s : Nat), (∀ cells, cells ∈ es → cells.length = n) → es.flatten.drop (s * n) = (es.drop s).flatten
  | es, 0, _ => by simp
  | [], s + 1, _ => by simp
  | e :: es, s + 1, h => by
    have he := h e (by simp)
    rw [List.flatten_cons, List.drop_succ_cons, ← zji s fun x hx => h x (List.mem_cons_of_mem _ hx), Nat.succ_mul, List.drop_append, he, List.drop_of_length_le (by omega), List.nil_append]
    congr 1
    omega
theorem zjK {n : Nat} : ∀ {es : List (List D)} (s : Nat), (∀ cells, cells ∈ es → cells.length = n) → es.flatten.take (s * n) = (es.take s).flatten
  | es, 0, _ => by simp
  | [], s + 1, _ => by simp
  | e :: es, s + 1, h => by
    have he := h e (by simp)
    rw [List.flatten_cons, List.take_succ_cons, List.flatten_cons, ← zjK s fun x hx => h x (List.mem_cons_of_mem _ hx), Nat.succ_mul, List.take_append, he, List.take_of_length_le (by omega)]
    congr 2
    omega
theorem Els.zj6 {n : Nat} {es : List (List D)} {vs : List V} (h : Els c n es vs) : vs.length = es.length * n := by rw [← h.rel.1, zfS h.len]
theorem ziv {α : Type} {l : List α} {x : α} {a b : Nat} (h : x ∈ (l.drop a).take b) : x ∈ l := List.mem_of_mem_drop (List.mem_of_mem_take h)
theorem Els.sub {n : Nat} {es : List (List D)} {vs : List V} (h : Els c n es vs) (s len : Nat) : Els c n ((es.drop s).take len) ((vs.drop (s * n)).take (len * n)) := by
  refine ⟨fun x hx => h.len x (ziv hx), ?_⟩
  rw [← zjK len fun x hx => h.len x (List.mem_of_mem_drop hx), ← zji s h.len]
  exact (h.rel.drop _).take _
theorem Els.append {n : Nat} {es es' : List (List D)} {vs vs' : List V} (h : Els c n es vs) (h' : Els c n es' vs') : Els c n (es ++ es') (vs ++ vs') := by
  refine ⟨fun x hx => ?_, by rw [List.flatten_append]; exact h.rel.append h'.rel⟩
  rcases List.mem_append.1 hx with hx | hx
  · exact h.len x hx
  · exact h'.len x hx
theorem Els.one {cells : List D} {vs : List V} (h : Rs c cells vs) : Els c cells.length [cells] vs := ⟨by simp, by simpa using h⟩
theorem Els.nil (n : Nat) : Els c n [] [] := ⟨by simp, Rs.nil c⟩
theorem Els.at_ {n : Nat} {es : List (List D)} {vs : List V} (h : Els c n es vs) {i : Nat} {cells : List D} (hi : es[i]? = some cells) : Rs c cells ((vs.drop (i * n)).take n) := by
  have h1 := (h.sub i 1).rel
  have h2 : (es.drop i).take 1 = [cells] := by
    have hil := (List.getElem?_eq_some_iff.1 hi)
    obtain ⟨hl, hil⟩ := hil
    rw [List.drop_eq_getElem_cons hl, List.take_succ_cons, List.take_zero, hil]
  rw [h2, Nat.one_mul] at h1
  simpa using h1
theorem Els.take {n : Nat} {es : List (List D)} {vs : List V} (h : Els c n es vs) (k : Nat) : Els c n (es.take k) (vs.take (k * n)) := by
  have := h.sub 0 k
  simpa using this
theorem Els.drop {n : Nat} {es : List (List D)} {vs : List V} (h : Els c n es vs) (k : Nat) : Els c n (es.drop k) (vs.drop (k * n)) := by
  have := h.sub k es.length
  rw [List.take_of_length_le (by simp), List.take_of_length_le (by rw [List.length_drop, h.zj6]; omega)] at this
  exact this
theorem zb5 (h : Rel c S M) : ∀ (parts : List (Nat × Nat × X)) {cs l : List D} {vs : List V}, ziz S.env cs parts = some l → Rs c cs vs → ∃ l', zdW M.env vs parts = some l' ∧ Rs c l l'
  | [], cs, l, vs, he, hr => by cases he; exact ⟨vs, rfl, hr⟩
  | (off, n, x) :: r, cs, l, vs, he, hr => by
    simp only [ziz] at he
    cases h1 : zbJ (evD S.env x) with
    | none => rw [h1] at he; cases he
    | some k =>
      rw [h1] at he
      simp only at he
      split at he
      · rename_i hc
        obtain ⟨k', g1, g2⟩ := zdb h h1
        have hp : Rs c (zlS cs off k) (za1 vs off k') := by
          unfold zlS za1
          rw [← g2.1]
          exact ((hr.take off).append g2).append (hr.drop _)
        obtain ⟨l', g3, g4⟩ := zb5 h r he hp
        refine ⟨l', ?_, g4⟩
        rw [zdW, g1]
        have e1 : (k'.length == n) = true := by rw [← g2.1, hc.1]; simp
        have e2 : Nat.ble (off + n) vs.length = true := Nat.ble_eq_true_of_le (by rw [← hr.1]; exact hc.2)
        simp only [e1, e2, Bool.and_true, cond_true]
        exact g3
      · cases he
theorem zcN (h : RelH c L H) {β n st : Nat} {es : List (List D)} (he : zdk L β n st = some es) :
    0 < n ∧ st = es.length ∧ (L[β]? = some (.els n es) ∨ L[β]? = some (.grow n es)) ∧ ((es = [] ∧ c.ρ β = some .ghost) ∨ ∃ b vs, c.ρ β = some (.list b st) ∧ H[b]? = some (.blk vs) ∧ Els c n es vs) := by
  unfold zdk at he
  split at he
  · rename_i n' es' heq
    split at he
    · rename_i hc
      cases he
      obtain ⟨rfl, hc⟩ := hc
      obtain ⟨g0, b, vs, g1, g2, g3⟩ := h.obj β _ heq
      exact ⟨g0, hc, .inl heq, .inr ⟨b, vs, by rw [hc]; exact g1, g2, g3⟩⟩
    · cases he
  · rename_i n' es' heq
    split at he
    · rename_i hc
      cases he
      obtain ⟨rfl, hc⟩ := hc
      obtain ⟨g0, g1 | ⟨g, b, vs, g1, g2, g3⟩⟩ := h.obj β _ heq
      · exact ⟨g0, hc, .inr heq, .inl g1⟩
      · exact ⟨g0, hc, .inr heq, .inr ⟨b, vs, by rw [hc]; exact g1, g2, g3⟩⟩
    · cases he
  · cases he
theorem slR (h : RelH c L H) {β s n len st : Nat} {cap : Option Nat} {es : List (List D)} (he : zdk L β n st = some es) {v : V} (hr : R c (.sl β s n len cap st) v) :
    (∃ b vs, c.ρ β = some (.list b st) ∧ v = .sl b (s * n) n len cap ∧ H[b]? = some (.blk vs) ∧ Els c n es vs) ∨ (v = .lit (.slice none 0 0) ∧ s = 0 ∧ len = 0 ∧ cap = none ∧ st = 0 ∧ es = [] ∧ c.ρ β = some .ghost) := by
  obtain ⟨h1, h2, h3, h4⟩ := zcN h he
  rcases h4 with ⟨k1, k2⟩ | ⟨b, vs, k1, k2, k3⟩
  · cases hr with
    | sl g1 g2 => rw [k2] at g1; cases g1
    | slg g1 => exact .inr ⟨rfl, rfl, rfl, rfl, rfl, k1, k2⟩
  · cases hr with
    | sl g1 g2 =>
      rw [k1] at g1
      cases g1
      rcases g2 with ⟨g2, _⟩ | ⟨_, g2⟩
      · omega
      · exact .inl ⟨b, vs, k1, g2, k2, k3⟩
    | slg g1 => rw [k1] at g1; cases g1
theorem zlZ (h : RelH c L H) {β i n off st : Nat} {es : List (List D)} (he : zdk L β n st = some es) {v : V} (hr : R c (.eptr β n i off st) v) : ∃ b vs, c.ρ β = some (.list b st) ∧ v = .ptr b (i * n + off) ∧ H[b]? = some (.blk vs) ∧ Els c n es vs := by
  obtain ⟨h1, h2, h3, h4⟩ := zcN h he
  cases hr with
  | eptr g1 g2 =>
    rcases h4 with ⟨k1, k2⟩ | ⟨b, vs, k1, k2, k3⟩
    · rw [k2] at g1; cases g1
    · rw [k1] at g1
      injection g1 with g1
      injection g1 with g1 g1'
      subst g1
      subst g1'
      rcases g2 with ⟨g2, _⟩ | ⟨_, g2⟩
      · omega
      · exact ⟨b, vs, k1, g2, k2, k3⟩
end
end Go.Lx
