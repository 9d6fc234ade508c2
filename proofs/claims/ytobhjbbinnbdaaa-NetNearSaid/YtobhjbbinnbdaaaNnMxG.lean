/-
  The order of a region once more, for the kernel. Conditions: none.
-/
import Derived.Test.YtobhjbbinnbdaaaNnMx14
namespace Go.Mx
open Go
def znL : List Bool → Nat → Bool → Bool
  | [], _, d => d
  | x :: r, n, d => match n with
    | .zero => x
    | .succ m => znL r m d
theorem zfE : ∀ (l : List Bool) (n : Nat) (d : Bool), znL l n d = l.toArray.getD n d
  | [], n, d => by simp [znL]
  | x :: r, 0, d => by simp [znL]
  | x :: r, n + 1, d => by
    simp only [znL, zfE r n d]
    simp [Array.getD_eq_getD_getElem?]
def zsm : List Edge → List Nat
  | [] => []
  | e :: r => bif Region.binds .any e then e.on :: zsm r else zsm r
def zsG (o : Oper) : List Nat := zsm o.after.toList
def zrO (p : Nat → Bool) : List Nat → Bool
  | [] => false
  | d :: r => bif p d then true else zrO p r
def ztC (p : Nat → Bool) : List Nat → Bool
  | [] => true
  | d :: r => bif p d then ztC p r else false
theorem zn5 (p : Nat → Bool) : ∀ l : List Edge, l.any (fun e => Region.binds .any e && p e.on) = zrO p (zsm l)
  | [] => rfl
  | e :: r => by
    simp only [List.any_cons, zn5 p r, zsm]
    cases h1 : Region.binds .any e with
    | false => rfl
    | true => simp only [cond_true, zrO, Bool.true_and]; cases p e.on <;> rfl
theorem zng (p : Nat → Bool) : ∀ l : List Edge, l.all (fun e => !Region.binds .any e || p e.on) = ztC p (zsm l)
  | [] => rfl
  | e :: r => by
    simp only [List.all_cons, zng p r, zsm]
    cases h1 : Region.binds .any e with
    | false => rfl
    | true => simp only [cond_true, ztC, Bool.not_true, Bool.false_or]; cases p e.on <;> rfl
theorem zlD (o : Oper) (p : Nat → Bool) : (o.after.any fun e => Region.binds .any e && p e.on) = zrO p (zsG o) := by
  rw [← Array.any_toList, zn5]; rfl
theorem zqu (o : Oper) (p : Nat → Bool) : (o.after.all fun e => !Region.binds .any e || p e.on) = ztC p (zsG o) := by
  rw [← Array.all_toList, zng]; rfl
def zf8 (ops : Array Oper) (l : List Bool) : List Nat :=
  (List.range ops.size).filter fun i => bif znL l i true then false else (match ops[i]? with | some o => ztC (fun d => znL l d false) (zsG o) | none => false)
theorem zeZ (ops : Array Oper) (l : List Bool) : zf8 ops l = Region.ready .any ops l.toArray := by
  unfold zf8 Region.ready
  congr 1
  funext i
  rw [zfE]
  cases l.toArray.getD i true with
  | true => rfl
  | false =>
    cases ops[i]? with
    | none => rfl
    | some o =>
      simp only [cond_false, Bool.not_false, Bool.true_and, Option.map_some, Option.getD_some]
      rw [← zqu]
      congr 1
      funext e
      rw [zfE]
def zqs (ops : Array Oper) (l : List Bool) (i : Nat) : Bool :=
  match ops[i]? with
  | none => false
  | some oi => (List.range ops.size).all fun j => bif j == i then true else bif znL l j true then true else (match ops[j]? with
      | some oj => bif zrO (fun d => d == i) (zsG oj) then true else oi.apart ops oj
      | none => true)
theorem zlp (ops : Array Oper) (l : List Bool) (i : Nat) : zqs ops l i = Region.free .any ops l.toArray i := by
  unfold zqs Region.free
  cases ops[i]? with
  | none => rfl
  | some oi =>
    simp only
    congr 1
    funext j
    rw [zfE]
    cases (j == i) with
    | true => rfl
    | false =>
      cases l.toArray.getD j true with
      | true => rfl
      | false =>
        simp only [cond_false, Bool.false_or]
        cases ops[j]? with
        | none => rfl
        | some oj =>
          simp only
          have h := zlD oj (fun d => d == i)
          rw [h]
          cases zrO (fun d => d == i) (zsG oj) <;> rfl
def zul (bar : Bool) (P : Program) (ops : Array Oper) (s : List Bool) (l : List Nat) (n : Nat) : Bool :=
  l.contains n && (zeO bar (zcA P ops n) || zme P ops n) && (l.all fun i => i == n || (alI (zcA P ops i) && zqs ops s i)) &&
  (alI (zcA P ops n) || zme P ops n || (l.all fun i => i == n || zin (zcA P ops i))) &&
  ((List.range ops.size).all fun k => bif znL s k true then true else bif l.contains k then true else (match ops[k]? with
    | some o => zrO (fun d => bif znL s d false then false else (d == n || !l.contains d)) (zsG o)
    | none => true))
theorem zoN (bar : Bool) (P : Program) (ops : Array Oper) (s : List Bool) (l : List Nat) (n : Nat) : zul bar P ops s l n = okN bar P ops s.toArray l n := by
  unfold zul okN
  congr 1
  · congr 2
    congr 1
    funext i
    rw [zlp]
  · congr 1
    funext k
    rw [zfE]
    cases s.toArray.getD k true with
    | true => rfl
    | false =>
      cases l.contains k with
      | true => rfl
      | false =>
        simp only [cond_false, Bool.false_or]
        cases ops[k]? with
        | none => rfl
        | some o =>
          simp only
          have h := zlD o (fun d => bif znL s d false then false else (d == n || !l.contains d))
          rw [← h]
          congr 1
          funext e
          rw [zfE]
          cases Region.binds .any e <;> cases s.toArray.getD e.on false <;> rfl
def zho (bar : Bool) (P : Program) (ops : Array Oper) (s : List Bool) (l : List Nat) : Nat :=
  match l.find? fun i => !alI (zcA P ops i) with
  | some i => i
  | none => match l.find? fun i => !zin (zcA P ops i) && zul bar P ops s l i with
    | some i => i
    | none => (l.find? fun i => zul bar P ops s l i).getD 0
theorem znV (bar : Bool) (P : Program) (ops : Array Oper) (s : List Bool) (l : List Nat) : zho bar P ops s l = zie bar P ops s.toArray l := by
  unfold zho zie
  simp only [zoN]
  rfl
theorem zm1 (l : List Bool) (i : Nat) : l.toArray.setIfInBounds i true = (l.set i true).toArray := by simp
def zjY (ops : Array Oper) : Nat → List Bool → Option (List Nat)
  | 0, s => if (zf8 ops s).isEmpty then some [] else none
  | f + 1, s =>
    match zf8 ops s with
    | [] => some []
    | [i] => (zmE s i true fun s' => zjY ops f s').map (i :: ·)
    | _ => none
theorem zjf (ops : Array Oper) : ∀ (f : Nat) (s : List Bool), zjY ops f s = zjX ops f s.toArray
  | 0, s => by simp only [zjY, zjX, zeZ]
  | f + 1, s => by
    simp only [zjY, zjX, zeZ, zh9, zjf ops f, zm1]
    rfl
def zkU (bar : Bool) (P : Program) (ops : Array Oper) : Nat → List Bool → Option (List Nat × List Nat)
  | 0, s => if (zf8 ops s).isEmpty then some ([], []) else none
  | f + 1, s =>
    match (zf8 ops s).find? fun i => zah (zcA P ops i) && zqs ops s i && (!ztc ops i || zpW bar P ops s.toArray i) with
    | some i => (zmE s i true fun s' => zkU bar P ops f s').map fun r => (i :: r.1, r.2)
    | none => match zf8 ops s with
      | [] => some ([], [])
      | [i] => bif zeO bar (zcA P ops i) then (zmE s i true fun s' => zkU bar P ops f s').map fun r => (i :: r.1, r.2) else (zjY ops (f + 1) s).map fun r => ([], r)
      | i :: j :: l => bif zul bar P ops s (i :: j :: l) (zho bar P ops s (i :: j :: l)) then
          (match zmE s (zho bar P ops s (i :: j :: l)) true fun s' => zkU bar P ops f s' with
          | some r => bif okF P ops (i :: j :: l) (zho bar P ops s (i :: j :: l)) r.1 then some (zho bar P ops s (i :: j :: l) :: r.1, r.2) else none
          | none => none) else none
theorem zlK (bar : Bool) (P : Program) (ops : Array Oper) : ∀ (f : Nat) (s : List Bool), zkU bar P ops f s = zd9 bar P ops f s.toArray
  | 0, s => by simp only [zkU, zd9, zeZ]
  | f + 1, s => by
    simp only [zkU, zd9, zeZ, zh9, zlK bar P ops f, zm1, zlp, zoN, znV, zjf]
    rfl
def zuz {β : Type} (n : Nat) (k : List Bool → β) : β := zb6 (List.replicate n false) k
def zf0 (bar : Bool) (P : Program) (ops : Array Oper) : Option (List Nat × List Nat) :=
  if Region.noSelect ops && zgJ ops && zth P ops then zuz ops.size fun s => zkU bar P ops ops.size s else none
theorem zky (bar : Bool) (P : Program) (ops : Array Oper) : zf0 bar P ops = zsJ bar P ops := by
  unfold zf0 zsJ zuz
  simp only [zbN, zlK]
  rw [show (List.replicate ops.size false).toArray = Array.replicate ops.size false by simp]
def zdS (P : Program) (N : Nat) : Code → C
  | .skip => .skip
  | .region _ ops false => bif ops.all (fun o => zfL N o.dst) then .reg false false (ops.toList.map (irO P N ops)) else .bad
  | .region _ ops true => bif ops.all (fun o => zfL N o.dst) then (match zf0 false P ops with
    | some (l, l') => .reg true false ((l ++ l').flatMap (zkx P N ops))
    | none => (match zf0 true P ops with
      | some (l, l') => .reg true true ((l ++ l').flatMap (zkx P N ops))
      | none => .bad)) else .bad
  | .seq a b => .seq (zdS P N a) (zdS P N b)
  | .cond c a b => .cond (opX c) (zdS P N a) (zdS P N b)
  | .block id c => .block id (zdS P N c)
  | .loop c => .loop (zdS P N c)
  | .rangeFunc x ps a b => .zdf (opX x) ps.toList (zdS P N a) (zdS P N b)
  | .exit id => .exit id
  | .scope c => .scope (zdS P N c)
  | .label l => .label l
  | .ret => .ret
  | _ => .bad
theorem zp0 (P : Program) (N : Nat) (c : Code) : zdS P N c = comp P N c := by
  induction c with
  | region id ops dr => cases dr <;> simp only [zdS, comp, zky] <;> rfl
  | seq a b iha ihb => simp only [zdS, comp, iha, ihb]
  | cond x a b iha ihb => simp only [zdS, comp, iha, ihb]
  | block id c ih => simp only [zdS, comp, ih]
  | loop c ih => simp only [zdS, comp, ih]
  | rangeFunc x ps a b iha ihb => simp only [zdS, comp, iha, ihb]
  | scope c ih => simp only [zdS, comp, ih]
  | _ => rfl
def zlb (P : Program) (f : Nat) : Option Fn :=
  match P.funcs[f]? with
  | some fn => (match fn.body with
    | some c => bif !(fn.name == "runtime.NumGoroutine") && fn.results.toList.all (zi8 P) then some ⟨fn.ntmps, zdS P fn.ntmps c, fn.results.toList.map (zjr P), false⟩ else none
    | none => none)
  | none => none
theorem ziO (P : Program) (f : Nat) : zlb P f = ziB P f := by
  unfold zlb ziB
  simp only [zp0]
  rfl
theorem zbv.ofL {P : Program} {f : Nat} {fn : Fn} (h : zlb P f = some { fn with p := false }) : zbv P f fn := by
  unfold zbv; rw [← ziO]; exact h
end Go.Mx
