/-
  The order of a region once more, for the kernel. Conditions: none.
-/
import Derived.Test.YtobhjbbinnbdaaaNsMx14
namespace Go.Mx
open Go
set_option linter.unusedSimpArgs false
set_option linter.unusedVariables false
def nthB : List Bool → Nat → Bool → Bool
  | [], _, d => d
  | x :: r, n, d => match n with
    | .zero => x
    | .succ m => nthB r m d
theorem nthB_eq : ∀ (l : List Bool) (n : Nat) (d : Bool), nthB l n d = l.toArray.getD n d
  | [], n, d => by simp [nthB]
  | x :: r, 0, d => by simp [nthB]
  | x :: r, n + 1, d => by
    simp only [nthB, nthB_eq r n d]
    simp [Array.getD_eq_getD_getElem?]
def depL : List Edge → List Nat
  | [] => []
  | e :: r => bif Region.binds .any e then e.on :: depL r else depL r
def depO (o : Oper) : List Nat := depL o.after.toList
def anyN (p : Nat → Bool) : List Nat → Bool
  | [] => false
  | d :: r => bif p d then true else anyN p r
def allN (p : Nat → Bool) : List Nat → Bool
  | [] => true
  | d :: r => bif p d then allN p r else false
theorem dep_any (p : Nat → Bool) : ∀ l : List Edge, l.any (fun e => Region.binds .any e && p e.on) = anyN p (depL l)
  | [] => rfl
  | e :: r => by
    simp only [List.any_cons, dep_any p r, depL]
    cases h1 : Region.binds .any e with
    | false => rfl
    | true => simp only [cond_true, anyN, Bool.true_and]; cases p e.on <;> rfl
theorem dep_all (p : Nat → Bool) : ∀ l : List Edge, l.all (fun e => !Region.binds .any e || p e.on) = allN p (depL l)
  | [] => rfl
  | e :: r => by
    simp only [List.all_cons, dep_all p r, depL]
    cases h1 : Region.binds .any e with
    | false => rfl
    | true => simp only [cond_true, allN, Bool.not_true, Bool.false_or]; cases p e.on <;> rfl
theorem depO_any (o : Oper) (p : Nat → Bool) : (o.after.any fun e => Region.binds .any e && p e.on) = anyN p (depO o) := by
  rw [← Array.any_toList, dep_any]; rfl
theorem depO_all (o : Oper) (p : Nat → Bool) : (o.after.all fun e => !Region.binds .any e || p e.on) = allN p (depO o) := by
  rw [← Array.all_toList, dep_all]; rfl
def readyF (ops : Array Oper) (l : List Bool) : List Nat :=
  (List.range ops.size).filter fun i => bif nthB l i true then false else (match ops[i]? with | some o => allN (fun d => nthB l d false) (depO o) | none => false)
theorem readyF_eq (ops : Array Oper) (l : List Bool) : readyF ops l = Region.ready .any ops l.toArray := by
  unfold readyF Region.ready
  congr 1
  funext i
  rw [nthB_eq]
  cases l.toArray.getD i true with
  | true => rfl
  | false =>
    cases ops[i]? with
    | none => rfl
    | some o =>
      simp only [cond_false, Bool.not_false, Bool.true_and, Option.map_some, Option.getD_some]
      rw [← depO_all]
      congr 1
      funext e
      rw [nthB_eq]
def freeF (ops : Array Oper) (l : List Bool) (i : Nat) : Bool :=
  match ops[i]? with
  | none => false
  | some oi => (List.range ops.size).all fun j => bif j == i then true else bif nthB l j true then true else (match ops[j]? with
      | some oj => bif anyN (fun d => d == i) (depO oj) then true else oi.apart ops oj
      | none => true)
theorem freeF_eq (ops : Array Oper) (l : List Bool) (i : Nat) : freeF ops l i = Region.free .any ops l.toArray i := by
  unfold freeF Region.free
  cases ops[i]? with
  | none => rfl
  | some oi =>
    simp only
    congr 1
    funext j
    rw [nthB_eq]
    cases (j == i) with
    | true => rfl
    | false =>
      cases l.toArray.getD j true with
      | true => rfl
      | false =>
        simp only [cond_false, Bool.false_or]
        cases ops[j]? with
        | none => rfl
        | some oj =>
          simp only
          have h := depO_any oj (fun d => d == i)
          rw [h]
          cases anyN (fun d => d == i) (depO oj) <;> rfl
def okNF (bar : Bool) (P : Program) (ops : Array Oper) (s : List Bool) (l : List Nat) (n : Nat) : Bool :=
  l.contains n && (extI bar (irAt P ops n) || stAt P ops n) && (l.all fun i => i == n || (alI (irAt P ops i) && freeF ops s i)) &&
  (alI (irAt P ops n) || stAt P ops n || (l.all fun i => i == n || sureI (irAt P ops i))) &&
  ((List.range ops.size).all fun k => bif nthB s k true then true else bif l.contains k then true else (match ops[k]? with
    | some o => anyN (fun d => bif nthB s d false then false else (d == n || !l.contains d)) (depO o)
    | none => true))
theorem okNF_eq (bar : Bool) (P : Program) (ops : Array Oper) (s : List Bool) (l : List Nat) (n : Nat) : okNF bar P ops s l n = okN bar P ops s.toArray l n := by
  unfold okNF okN
  congr 1
  · congr 2
    congr 1
    funext i
    rw [freeF_eq]
  · congr 1
    funext k
    rw [nthB_eq]
    cases s.toArray.getD k true with
    | true => rfl
    | false =>
      cases l.contains k with
      | true => rfl
      | false =>
        simp only [cond_false, Bool.false_or]
        cases ops[k]? with
        | none => rfl
        | some o =>
          simp only
          have h := depO_any o (fun d => bif nthB s d false then false else (d == n || !l.contains d))
          rw [← h]
          congr 1
          funext e
          rw [nthB_eq]
          cases Region.binds .any e <;> cases s.toArray.getD e.on false <;> rfl
def pickNF (bar : Bool) (P : Program) (ops : Array Oper) (s : List Bool) (l : List Nat) : Nat :=
  match l.find? fun i => !alI (irAt P ops i) with
  | some i => i
  | none => match l.find? fun i => !sureI (irAt P ops i) && okNF bar P ops s l i with
    | some i => i
    | none => (l.find? fun i => okNF bar P ops s l i).getD 0
theorem pickNF_eq (bar : Bool) (P : Program) (ops : Array Oper) (s : List Bool) (l : List Nat) : pickNF bar P ops s l = pickN bar P ops s.toArray l := by
  unfold pickNF pickN
  simp only [okNF_eq]
  rfl
theorem set_arr (l : List Bool) (i : Nat) : l.toArray.setIfInBounds i true = (l.set i true).toArray := by simp
def planBF (ops : Array Oper) : Nat → List Bool → Option (List Nat)
  | 0, s => if (readyF ops s).isEmpty then some [] else none
  | f + 1, s =>
    match readyF ops s with
    | [] => some []
    | [i] => (setK s i true fun s' => planBF ops f s').map (i :: ·)
    | _ => none
theorem planBF_eq (ops : Array Oper) : ∀ (f : Nat) (s : List Bool), planBF ops f s = planB ops f s.toArray
  | 0, s => by simp only [planBF, planB, readyF_eq]
  | f + 1, s => by
    simp only [planBF, planB, readyF_eq, setK_eq, planBF_eq ops f, set_arr]
    rfl
def planF (bar : Bool) (P : Program) (ops : Array Oper) : Nat → List Bool → Option (List Nat × List Nat)
  | 0, s => if (readyF ops s).isEmpty then some ([], []) else none
  | f + 1, s =>
    match (readyF ops s).find? fun i => quietI (irAt P ops i) && freeF ops s i && (!ldAt ops i || lateB bar P ops s.toArray i) with
    | some i => (setK s i true fun s' => planF bar P ops f s').map fun r => (i :: r.1, r.2)
    | none => match readyF ops s with
      | [] => some ([], [])
      | [i] => bif extI bar (irAt P ops i) then (setK s i true fun s' => planF bar P ops f s').map fun r => (i :: r.1, r.2) else (planBF ops (f + 1) s).map fun r => ([], r)
      | i :: j :: l => bif okNF bar P ops s (i :: j :: l) (pickNF bar P ops s (i :: j :: l)) then
          (match setK s (pickNF bar P ops s (i :: j :: l)) true fun s' => planF bar P ops f s' with
          | some r => bif okF P ops (i :: j :: l) (pickNF bar P ops s (i :: j :: l)) r.1 then some (pickNF bar P ops s (i :: j :: l) :: r.1, r.2) else none
          | none => none) else none
theorem planF_eq (bar : Bool) (P : Program) (ops : Array Oper) : ∀ (f : Nat) (s : List Bool), planF bar P ops f s = planA bar P ops f s.toArray
  | 0, s => by simp only [planF, planA, readyF_eq]
  | f + 1, s => by
    simp only [planF, planA, readyF_eq, setK_eq, planF_eq bar P ops f, set_arr, freeF_eq, okNF_eq, pickNF_eq, planBF_eq]
    rfl
def fills {β : Type} (n : Nat) (k : List Bool → β) : β := fcList (List.replicate n false) k
def planFast (bar : Bool) (P : Program) (ops : Array Oper) : Option (List Nat × List Nat) :=
  if Region.noSelect ops && noDefer ops && noRec P ops then fills ops.size fun s => planF bar P ops ops.size s else none
theorem planFast_eq (bar : Bool) (P : Program) (ops : Array Oper) : planFast bar P ops = plan bar P ops := by
  unfold planFast plan fills
  simp only [fcList_eq, planF_eq]
  rw [show (List.replicate ops.size false).toArray = Array.replicate ops.size false by simp]
/-- As comp. -/
def compL (P : Program) (N : Nat) : Code → C
  | .skip => .skip
  | .region _ ops false => bif ops.all (fun o => dstOk N o.dst) then .reg false false (ops.toList.map (irO P N ops)) else .bad
  | .region _ ops true => bif ops.all (fun o => dstOk N o.dst) then (match planFast false P ops with
    | some (l, l') => .reg true false ((l ++ l').flatMap (seqO P N ops))
    | none => (match planFast true P ops with
      | some (l, l') => .reg true true ((l ++ l').flatMap (seqO P N ops))
      | none => .bad)) else .bad
  | .seq a b => .seq (compL P N a) (compL P N b)
  | .cond c a b => .cond (opX c) (compL P N a) (compL P N b)
  | .block id c => .block id (compL P N c)
  | .loop c => .loop (compL P N c)
  | .rangeFunc x ps a b => .rfunc (opX x) ps.toList (compL P N a) (compL P N b)
  | .exit id => .exit id
  | .scope c => .scope (compL P N c)
  | .label l => .label l
  | .ret => .ret
  | _ => .bad
theorem compL_eq (P : Program) (N : Nat) (c : Code) : compL P N c = comp P N c := by
  induction c with
  | region id ops dr => cases dr <;> simp only [compL, comp, planFast_eq] <;> rfl
  | seq a b iha ihb => simp only [compL, comp, iha, ihb]
  | cond x a b iha ihb => simp only [compL, comp, iha, ihb]
  | block id c ih => simp only [compL, comp, ih]
  | loop c ih => simp only [compL, comp, ih]
  | rangeFunc x ps a b iha ihb => simp only [compL, comp, iha, ihb]
  | scope c ih => simp only [compL, comp, ih]
  | _ => rfl
def compLF (P : Program) (f : Nat) : Option Fn :=
  match P.funcs[f]? with
  | some fn => (match fn.body with
    | some c => bif !(fn.name == "runtime.NumGoroutine") && fn.results.toList.all (resOk P) then some ⟨fn.ntmps, compL P fn.ntmps c, fn.results.toList.map (compR P), false⟩ else none
    | none => none)
  | none => none
theorem compLF_eq (P : Program) (f : Nat) : compLF P f = compF P f := by
  unfold compLF compF
  simp only [compL_eq]
  rfl
end Go.Mx
