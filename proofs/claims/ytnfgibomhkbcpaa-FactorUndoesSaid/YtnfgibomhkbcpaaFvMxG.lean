/-
 The order of a region once more, for the kernel. Conditions: none.
-/
import Derived.Test.YtnfgibomhkbcpaaFvMx14
set_option linter.unusedSimpArgs false
set_option linter.unusedVariables false
namespace Go.Mx
open Go
def zoI:List Bool→Nat→Bool→Bool
 | [],_,d=>d
 | x :: r,n,d=>match n with
  | .zero=>x
  | .succ m=>zoI r m d
theorem zf0:∀(l:List Bool) (n:Nat) (d:Bool),zoI l n d=l.toArray.getD n d
 | [],n,d=>by simp[zoI]
 | x :: r,0,d=>by simp[zoI]
 | x :: r,n+1,d=>by
  simp only[zoI,zf0 r n d];simp[qbS]
def zrg:List Edge→List Nat
 | []=>[]
 | e :: r=>bif Region.binds .any e then e.on :: zrg r else zrg r
def zrD(o:Oper):List Nat:=zrg o.after.toList
def zrr(p:Nat→Bool):List Nat→Bool
 | []=>false
 | d :: r=>bif p d then true else zrr p r
def zsj(p:Nat→Bool):List Nat→Bool
 | []=>true
 | d :: r=>bif p d then zsj p r else false
theorem zn6(p:Nat→Bool):∀ l:List Edge,l.any (fun e=>Region.binds .any e && p e.on)=zrr p (zrg l)
 | []=>rfl
 | e :: r=>by
  simp only[List.any_cons,zn6 p r,zrg];cases h1:Region.binds .any e with
  | false=>rfl
  | true=>simp only[cond_true,zrr,qa6]; cases p e.on<;>rfl
theorem znJ(p:Nat→Bool):∀ l:List Edge,l.all (fun e=>!Region.binds .any e || p e.on)=zsj p (zrg l)
 | []=>rfl
 | e :: r=>by
  simp only[qbU,znJ p r,zrg];cases h1:Region.binds .any e with
  | false=>rfl
  | true=>simp only[cond_true,zsj,qaP,qb0]; cases p e.on<;>rfl
theorem zlK(o:Oper)(p:Nat→Bool):(o.after.any fun e=>Region.binds .any e && p e.on)=zrr p (zrD o):=by
 rw[← Array.any_toList,zn6]; rfl
theorem zo9(o:Oper)(p:Nat→Bool):(o.after.all fun e=>!Region.binds .any e || p e.on)=zsj p (zrD o):=by
 rw[← Array.all_toList,znJ]; rfl
def zgm(ops:Array Oper)(l:List Bool):List Nat:=
 (List.range ops.size).filter fun i=>bif zoI l i true then false else(match ops[i]? with | some o=>zsj (fun d=>zoI l d false) (zrD o)| none=>false)
theorem zfq(ops:Array Oper)(l:List Bool):zgm ops l=Region.ready .any ops l.toArray:=by
 unfold zgm Region.ready;congr 1
 funext i
 rw[zf0];cases l.toArray.getD i true with
 | true=>rfl
 | false=>
  cases ops[i]? with
  | none=>rfl
  | some o=>
   simp only[cond_false,qbh,qa6,qaG,qbo];rw[← zo9];congr 1
   funext e
   rw[zf0]
def zon(ops:Array Oper)(l:List Bool)(i:Nat):Bool:=
 match ops[i]? with
 | none=>false
 | some oi=>(List.range ops.size).all fun j=>bif j == i then true else bif zoI l j true then true else(match ops[j]? with
   | some oj=>bif zrr (fun d=>d == i) (zrD oj)then true else oi.apart ops oj
   | none=>true)
theorem ziq(ops:Array Oper)(l:List Bool)(i:Nat):zon ops l i=Region.free .any ops l.toArray i:=by
 unfold zon Region.free;cases ops[i]? with
 | none=>rfl
 | some oi=>
  simp only;congr 1
  funext j
  rw[zf0];cases(j == i)with
  | true=>rfl
  | false=>
   cases l.toArray.getD j true with
   | true=>rfl
   | false=>
    simp only[cond_false,qb0];cases ops[j]? with
    | none=>rfl
    | some oj=>
     simp only;have h:=zlK oj (fun d=>d == i);rw[h];cases zrr (fun d=>d == i) (zrD oj)<;> rfl
def zr0(bar:Bool)(P:Program)(ops:Array Oper)(s:List Bool)(l:List Nat)(n:Nat):Bool:=
 l.contains n && (zeW bar (zcw P ops n)|| zmF P ops n) && (l.all fun i=>i == n || (alI (zcw P ops i) && zon ops s i)) &&
 (alI (zcw P ops n)|| zmF P ops n || (l.all fun i=>i == n || zji (zcw P ops i))) &&
 ((List.range ops.size).all fun k=>bif zoI s k true then true else bif l.contains k then true else(match ops[k]? with
  | some o=>zrr (fun d=>bif zoI s d false then false else(d == n || !l.contains d)) (zrD o)
  | none=>true))
theorem zoH(bar:Bool)(P:Program)(ops:Array Oper)(s:List Bool)(l:List Nat)(n:Nat):zr0 bar P ops s l n=okN bar P ops s.toArray l n:=by
 unfold zr0 okN;congr 1
 ·congr 2
  congr 1
  funext i
  rw[ziq]
 congr 1
 funext k
 rw[zf0];cases s.toArray.getD k true with
 | true=>rfl
 | false=>
  cases l.contains k with
  | true=>rfl
  | false=>
   simp only[cond_false,qb0];cases ops[k]? with
   | none=>rfl
   | some o=>
    simp only;have h:=zlK o (fun d=>bif zoI s d false then false else(d == n || !l.contains d));rw[← h];congr 1
    funext e
    rw[zf0];cases Region.binds .any e<;>cases s.toArray.getD e.on false<;>rfl
def zh8(bar:Bool)(P:Program)(ops:Array Oper)(s:List Bool)(l:List Nat):Nat:=
 match l.find? fun i=>!alI (zcw P ops i)with
 | some i=>i
 | none=>match l.find? fun i=>!zji (zcw P ops i) && zr0 bar P ops s l i with
  | some i=>i
  | none=>(l.find? fun i=>zr0 bar P ops s l i).getD 0
theorem znG(bar:Bool)(P:Program)(ops:Array Oper)(s:List Bool)(l:List Nat):zh8 bar P ops s l=zi3 bar P ops s.toArray l:=by
 unfold zh8 zi3;simp only[zoH];rfl
theorem znc(l:List Bool)(i:Nat):l.toArray.setIfInBounds i true=(l.set i true).toArray:=by simp
def zib(P:Program)(ops:Array Oper):Nat→List Bool→Option (List Nat)
 | 0,s=>if(zgm ops s).isEmpty then some []else none
 | f+1,s=>
  match (zgm ops s).find? fun i=>zak (zcw P ops i) && zon ops s i && !zpY ops i with
  | some i=>(zo4 s i true fun s'=>zib P ops f s').map (i :: ·)
  | none=>match zgm ops s with
   | []=>some []
   | [i]=>(zo4 s i true fun s'=>zib P ops f s').map (i :: ·)
   | _=>none
theorem zki(P:Program)(ops:Array Oper):∀(f:Nat) (s:List Bool),zib P ops f s=ziY P ops f s.toArray
 | 0,s=>by simp only[zib,ziY,zfq]
 | f+1,s=>by
  simp only[zib,ziY,zfq,zkL,zki P ops f,znc,ziq];rfl
def zkC(bar:Bool)(P:Program)(ops:Array Oper):Nat→List Bool→Option (List Nat×List Nat)
 | 0,s=>if(zgm ops s).isEmpty then some ([],[])else none
 | f+1,s=>
  match (zgm ops s).find? fun i=>zak (zcw P ops i) && zon ops s i && (!zpY ops i || zpp bar P ops s.toArray i)with
  | some i=>(zo4 s i true fun s'=>zkC bar P ops f s').map fun r=>(i :: r.1,r.2)
  | none=>match zgm ops s with
   | []=>some ([],[])
   | [i]=>bif zeW bar (zcw P ops i)|| wrI (zcw P ops i)then(zo4 s i true fun s'=>zkC bar P ops f s').map fun r=>(i :: r.1,r.2)else(zib P ops (f+1) s).map fun r=>([],r)
   | i :: j :: l=>bif zr0 bar P ops s (i :: j :: l) (zh8 bar P ops s (i :: j :: l))then
     (match zo4 s (zh8 bar P ops s (i :: j :: l)) true fun s'=>zkC bar P ops f s' with
     | some r=>bif okF P ops (i :: j :: l) (zh8 bar P ops s (i :: j :: l)) r.1 then some (zh8 bar P ops s (i :: j :: l):: r.1,r.2)else none
     | none=>none)else none
theorem zl3(bar:Bool)(P:Program)(ops:Array Oper):∀(f:Nat) (s:List Bool),zkC bar P ops f s=zez bar P ops f s.toArray
 | 0,s=>by simp only[zkC,zez,zfq]
 | f+1,s=>by
  simp only[zkC,zez,zfq,zkL,zl3 bar P ops f,znc,ziq,zoH,znG,zki];rfl
def zsI{β:Type}(n:Nat)(k:List Bool→β):β:=zlV (List.replicate n false) k
def zgA(bar:Bool)(P:Program)(ops:Array Oper):Option (List Nat×List Nat):=
 if Region.noSelect ops && zf5 ops && zsD P ops then zsI ops.size fun s=>zkC bar P ops ops.size s else none
theorem zkD(bar:Bool)(P:Program)(ops:Array Oper):zgA bar P ops=zrC bar P ops:=by
 unfold zgA zrC zsI;simp only[zj1,zl3];rw[show(List.replicate ops.size false).toArray=Array.replicate ops.size false by simp]
def zee(P:Program)(N:Nat):Code→C
 | .skip=>.skip
 | .region _ ops false=>bif ops.all (fun o=>zgr N o.dst)then .reg false false (ops.toList.map (irO P N ops))else .bad
 | .region _ ops true=>bif ops.all (fun o=>zgr N o.dst)then(match zgA false P ops with
  | some (l,l')=>.reg true false ((l ++ l').flatMap (zkz P N ops))
  | none=>(match zgA true P ops with
   | some (l,l')=>.reg true true ((l ++ l').flatMap (zkz P N ops))
   | none=>.bad))else .bad
 | .seq a b=>.seq (zee P N a) (zee P N b)
 | .cond c a b=>.cond (opX c) (zee P N a) (zee P N b)
 | .block id c=>.block id (zee P N c)
 | .loop c=>.loop (zee P N c)
 | .rangeFunc x ps a b=>.zdI (opX x) ps.toList (zee P N a) (zee P N b)
 | .exit id=>.exit id
 | .scope c=>.scope (zee P N c)
 | .label l=>.label l
 | .ret=>.ret
 | _=>.bad
theorem zo8(P:Program)(N:Nat)(c:Code):zee P N c=comp P N c:=by
 induction c with
 | region id ops dr=>cases dr<;>simp only[zee,comp,zkD]<;>rfl
 | seq a b iha ihb=>simp only[zee,comp,iha,ihb]
 | cond x a b iha ihb=>simp only[zee,comp,iha,ihb]
 | block id c ih=>simp only[zee,comp,ih]
 | loop c ih=>simp only[zee,comp,ih]
 | rangeFunc x ps a b iha ihb=>simp only[zee,comp,iha,ihb]
 | scope c ih=>simp only[zee,comp,ih]
 | _=>rfl
def zkt(P:Program)(f:Nat):Option Fn:=
 match P.funcs[f]? with
 | some fn=>(match fn.body with
  | some c=>bif !wrF f && !(fn.name == "runtime.NumGoroutine") && fn.results.toList.all (zju P)then some ⟨fn.ntmps,zee P fn.ntmps c,fn.results.toList.map (zjo P),false⟩else none
  | none=>none)
 | none=>none
theorem znu(P:Program)(f:Nat):zkt P f=zhA P f:=by
 unfold zkt zhA;simp only[zo8];rfl
theorem zq8{P:Program}{f:Nat}{fn:Fn}(h:zhA P f=some fn):fn.p=false:=by
 unfold zhA at h;split at h
 ·split at h
  ·simp only[cond_eq_ite]at h;split at h
   ·cases h; rfl
   cases h
  cases h
 cases h
end Go.Mx
