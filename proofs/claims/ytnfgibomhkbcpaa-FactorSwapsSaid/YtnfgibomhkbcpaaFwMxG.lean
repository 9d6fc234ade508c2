/-
 The order of a region once more, for the kernel. Conditions: none.
-/
import Derived.Test.YtnfgibomhkbcpaaFwMx14
set_option linter.unusedSimpArgs false
set_option linter.unusedVariables false
namespace Go.Mx
open Go
def znO:List Bool→Nat→Bool→Bool
 | [],_,d=>d
 | x :: r,n,d=>match n with
  | .zero=>x
  | .succ m=>znO r m d
theorem zga:∀(l:List Bool) (n:Nat) (d:Bool),znO l n d=l.toArray.getD n d
 | [],n,d=>by simp[znO]
 | x :: r,0,d=>by simp[znO]
 | x :: r,n+1,d=>by
  simp only[znO,zga r n d];simp[qbR]
def zqS:List Edge→List Nat
 | []=>[]
 | e :: r=>bif Region.binds .any e then e.on :: zqS r else zqS r
def zrC(o:Oper):List Nat:=zqS o.after.toList
def zq9(p:Nat→Bool):List Nat→Bool
 | []=>false
 | d :: r=>bif p d then true else zq9 p r
def zrZ(p:Nat→Bool):List Nat→Bool
 | []=>true
 | d :: r=>bif p d then zrZ p r else false
theorem znG(p:Nat→Bool):∀ l:List Edge,l.any (fun e=>Region.binds .any e && p e.on)=zq9 p (zqS l)
 | []=>rfl
 | e :: r=>by
  simp only[List.any_cons,znG p r,zqS];cases h1:Region.binds .any e with
  | false=>rfl
  | true=>simp only[cond_true,zq9,qbn]; cases p e.on<;>rfl
theorem zow(p:Nat→Bool):∀ l:List Edge,l.all (fun e=>!Region.binds .any e || p e.on)=zrZ p (zqS l)
 | []=>rfl
 | e :: r=>by
  simp only[List.all_cons,zow p r,zqS];cases h1:Region.binds .any e with
  | false=>rfl
  | true=>simp only[cond_true,zrZ,qaX,qb6]; cases p e.on<;>rfl
theorem zlC(o:Oper)(p:Nat→Bool):(o.after.any fun e=>Region.binds .any e && p e.on)=zq9 p (zrC o):=by
 rw[← Array.any_toList,znG]; rfl
theorem zpv(o:Oper)(p:Nat→Bool):(o.after.all fun e=>!Region.binds .any e || p e.on)=zrZ p (zrC o):=by
 rw[← Array.all_toList,zow]; rfl
def zgn(ops:Array Oper)(l:List Bool):List Nat:=
 (List.range ops.size).filter fun i=>bif znO l i true then false else(match ops[i]? with | some o=>zrZ (fun d=>znO l d false) (zrC o)| none=>false)
theorem zfq(ops:Array Oper)(l:List Bool):zgn ops l=Region.ready .any ops l.toArray:=by
 unfold zgn Region.ready;congr 1
 funext i
 rw[zga];cases l.toArray.getD i true with
 | true=>rfl
 | false=>
  cases ops[i]? with
  | none=>rfl
  | some o=>
   simp only[cond_false,qbt,qbn,qaG,qbj];rw[← zpv];congr 1
   funext e
   rw[zga]
def znu(ops:Array Oper)(l:List Bool)(i:Nat):Bool:=
 match ops[i]? with
 | none=>false
 | some oi=>(List.range ops.size).all fun j=>bif j == i then true else bif znO l j true then true else(match ops[j]? with
   | some oj=>bif zq9 (fun d=>d == i) (zrC oj)then true else oi.apart ops oj
   | none=>true)
theorem zis(ops:Array Oper)(l:List Bool)(i:Nat):znu ops l i=Region.free .any ops l.toArray i:=by
 unfold znu Region.free;cases ops[i]? with
 | none=>rfl
 | some oi=>
  simp only;congr 1
  funext j
  rw[zga];cases(j == i)with
  | true=>rfl
  | false=>
   cases l.toArray.getD j true with
   | true=>rfl
   | false=>
    simp only[cond_false,qb6];cases ops[j]? with
    | none=>rfl
    | some oj=>
     simp only;have h:=zlC oj (fun d=>d == i);rw[h];cases zq9 (fun d=>d == i) (zrC oj)<;> rfl
def zrL(bar:Bool)(P:Program)(ops:Array Oper)(s:List Bool)(l:List Nat)(n:Nat):Bool:=
 l.contains n && (zeU bar (zcC P ops n)|| zmC P ops n) && (l.all fun i=>i == n || (alI (zcC P ops i) && znu ops s i)) &&
 (alI (zcC P ops n)|| zmC P ops n || (l.all fun i=>i == n || zi7 (zcC P ops i))) &&
 ((List.range ops.size).all fun k=>bif znO s k true then true else bif l.contains k then true else(match ops[k]? with
  | some o=>zq9 (fun d=>bif znO s d false then false else(d == n || !l.contains d)) (zrC o)
  | none=>true))
theorem zoG(bar:Bool)(P:Program)(ops:Array Oper)(s:List Bool)(l:List Nat)(n:Nat):zrL bar P ops s l n=okN bar P ops s.toArray l n:=by
 unfold zrL okN;congr 1
 ·congr 2
  congr 1
  funext i
  rw[zis]
 congr 1
 funext k
 rw[zga];cases s.toArray.getD k true with
 | true=>rfl
 | false=>
  cases l.contains k with
  | true=>rfl
  | false=>
   simp only[cond_false,qb6];cases ops[k]? with
   | none=>rfl
   | some o=>
    simp only;have h:=zlC o (fun d=>bif znO s d false then false else(d == n || !l.contains d));rw[← h];congr 1
    funext e
    rw[zga];cases Region.binds .any e<;>cases s.toArray.getD e.on false<;>rfl
def zhN(bar:Bool)(P:Program)(ops:Array Oper)(s:List Bool)(l:List Nat):Nat:=
 match l.find? fun i=>!alI (zcC P ops i)with
 | some i=>i
 | none=>match l.find? fun i=>!zi7 (zcC P ops i) && zrL bar P ops s l i with
  | some i=>i
  | none=>(l.find? fun i=>zrL bar P ops s l i).getD 0
theorem zny(bar:Bool)(P:Program)(ops:Array Oper)(s:List Bool)(l:List Nat):zhN bar P ops s l=ziD bar P ops s.toArray l:=by
 unfold zhN ziD;simp only[zoG];rfl
theorem zou(l:List Bool)(i:Nat):l.toArray.setIfInBounds i true=(l.set i true).toArray:=by simp
def zif(P:Program)(ops:Array Oper):Nat→List Bool→Option (List Nat)
 | 0,s=>if(zgn ops s).isEmpty then some []else none
 | f+1,s=>
  match (zgn ops s).find? fun i=>zam (zcC P ops i) && znu ops s i && !zqe ops i with
  | some i=>(zo5 s i true fun s'=>zif P ops f s').map (i :: ·)
  | none=>match zgn ops s with
   | []=>some []
   | [i]=>(zo5 s i true fun s'=>zif P ops f s').map (i :: ·)
   | _=>none
theorem zj6(P:Program)(ops:Array Oper):∀(f:Nat) (s:List Bool),zif P ops f s=ziR P ops f s.toArray
 | 0,s=>by simp only[zif,ziR,zfq]
 | f+1,s=>by
  simp only[zif,ziR,zfq,zlg,zj6 P ops f,zou,zis];rfl
def zkW(bar:Bool)(P:Program)(ops:Array Oper):Nat→List Bool→Option (List Nat×List Nat)
 | 0,s=>if(zgn ops s).isEmpty then some ([],[])else none
 | f+1,s=>
  match (zgn ops s).find? fun i=>zam (zcC P ops i) && znu ops s i && (!zqe ops i || zpD bar P ops s.toArray i)with
  | some i=>(zo5 s i true fun s'=>zkW bar P ops f s').map fun r=>(i :: r.1,r.2)
  | none=>match zgn ops s with
   | []=>some ([],[])
   | [i]=>bif zeU bar (zcC P ops i)|| wrI (zcC P ops i)then(zo5 s i true fun s'=>zkW bar P ops f s').map fun r=>(i :: r.1,r.2)else(zif P ops (f+1) s).map fun r=>([],r)
   | i :: j :: l=>bif zrL bar P ops s (i :: j :: l) (zhN bar P ops s (i :: j :: l))then
     (match zo5 s (zhN bar P ops s (i :: j :: l)) true fun s'=>zkW bar P ops f s' with
     | some r=>bif okF P ops (i :: j :: l) (zhN bar P ops s (i :: j :: l)) r.1 then some (zhN bar P ops s (i :: j :: l):: r.1,r.2)else none
     | none=>none)else none
theorem zl8(bar:Bool)(P:Program)(ops:Array Oper):∀(f:Nat) (s:List Bool),zkW bar P ops f s=zej bar P ops f s.toArray
 | 0,s=>by simp only[zkW,zej,zfq]
 | f+1,s=>by
  simp only[zkW,zej,zfq,zlg,zl8 bar P ops f,zou,zis,zoG,zny,zj6];rfl
def zst{β:Type}(n:Nat)(k:List Bool→β):β:=zlP (List.replicate n false) k
def zgF(bar:Bool)(P:Program)(ops:Array Oper):Option (List Nat×List Nat):=
 if Region.noSelect ops && zgf ops && zr4 P ops then zst ops.size fun s=>zkW bar P ops ops.size s else none
theorem zk4(bar:Bool)(P:Program)(ops:Array Oper):zgF bar P ops=zrD bar P ops:=by
 unfold zgF zrD zst;simp only[zkc,zl8];rw[show(List.replicate ops.size false).toArray=Array.replicate ops.size false by simp]
def zed(P:Program)(N:Nat):Code→C
 | .skip=>.skip
 | .region _ ops false=>bif ops.all (fun o=>zgu N o.dst)then .reg false false (ops.toList.map (irO P N ops))else .bad
 | .region _ ops true=>bif ops.all (fun o=>zgu N o.dst)then(match zgF false P ops with
  | some (l,l')=>.reg true false ((l ++ l').flatMap (zkE P N ops))
  | none=>(match zgF true P ops with
   | some (l,l')=>.reg true true ((l ++ l').flatMap (zkE P N ops))
   | none=>.bad))else .bad
 | .seq a b=>.seq (zed P N a) (zed P N b)
 | .cond c a b=>.cond (opX c) (zed P N a) (zed P N b)
 | .block id c=>.block id (zed P N c)
 | .loop c=>.loop (zed P N c)
 | .rangeFunc x ps a b=>.zdJ (opX x) ps.toList (zed P N a) (zed P N b)
 | .exit id=>.exit id
 | .scope c=>.scope (zed P N c)
 | .label l=>.label l
 | .ret=>.ret
 | _=>.bad
theorem zpM(P:Program)(N:Nat)(c:Code):zed P N c=comp P N c:=by
 induction c with
 | region id ops dr=>cases dr<;>simp only[zed,comp,zk4]<;>rfl
 | seq a b iha ihb=>simp only[zed,comp,iha,ihb]
 | cond x a b iha ihb=>simp only[zed,comp,iha,ihb]
 | block id c ih=>simp only[zed,comp,ih]
 | loop c ih=>simp only[zed,comp,ih]
 | rangeFunc x ps a b iha ihb=>simp only[zed,comp,iha,ihb]
 | scope c ih=>simp only[zed,comp,ih]
 | _=>rfl
def zjI(P:Program)(f:Nat):Option Fn:=
 match P.funcs[f]? with
 | some fn=>(match fn.body with
  | some c=>bif !wrF f && !(fn.name == "runtime.NumGoroutine") && fn.results.toList.all (zjt P)then some ⟨fn.ntmps,zed P fn.ntmps c,fn.results.toList.map (zkf P),false⟩else none
  | none=>none)
 | none=>none
theorem zoV(P:Program)(f:Nat):zjI P f=zhD P f:=by
 unfold zjI zhD;simp only[zpM];rfl
theorem zqQ{P:Program}{f:Nat}{fn:Fn}(h:zhD P f=some fn):fn.p=false:=by
 unfold zhD at h;split at h
 ·split at h
  ·simp only[cond_eq_ite]at h;split at h
   ·cases h; rfl
   cases h
  cases h
 cases h
end Go.Mx
