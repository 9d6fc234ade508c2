/-
 The order of a region once more, for the kernel. Conditions: none.
-/
import Derived.Test.YtnfgibomhkbcpaaFpMx14
set_option linter.unusedSimpArgs false
set_option linter.unusedVariables false
namespace Go.Mx
open Go
def zpf:List Bool→Nat→Bool→Bool
 | [],_,d=>d
 | x :: r,n,d=>match n with
  | .zero=>x
  | .succ m=>zpf r m d
theorem zgM:∀(l:List Bool) (n:Nat) (d:Bool),zpf l n d=l.toArray.getD n d
 | [],n,d=>by simp[zpf]
 | x :: r,0,d=>by simp[zpf]
 | x :: r,n+1,d=>by
  simp only[zpf,zgM r n d];simp[qbX]
def zrS:List Edge→List Nat
 | []=>[]
 | e :: r=>bif Region.binds .any e then e.on :: zrS r else zrS r
def zs4(o:Oper):List Nat:=zrS o.after.toList
def zsT(p:Nat→Bool):List Nat→Bool
 | []=>false
 | d :: r=>bif p d then true else zsT p r
def zt0(p:Nat→Bool):List Nat→Bool
 | []=>true
 | d :: r=>bif p d then zt0 p r else false
theorem zoO(p:Nat→Bool):∀ l:List Edge,l.any (fun e=>Region.binds .any e && p e.on)=zsT p (zrS l)
 | []=>rfl
 | e :: r=>by
  simp only[List.any_cons,zoO p r,zrS];cases h1:Region.binds .any e with
  | false=>rfl
  | true=>simp only[cond_true,zsT,qaH]; cases p e.on<;>rfl
theorem zqi(p:Nat→Bool):∀ l:List Edge,l.all (fun e=>!Region.binds .any e || p e.on)=zt0 p (zrS l)
 | []=>rfl
 | e :: r=>by
  simp only[qbB,zqi p r,zrS];cases h1:Region.binds .any e with
  | false=>rfl
  | true=>simp only[cond_true,zt0,qaD,qb3]; cases p e.on<;>rfl
theorem znr(o:Oper)(p:Nat→Bool):(o.after.any fun e=>Region.binds .any e && p e.on)=zsT p (zs4 o):=by
 rw[← Array.any_toList,zoO]; rfl
theorem zq8(o:Oper)(p:Nat→Bool):(o.after.all fun e=>!Region.binds .any e || p e.on)=zt0 p (zs4 o):=by
 rw[← Array.all_toList,zqi]; rfl
def zg4(ops:Array Oper)(l:List Bool):List Nat:=
 (List.range ops.size).filter fun i=>bif zpf l i true then false else(match ops[i]? with | some o=>zt0 (fun d=>zpf l d false) (zs4 o)| none=>false)
theorem zga(ops:Array Oper)(l:List Bool):zg4 ops l=Region.ready .any ops l.toArray:=by
 unfold zg4 Region.ready;congr 1
 funext i
 rw[zgM];cases l.toArray.getD i true with
 | true=>rfl
 | false=>
  cases ops[i]? with
  | none=>rfl
  | some o=>
   simp only[cond_false,qaT,qaH,qaI,qbn];rw[← zq8];congr 1
   funext e
   rw[zgM]
def zpC(ops:Array Oper)(l:List Bool)(i:Nat):Bool:=
 match ops[i]? with
 | none=>false
 | some oi=>(List.range ops.size).all fun j=>bif j == i then true else bif zpf l j true then true else(match ops[j]? with
   | some oj=>bif zsT (fun d=>d == i) (zs4 oj)then true else oi.apart ops oj
   | none=>true)
theorem zjm(ops:Array Oper)(l:List Bool)(i:Nat):zpC ops l i=Region.free .any ops l.toArray i:=by
 unfold zpC Region.free;cases ops[i]? with
 | none=>rfl
 | some oi=>
  simp only;congr 1
  funext j
  rw[zgM];cases(j == i)with
  | true=>rfl
  | false=>
   cases l.toArray.getD j true with
   | true=>rfl
   | false=>
    simp only[cond_false,qb3];cases ops[j]? with
    | none=>rfl
    | some oj=>
     simp only;have h:=znr oj (fun d=>d == i);rw[h];cases zsT (fun d=>d == i) (zs4 oj)<;> rfl
def ztD(bar:Bool)(P:Program)(ops:Array Oper)(s:List Bool)(l:List Nat)(n:Nat):Bool:=
 l.contains n && (zfB bar (zcS P ops n)|| zn3 P ops n) && (l.all fun i=>i == n || (alI (zcS P ops i) && zpC ops s i)) &&
 (alI (zcS P ops n)|| zn3 P ops n || (l.all fun i=>i == n || zjp (zcS P ops i))) &&
 ((List.range ops.size).all fun k=>bif zpf s k true then true else bif l.contains k then true else(match ops[k]? with
  | some o=>zsT (fun d=>bif zpf s d false then false else(d == n || !l.contains d)) (zs4 o)
  | none=>true))
theorem zot(bar:Bool)(P:Program)(ops:Array Oper)(s:List Bool)(l:List Nat)(n:Nat):ztD bar P ops s l n=okN bar P ops s.toArray l n:=by
 unfold ztD okN;congr 1
 ·congr 2
  congr 1
  funext i
  rw[zjm]
 congr 1
 funext k
 rw[zgM];cases s.toArray.getD k true with
 | true=>rfl
 | false=>
  cases l.contains k with
  | true=>rfl
  | false=>
   simp only[cond_false,qb3];cases ops[k]? with
   | none=>rfl
   | some o=>
    simp only;have h:=znr o (fun d=>bif zpf s d false then false else(d == n || !l.contains d));rw[← h];congr 1
    funext e
    rw[zgM];cases Region.binds .any e<;>cases s.toArray.getD e.on false<;>rfl
def ziI(bar:Bool)(P:Program)(ops:Array Oper)(s:List Bool)(l:List Nat):Nat:=
 match l.find? fun i=>!alI (zcS P ops i)with
 | some i=>i
 | none=>match l.find? fun i=>!zjp (zcS P ops i) && ztD bar P ops s l i with
  | some i=>i
  | none=>(l.find? fun i=>ztD bar P ops s l i).getD 0
theorem zoZ(bar:Bool)(P:Program)(ops:Array Oper)(s:List Bool)(l:List Nat):ziI bar P ops s l=zjr bar P ops s.toArray l:=by
 unfold ziI zjr;simp only[zot];rfl
theorem zo5(l:List Bool)(i:Nat):l.toArray.setIfInBounds i true=(l.set i true).toArray:=by simp
def zja(P:Program)(ops:Array Oper):Nat→List Bool→Option (List Nat)
 | 0,s=>if(zg4 ops s).isEmpty then some []else none
 | f+1,s=>
  match (zg4 ops s).find? fun i=>zal (zcS P ops i) && zpC ops s i && !zrm ops i with
  | some i=>(zqr s i true fun s'=>zja P ops f s').map (i :: ·)
  | none=>match zg4 ops s with
   | []=>some []
   | [i]=>(zqr s i true fun s'=>zja P ops f s').map (i :: ·)
   | _=>none
theorem zkC(P:Program)(ops:Array Oper):∀(f:Nat) (s:List Bool),zja P ops f s=zjO P ops f s.toArray
 | 0,s=>by simp only[zja,zjO,zga]
 | f+1,s=>by
  simp only[zja,zjO,zga,zmo,zkC P ops f,zo5,zjm];rfl
def zmc(bar:Bool)(P:Program)(ops:Array Oper):Nat→List Bool→Option (List Nat×List Nat)
 | 0,s=>if(zg4 ops s).isEmpty then some ([],[])else none
 | f+1,s=>
  match (zg4 ops s).find? fun i=>zal (zcS P ops i) && zpC ops s i && (!zrm ops i || zqV bar P ops s.toArray i)with
  | some i=>(zqr s i true fun s'=>zmc bar P ops f s').map fun r=>(i :: r.1,r.2)
  | none=>match zg4 ops s with
   | []=>some ([],[])
   | [i]=>bif zfB bar (zcS P ops i)|| wrI (zcS P ops i)then(zqr s i true fun s'=>zmc bar P ops f s').map fun r=>(i :: r.1,r.2)else(zja P ops (f+1) s).map fun r=>([],r)
   | i :: j :: l=>bif ztD bar P ops s (i :: j :: l) (ziI bar P ops s (i :: j :: l))then
     (match zqr s (ziI bar P ops s (i :: j :: l)) true fun s'=>zmc bar P ops f s' with
     | some r=>bif okF P ops (i :: j :: l) (ziI bar P ops s (i :: j :: l)) r.1 then some (ziI bar P ops s (i :: j :: l):: r.1,r.2)else none
     | none=>none)else none
theorem zmX(bar:Bool)(P:Program)(ops:Array Oper):∀(f:Nat) (s:List Bool),zmc bar P ops f s=zfg bar P ops f s.toArray
 | 0,s=>by simp only[zmc,zfg,zga]
 | f+1,s=>by
  simp only[zmc,zfg,zga,zmo,zmX bar P ops f,zo5,zjm,zot,zoZ,zkC];rfl
def zuk{β:Type}(n:Nat)(k:List Bool→β):β:=znu (List.replicate n false) k
def zhm(bar:Bool)(P:Program)(ops:Array Oper):Option (List Nat×List Nat):=
 if Region.noSelect ops && zgQ ops && zt6 P ops then zuk ops.size fun s=>zmc bar P ops ops.size s else none
theorem zlS(bar:Bool)(P:Program)(ops:Array Oper):zhm bar P ops=ztc bar P ops:=by
 unfold zhm ztc zuk;simp only[zkz,zmX];rw[show(List.replicate ops.size false).toArray=Array.replicate ops.size false by simp]
def zeS(P:Program)(N:Nat):Code→C
 | .skip=>.skip
 | .region _ ops false=>bif ops.all (fun o=>zhf N o.dst)then .reg false false (ops.toList.map (irO P N ops))else .bad
 | .region _ ops true=>bif ops.all (fun o=>zhf N o.dst)then(match zhm false P ops with
  | some (l,l')=>.reg true false ((l ++ l').flatMap (zlD P N ops))
  | none=>(match zhm true P ops with
   | some (l,l')=>.reg true true ((l ++ l').flatMap (zlD P N ops))
   | none=>.bad))else .bad
 | .seq a b=>.seq (zeS P N a) (zeS P N b)
 | .cond c a b=>.cond (opX c) (zeS P N a) (zeS P N b)
 | .block id c=>.block id (zeS P N c)
 | .loop c=>.loop (zeS P N c)
 | .rangeFunc x ps a b=>.zeh (opX x) ps.toList (zeS P N a) (zeS P N b)
 | .exit id=>.exit id
 | .scope c=>.scope (zeS P N c)
 | .label l=>.label l
 | .ret=>.ret
 | _=>.bad
theorem zqA(P:Program)(N:Nat)(c:Code):zeS P N c=comp P N c:=by
 induction c with
 | region id ops dr=>cases dr<;>simp only[zeS,comp,zlS]<;>rfl
 | seq a b iha ihb=>simp only[zeS,comp,iha,ihb]
 | cond x a b iha ihb=>simp only[zeS,comp,iha,ihb]
 | block id c ih=>simp only[zeS,comp,ih]
 | loop c ih=>simp only[zeS,comp,ih]
 | rangeFunc x ps a b iha ihb=>simp only[zeS,comp,iha,ihb]
 | scope c ih=>simp only[zeS,comp,ih]
 | _=>rfl
def zky(P:Program)(f:Nat):Option Fn:=
 match P.funcs[f]? with
 | some fn=>(match fn.body with
  | some c=>bif !wrF f && !(fn.name == "runtime.NumGoroutine") && fn.results.toList.all (zlg P)then some ⟨fn.ntmps,zeS P fn.ntmps c,fn.results.toList.map (zln P),false⟩else none
  | none=>none)
 | none=>none
theorem zqc(P:Program)(f:Nat):zky P f=zit P f:=by
 unfold zky zit;simp only[zqA];rfl
theorem zsD{P:Program}{f:Nat}{fn:Fn}(h:zit P f=some fn):fn.p=false:=by
 unfold zit at h;split at h
 ·split at h
  ·simp only[cond_eq_ite]at h;split at h
   ·cases h; rfl
   cases h
  cases h
 cases h
end Go.Mx
