/-
 The order of a region once more, for the kernel. Conditions: none.
-/
import Derived.Test.YtbjogdohfhdaiaaEkMx14
set_option linter.unusedSimpArgs false
set_option linter.unusedVariables false
namespace Go.Mx
open Go
def zoG:List Bool→Nat→Bool→Bool
 | [],_,d=>d
 | x :: r,n,d=>match n with
  | .zero=>x
  | .succ m=>zoG r m d
theorem zht:∀(l:List Bool) (n:Nat) (d:Bool),zoG l n d=l.toArray.getD n d
 | [],n,d=>by simp[zoG]
 | x :: r,0,d=>by simp[zoG]
 | x :: r,n+1,d=>by
  simp only[zoG,zht r n d];simp[qbG]
def zrr:List Edge→List Nat
 | []=>[]
 | e :: r=>bif Region.binds .any e then e.on :: zrr r else zrr r
def zrV(o:Oper):List Nat:=zrr o.after.toList
def zrh(p:Nat→Bool):List Nat→Bool
 | []=>false
 | d :: r=>bif p d then true else zrh p r
def zsc(p:Nat→Bool):List Nat→Bool
 | []=>true
 | d :: r=>bif p d then zsc p r else false
theorem zpa(p:Nat→Bool):∀ l:List Edge,l.any (fun e=>Region.binds .any e && p e.on)=zrh p (zrr l)
 | []=>rfl
 | e :: r=>by
  simp only[List.any_cons,zpa p r,zrr];cases h1:Region.binds .any e with
  | false=>rfl
  | true=>simp only[cond_true,zrh,qbQ]; cases p e.on<;>rfl
theorem zo0(p:Nat→Bool):∀ l:List Edge,l.all (fun e=>!Region.binds .any e || p e.on)=zsc p (zrr l)
 | []=>rfl
 | e :: r=>by
  simp only[List.all_cons,zo0 p r,zrr];cases h1:Region.binds .any e with
  | false=>rfl
  | true=>simp only[cond_true,zsc,qaP,qbP]; cases p e.on<;>rfl
theorem znm(o:Oper)(p:Nat→Bool):(o.after.any fun e=>Region.binds .any e && p e.on)=zrh p (zrV o):=by
 rw[← Array.any_toList,zpa]; rfl
theorem zqt(o:Oper)(p:Nat→Bool):(o.after.all fun e=>!Region.binds .any e || p e.on)=zsc p (zrV o):=by
 rw[← Array.all_toList,zo0]; rfl
def zhG(ops:Array Oper)(l:List Bool):List Nat:=
 (List.range ops.size).filter fun i=>bif zoG l i true then false else(match ops[i]? with | some o=>zsc (fun d=>zoG l d false) (zrV o)| none=>false)
theorem zg1(ops:Array Oper)(l:List Bool):zhG ops l=Region.ready .any ops l.toArray:=by
 unfold zhG Region.ready;congr 1
 funext i
 rw[zht];cases l.toArray.getD i true with
 | true=>rfl
 | false=>
  cases ops[i]? with
  | none=>rfl
  | some o=>
   simp only[cond_false,qbe,qbQ,qaE,qbb];rw[← zqt];congr 1
   funext e
   rw[zht]
def zpq(ops:Array Oper)(l:List Bool)(i:Nat):Bool:=
 match ops[i]? with
 | none=>false
 | some oi=>(List.range ops.size).all fun j=>bif j == i then true else bif zoG l j true then true else(match ops[j]? with
   | some oj=>bif zrh (fun d=>d == i) (zrV oj)then true else oi.apart ops oj
   | none=>true)
theorem zjX(ops:Array Oper)(l:List Bool)(i:Nat):zpq ops l i=Region.free .any ops l.toArray i:=by
 unfold zpq Region.free;cases ops[i]? with
 | none=>rfl
 | some oi=>
  simp only;congr 1
  funext j
  rw[zht];cases(j == i)with
  | true=>rfl
  | false=>
   cases l.toArray.getD j true with
   | true=>rfl
   | false=>
    simp only[cond_false,qbP];cases ops[j]? with
    | none=>rfl
    | some oj=>
     simp only;have h:=znm oj (fun d=>d == i);rw[h];cases zrh (fun d=>d == i) (zrV oj)<;> rfl
def zrY(bar:Bool)(P:Program)(ops:Array Oper)(s:List Bool)(l:List Nat)(n:Nat):Bool:=
 l.contains n && (zgg bar (zda P ops n)|| znQ P ops n) && (l.all fun i=>i == n || (alI (zda P ops i) && zpq ops s i)) &&
 (alI (zda P ops n)|| znQ P ops n || (l.all fun i=>i == n || zjU (zda P ops i))) &&
 ((List.range ops.size).all fun k=>bif zoG s k true then true else bif l.contains k then true else(match ops[k]? with
  | some o=>zrh (fun d=>bif zoG s d false then false else(d == n || !l.contains d)) (zrV o)
  | none=>true))
theorem zpf(bar:Bool)(P:Program)(ops:Array Oper)(s:List Bool)(l:List Nat)(n:Nat):zrY bar P ops s l n=okN bar P ops s.toArray l n:=by
 unfold zrY okN;congr 1
 ·congr 2
  congr 1
  funext i
  rw[zjX]
 congr 1
 funext k
 rw[zht];cases s.toArray.getD k true with
 | true=>rfl
 | false=>
  cases l.contains k with
  | true=>rfl
  | false=>
   simp only[cond_false,qbP];cases ops[k]? with
   | none=>rfl
   | some o=>
    simp only;have h:=znm o (fun d=>bif zoG s d false then false else(d == n || !l.contains d));rw[← h];congr 1
    funext e
    rw[zht];cases Region.binds .any e<;>cases s.toArray.getD e.on false<;>rfl
def zjA(bar:Bool)(P:Program)(ops:Array Oper)(s:List Bool)(l:List Nat):Nat:=
 match l.find? fun i=>!alI (zda P ops i)with
 | some i=>i
 | none=>match l.find? fun i=>!zjU (zda P ops i) && zrY bar P ops s l i with
  | some i=>i
  | none=>(l.find? fun i=>zrY bar P ops s l i).getD 0
theorem zoY(bar:Bool)(P:Program)(ops:Array Oper)(s:List Bool)(l:List Nat):zjA bar P ops s l=zj3 bar P ops s.toArray l:=by
 unfold zjA zj3;simp only[zpf];rfl
theorem zpe(l:List Bool)(i:Nat):l.toArray.setIfInBounds i true=(l.set i true).toArray:=by simp
def zjM(P:Program)(ops:Array Oper):Nat→List Bool→Option (List Nat)
 | 0,s=>if(zhG ops s).isEmpty then some []else none
 | f+1,s=>
  match (zhG ops s).find? fun i=>zan (zda P ops i) && zpq ops s i && !zqB ops i with
  | some i=>(zpJ s i true fun s'=>zjM P ops f s').map (i :: ·)
  | none=>match zhG ops s with
   | []=>some []
   | [i]=>(zpJ s i true fun s'=>zjM P ops f s').map (i :: ·)
   | _=>none
theorem zlq(P:Program)(ops:Array Oper):∀(f:Nat) (s:List Bool),zjM P ops f s=zj7 P ops f s.toArray
 | 0,s=>by simp only[zjM,zj7,zg1]
 | f+1,s=>by
  simp only[zjM,zj7,zg1,zmq,zlq P ops f,zpe,zjX];rfl
def zma(bar:Bool)(P:Program)(ops:Array Oper):Nat→List Bool→Option (List Nat×List Nat)
 | 0,s=>if(zhG ops s).isEmpty then some ([],[])else none
 | f+1,s=>
  match (zhG ops s).find? fun i=>zan (zda P ops i) && zpq ops s i && (!zqB ops i || zpZ bar P ops s.toArray i)with
  | some i=>(zpJ s i true fun s'=>zma bar P ops f s').map fun r=>(i :: r.1,r.2)
  | none=>match zhG ops s with
   | []=>some ([],[])
   | [i]=>bif zgg bar (zda P ops i)|| wrI (zda P ops i)then(zpJ s i true fun s'=>zma bar P ops f s').map fun r=>(i :: r.1,r.2)else(zjM P ops (f+1) s).map fun r=>([],r)
   | i :: j :: l=>bif zrY bar P ops s (i :: j :: l) (zjA bar P ops s (i :: j :: l))then
     (match zpJ s (zjA bar P ops s (i :: j :: l)) true fun s'=>zma bar P ops f s' with
     | some r=>bif okF P ops (i :: j :: l) (zjA bar P ops s (i :: j :: l)) r.1 then some (zjA bar P ops s (i :: j :: l):: r.1,r.2)else none
     | none=>none)else none
theorem zmP(bar:Bool)(P:Program)(ops:Array Oper):∀(f:Nat) (s:List Bool),zma bar P ops f s=zf3 bar P ops f s.toArray
 | 0,s=>by simp only[zma,zf3,zg1]
 | f+1,s=>by
  simp only[zma,zf3,zg1,zmq,zmP bar P ops f,zpe,zjX,zpf,zoY,zlq];rfl
def zsy{β:Type}(n:Nat)(k:List Bool→β):β:=zm6 (List.replicate n false) k
def zhX(bar:Bool)(P:Program)(ops:Array Oper):Option (List Nat×List Nat):=
 if Region.noSelect ops && zhq ops && zsp P ops then zsy ops.size fun s=>zma bar P ops ops.size s else none
theorem zmJ(bar:Bool)(P:Program)(ops:Array Oper):zhX bar P ops=zrQ bar P ops:=by
 unfold zhX zrQ zsy;simp only[zk5,zmP];rw[show(List.replicate ops.size false).toArray=Array.replicate ops.size false by simp]
def zfy(P:Program)(N:Nat):Code→C
 | .skip=>.skip
 | .region _ ops false=>bif ops.all (fun o=>zhP N o.dst)then .reg false false (ops.toList.map (irO P N ops))else .bad
 | .region _ ops true=>bif ops.all (fun o=>zhP N o.dst)then(match zhX false P ops with
  | some (l,l')=>.reg true false ((l ++ l').flatMap (zlW P N ops))
  | none=>(match zhX true P ops with
   | some (l,l')=>.reg true true ((l ++ l').flatMap (zlW P N ops))
   | none=>.bad))else .bad
 | .seq a b=>.seq (zfy P N a) (zfy P N b)
 | .cond c a b=>.cond (opX c) (zfy P N a) (zfy P N b)
 | .block id c=>.block id (zfy P N c)
 | .loop c=>.loop (zfy P N c)
 | .rangeFunc x ps a b=>.zem (opX x) ps.toList (zfy P N a) (zfy P N b)
 | .exit id=>.exit id
 | .scope c=>.scope (zfy P N c)
 | .label l=>.label l
 | .ret=>.ret
 | _=>.bad
theorem zqh(P:Program)(N:Nat)(c:Code):zfy P N c=comp P N c:=by
 induction c with
 | region id ops dr=>cases dr<;>simp only[zfy,comp,zmJ]<;>rfl
 | seq a b iha ihb=>simp only[zfy,comp,iha,ihb]
 | cond x a b iha ihb=>simp only[zfy,comp,iha,ihb]
 | block id c ih=>simp only[zfy,comp,ih]
 | loop c ih=>simp only[zfy,comp,ih]
 | rangeFunc x ps a b iha ihb=>simp only[zfy,comp,iha,ihb]
 | scope c ih=>simp only[zfy,comp,ih]
 | _=>rfl
def zlv(P:Program)(f:Nat):Option Fn:=
 match P.funcs[f]? with
 | some fn=>(match fn.body with
  | some c=>bif !wrF f && !(fn.name == "runtime.NumGoroutine") && fn.results.toList.all (zlw P)then some ⟨fn.ntmps,zfy P fn.ntmps c,fn.results.toList.map (zlt P),false⟩else none
  | none=>none)
 | none=>none
theorem ziz(P:Program)(f:Nat):zlv P f=zhS P f:=by
 unfold zlv zhS;simp only[zqh];rfl
theorem zrE{P:Program}{f:Nat}{fn:Fn}(h:zhS P f=some fn):fn.p=false:=by
 unfold zhS at h;split at h
 ·split at h
  ·simp only[cond_eq_ite]at h;split at h
   ·cases h; rfl
   cases h
  cases h
 cases h
end Go.Mx
