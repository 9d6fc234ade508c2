/-
 The order of a region once more, for the kernel. Conditions: none.
-/
import Derived.Test.YtifdmgbehogecaaNhMx14
set_option linter.unusedSimpArgs false
set_option linter.unusedVariables false
namespace Go.Mx
open Go
def zoD:List Bool→Nat→Bool→Bool
 | [],_,d=>d
 | x :: r,n,d=>match n with
  | .zero=>x
  | .succ m=>zoD r m d
theorem zgo:∀(l:List Bool) (n:Nat) (d:Bool),zoD l n d=l.toArray.getD n d
 | [],n,d=>by simp[zoD]
 | x :: r,0,d=>by simp[zoD]
 | x :: r,n+1,d=>by
  simp only[zoD,zgo r n d];simp[qcc]
def zs8:List Edge→List Nat
 | []=>[]
 | e :: r=>bif Region.binds .any e then e.on :: zs8 r else zs8 r
def zt1(o:Oper):List Nat:=zs8 o.after.toList
def zs4(p:Nat→Bool):List Nat→Bool
 | []=>false
 | d :: r=>bif p d then true else zs4 p r
def zvD(p:Nat→Bool):List Nat→Bool
 | []=>true
 | d :: r=>bif p d then zvD p r else false
theorem zor(p:Nat→Bool):∀ l:List Edge,l.any (fun e=>Region.binds .any e && p e.on)=zs4 p (zs8 l)
 | []=>rfl
 | e :: r=>by
  simp only[List.any_cons,zor p r,zs8];cases h1:Region.binds .any e with
  | false=>rfl
  | true=>simp only[cond_true,zs4,qbW]; cases p e.on<;>rfl
theorem zpk(p:Nat→Bool):∀ l:List Edge,l.all (fun e=>!Region.binds .any e || p e.on)=zvD p (zs8 l)
 | []=>rfl
 | e :: r=>by
  simp only[List.all_cons,zpk p r,zs8];cases h1:Region.binds .any e with
  | false=>rfl
  | true=>simp only[cond_true,zvD,qaM,qcI]; cases p e.on<;>rfl
theorem zmm(o:Oper)(p:Nat→Bool):(o.after.any fun e=>Region.binds .any e && p e.on)=zs4 p (zt1 o):=by
 rw[← Array.any_toList,zor]; rfl
theorem zrM(o:Oper)(p:Nat→Bool):(o.after.all fun e=>!Region.binds .any e || p e.on)=zvD p (zt1 o):=by
 rw[← Array.all_toList,zpk]; rfl
def zgT(ops:Array Oper)(l:List Bool):List Nat:=
 (List.range ops.size).filter fun i=>bif zoD l i true then false else(match ops[i]? with | some o=>zvD (fun d=>zoD l d false) (zt1 o)| none=>false)
theorem zfR(ops:Array Oper)(l:List Bool):zgT ops l=Region.ready .any ops l.toArray:=by
 unfold zgT Region.ready;congr 1
 funext i
 rw[zgo];cases l.toArray.getD i true with
 | true=>rfl
 | false=>
  cases ops[i]? with
  | none=>rfl
  | some o=>
   simp only[cond_false,qbw,qbW,qaK,qbq];rw[← zrM];congr 1
   funext e
   rw[zgo]
def zrJ(ops:Array Oper)(l:List Bool)(i:Nat):Bool:=
 match ops[i]? with
 | none=>false
 | some oi=>(List.range ops.size).all fun j=>bif j == i then true else bif zoD l j true then true else(match ops[j]? with
   | some oj=>bif zs4 (fun d=>d == i) (zt1 oj)then true else oi.apart ops oj
   | none=>true)
theorem zmw(ops:Array Oper)(l:List Bool)(i:Nat):zrJ ops l i=Region.free .any ops l.toArray i:=by
 unfold zrJ Region.free;cases ops[i]? with
 | none=>rfl
 | some oi=>
  simp only;congr 1
  funext j
  rw[zgo];cases(j == i)with
  | true=>rfl
  | false=>
   cases l.toArray.getD j true with
   | true=>rfl
   | false=>
    simp only[cond_false,qcI];cases ops[j]? with
    | none=>rfl
    | some oj=>
     simp only;have h:=zmm oj (fun d=>d == i);rw[h];cases zs4 (fun d=>d == i) (zt1 oj)<;> rfl
def zuk(bar:Bool)(P:Program)(ops:Array Oper)(s:List Bool)(l:List Nat)(n:Nat):Bool:=
 l.contains n && (zft bar (zdq P ops n)|| znL P ops n) && (l.all fun i=>i == n || (alI (zdq P ops i) && zrJ ops s i)) &&
 (alI (zdq P ops n)|| znL P ops n || (l.all fun i=>i == n || zi3 (zdq P ops i))) &&
 ((List.range ops.size).all fun k=>bif zoD s k true then true else bif l.contains k then true else(match ops[k]? with
  | some o=>zs4 (fun d=>bif zoD s d false then false else(d == n || !l.contains d)) (zt1 o)
  | none=>true))
theorem zqs(bar:Bool)(P:Program)(ops:Array Oper)(s:List Bool)(l:List Nat)(n:Nat):zuk bar P ops s l n=okN bar P ops s.toArray l n:=by
 unfold zuk okN;congr 1
 ·congr 2
  congr 1
  funext i
  rw[zmw]
 congr 1
 funext k
 rw[zgo];cases s.toArray.getD k true with
 | true=>rfl
 | false=>
  cases l.contains k with
  | true=>rfl
  | false=>
   simp only[cond_false,qcI];cases ops[k]? with
   | none=>rfl
   | some o=>
    simp only;have h:=zmm o (fun d=>bif zoD s d false then false else(d == n || !l.contains d));rw[← h];congr 1
    funext e
    rw[zgo];cases Region.binds .any e<;>cases s.toArray.getD e.on false<;>rfl
def zh7(bar:Bool)(P:Program)(ops:Array Oper)(s:List Bool)(l:List Nat):Nat:=
 match l.find? fun i=>!alI (zdq P ops i)with
 | some i=>i
 | none=>match l.find? fun i=>!zi3 (zdq P ops i) && zuk bar P ops s l i with
  | some i=>i
  | none=>(l.find? fun i=>zuk bar P ops s l i).getD 0
theorem zpg(bar:Bool)(P:Program)(ops:Array Oper)(s:List Bool)(l:List Nat):zh7 bar P ops s l=zjz bar P ops s.toArray l:=by
 unfold zh7 zjz;simp only[zqs];rfl
theorem zpv(l:List Bool)(i:Nat):l.toArray.setIfInBounds i true=(l.set i true).toArray:=by simp
def zlh(ops:Array Oper):Nat→List Bool→Option (List Nat)
 | 0,s=>if(zgT ops s).isEmpty then some []else none
 | f+1,s=>
  match zgT ops s with
  | []=>some []
  | [i]=>(zqK s i true fun s'=>zlh ops f s').map (i :: ·)
  | _=>none
theorem zk0(ops:Array Oper):∀(f:Nat) (s:List Bool),zlh ops f s=zj6 ops f s.toArray
 | 0,s=>by simp only[zlh,zj6,zfR]
 | f+1,s=>by
  simp only[zlh,zj6,zfR,zjg,zk0 ops f,zpv];rfl
def zmf(bar:Bool)(P:Program)(ops:Array Oper):Nat→List Bool→Option (List Nat×List Nat)
 | 0,s=>if(zgT ops s).isEmpty then some ([],[])else none
 | f+1,s=>
  match (zgT ops s).find? fun i=>zam (zdq P ops i) && zrJ ops s i && (!zvv ops i || zrL bar P ops s.toArray i)with
  | some i=>(zqK s i true fun s'=>zmf bar P ops f s').map fun r=>(i :: r.1,r.2)
  | none=>match zgT ops s with
   | []=>some ([],[])
   | [i]=>bif zft bar (zdq P ops i)then(zqK s i true fun s'=>zmf bar P ops f s').map fun r=>(i :: r.1,r.2)else(zlh ops (f+1) s).map fun r=>([],r)
   | i :: j :: l=>bif zuk bar P ops s (i :: j :: l) (zh7 bar P ops s (i :: j :: l))then
     (match zqK s (zh7 bar P ops s (i :: j :: l)) true fun s'=>zmf bar P ops f s' with
     | some r=>bif okF P ops (i :: j :: l) (zh7 bar P ops s (i :: j :: l)) r.1 then some (zh7 bar P ops s (i :: j :: l):: r.1,r.2)else none
     | none=>none)else none
theorem zmz(bar:Bool)(P:Program)(ops:Array Oper):∀(f:Nat) (s:List Bool),zmf bar P ops f s=zeX bar P ops f s.toArray
 | 0,s=>by simp only[zmf,zeX,zfR]
 | f+1,s=>by
  simp only[zmf,zeX,zfR,zjg,zmz bar P ops f,zpv,zmw,zqs,zpg,zk0];rfl
def zuA{β:Type}(n:Nat)(k:List Bool→β):β:=zcO (List.replicate n false) k
def zgN(bar:Bool)(P:Program)(ops:Array Oper):Option (List Nat×List Nat):=
 if Region.noSelect ops && zgW ops && zuZ P ops then zuA ops.size fun s=>zmf bar P ops ops.size s else none
theorem zlU(bar:Bool)(P:Program)(ops:Array Oper):zgN bar P ops=ztV bar P ops:=by
 unfold zgN ztV zuA;simp only[zcn,zmz];rw[show(List.replicate ops.size false).toArray=Array.replicate ops.size false by simp]
def zeH(P:Program)(N:Nat):Code→C
 | .skip=>.skip
 | .region _ ops false=>bif ops.all (fun o=>zgz N o.dst)then .reg false false (ops.toList.map (irO P N ops))else .bad
 | .region _ ops true=>bif ops.all (fun o=>zgz N o.dst)then(match zgN false P ops with
  | some (l,l')=>.reg true false ((l ++ l').flatMap (zlH P N ops))
  | none=>(match zgN true P ops with
   | some (l,l')=>.reg true true ((l ++ l').flatMap (zlH P N ops))
   | none=>.bad))else .bad
 | .seq a b=>.seq (zeH P N a) (zeH P N b)
 | .cond c a b=>.cond (opX c) (zeH P N a) (zeH P N b)
 | .block id c=>.block id (zeH P N c)
 | .loop c=>.loop (zeH P N c)
 | .rangeFunc x ps a b=>.zeG (opX x) ps.toList (zeH P N a) (zeH P N b)
 | .exit id=>.exit id
 | .scope c=>.scope (zeH P N c)
 | .label l=>.label l
 | .ret=>.ret
 | _=>.bad
theorem zre(P:Program)(N:Nat)(c:Code):zeH P N c=comp P N c:=by
 induction c with
 | region id ops dr=>cases dr<;>simp only[zeH,comp,zlU]<;>rfl
 | seq a b iha ihb=>simp only[zeH,comp,iha,ihb]
 | cond x a b iha ihb=>simp only[zeH,comp,iha,ihb]
 | block id c ih=>simp only[zeH,comp,ih]
 | loop c ih=>simp only[zeH,comp,ih]
 | rangeFunc x ps a b iha ihb=>simp only[zeH,comp,iha,ihb]
 | scope c ih=>simp only[zeH,comp,ih]
 | _=>rfl
def zh8(P:Program)(f:Nat):Option Fn:=
 match P.funcs[f]? with
 | some fn=>(match fn.body with
  | some c=>bif !(fn.name == "runtime.NumGoroutine") && fn.results.toList.all (zk1 P)then some ⟨fn.ntmps,zeH P fn.ntmps c,fn.results.toList.map (zjY P),false⟩else none
  | none=>none)
 | none=>none
theorem zkJ(P:Program)(f:Nat):zh8 P f=zh0 P f:=by
 unfold zh8 zh0;simp only[zre];rfl
def zvF(P:Program)(l:List Nat)(f:Nat):Option Fn:=
 match zh8 P f with
 | some fn=>some ⟨fn.N,fn.c,fn.rs,l.any fun i=>Nat.beq i f⟩
 | none=>none
theorem zom{P:Program}{f:Nat}{fn:Fn}(h:zh0 P f=some fn):fn.p=false:=by
 unfold zh0 at h;split at h
 ·split at h
  ·simp only[cond_eq_ite]at h;split at h
   ·cases h; rfl
   cases h
  cases h
 cases h
theorem zts{P:Program}{l:List Nat}(f:Nat)(fn:Fn)(h:zvF P l f=some fn):zmH P f fn:=by
 unfold zvF at h;rw[zkJ]at h;cases hc:zh0 P f with
 | none=>rw[hc]at h; cases h
 | some g=>
  rw[hc]at h;cases h;have hp:=zom hc;unfold zmH;rw[hc];cases g;simp only at hp;subst hp;rfl
end Go.Mx
