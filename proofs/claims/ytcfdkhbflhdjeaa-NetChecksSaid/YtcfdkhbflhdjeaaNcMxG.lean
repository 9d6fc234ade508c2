/-
 The order of a region once more, for the kernel. Conditions: none.
-/
import Derived.Test.YtcfdkhbflhdjeaaNcMx14
set_option linter.unusedSimpArgs false
set_option linter.unusedVariables false
namespace Go.Mx
open Go
def zqG:List Bool→Nat→Bool→Bool
 | [],_,d=>d
 | x :: r,n,d=>match n with
  | .zero=>x
  | .succ m=>zqG r m d
theorem zgu:∀(l:List Bool) (n:Nat) (d:Bool),zqG l n d=l.toArray.getD n d
 | [],n,d=>by simp[zqG]
 | x :: r,0,d=>by simp[zqG]
 | x :: r,n+1,d=>by
  simp only[zqG,zgu r n d];simp[qb5]
def ztI:List Edge→List Nat
 | []=>[]
 | e :: r=>bif Region.binds .any e then e.on :: ztI r else ztI r
def ztY(o:Oper):List Nat:=ztI o.after.toList
def zto(p:Nat→Bool):List Nat→Bool
 | []=>false
 | d :: r=>bif p d then true else zto p r
def zvG(p:Nat→Bool):List Nat→Bool
 | []=>true
 | d :: r=>bif p d then zvG p r else false
theorem zoH(p:Nat→Bool):∀ l:List Edge,l.any (fun e=>Region.binds .any e && p e.on)=zto p (ztI l)
 | []=>rfl
 | e :: r=>by
  simp only[List.any_cons,zoH p r,ztI];cases h1:Region.binds .any e with
  | false=>rfl
  | true=>simp only[cond_true,zto,qb8]; cases p e.on<;>rfl
theorem zpc(p:Nat→Bool):∀ l:List Edge,l.all (fun e=>!Region.binds .any e || p e.on)=zvG p (ztI l)
 | []=>rfl
 | e :: r=>by
  simp only[List.all_cons,zpc p r,ztI];cases h1:Region.binds .any e with
  | false=>rfl
  | true=>simp only[cond_true,zvG,qaS,qcC]; cases p e.on<;>rfl
theorem znn(o:Oper)(p:Nat→Bool):(o.after.any fun e=>Region.binds .any e && p e.on)=zto p (ztY o):=by
 rw[← Array.any_toList,zoH]; rfl
theorem zrX(o:Oper)(p:Nat→Bool):(o.after.all fun e=>!Region.binds .any e || p e.on)=zvG p (ztY o):=by
 rw[← Array.all_toList,zpc]; rfl
def zho(ops:Array Oper)(l:List Bool):List Nat:=
 (List.range ops.size).filter fun i=>bif zqG l i true then false else(match ops[i]? with | some o=>zvG (fun d=>zqG l d false) (ztY o)| none=>false)
theorem zfQ(ops:Array Oper)(l:List Bool):zho ops l=Region.ready .any ops l.toArray:=by
 unfold zho Region.ready;congr 1
 funext i
 rw[zgu];cases l.toArray.getD i true with
 | true=>rfl
 | false=>
  cases ops[i]? with
  | none=>rfl
  | some o=>
   simp only[cond_false,qbd,qb8,qaI,qbh];rw[← zrX];congr 1
   funext e
   rw[zgu]
def zqW(ops:Array Oper)(l:List Bool)(i:Nat):Bool:=
 match ops[i]? with
 | none=>false
 | some oi=>(List.range ops.size).all fun j=>bif j == i then true else bif zqG l j true then true else(match ops[j]? with
   | some oj=>bif zto (fun d=>d == i) (ztY oj)then true else oi.apart ops oj
   | none=>true)
theorem zmp(ops:Array Oper)(l:List Bool)(i:Nat):zqW ops l i=Region.free .any ops l.toArray i:=by
 unfold zqW Region.free;cases ops[i]? with
 | none=>rfl
 | some oi=>
  simp only;congr 1
  funext j
  rw[zgu];cases(j == i)with
  | true=>rfl
  | false=>
   cases l.toArray.getD j true with
   | true=>rfl
   | false=>
    simp only[cond_false,qcC];cases ops[j]? with
    | none=>rfl
    | some oj=>
     simp only;have h:=znn oj (fun d=>d == i);rw[h];cases zto (fun d=>d == i) (ztY oj)<;> rfl
def zun(bar:Bool)(P:Program)(ops:Array Oper)(s:List Bool)(l:List Nat)(n:Nat):Bool:=
 l.contains n && (zfr bar (zdd P ops n)|| znz P ops n) && (l.all fun i=>i == n || (alI (zdd P ops i) && zqW ops s i)) &&
 (alI (zdd P ops n)|| znz P ops n || (l.all fun i=>i == n || zjg (zdd P ops i))) &&
 ((List.range ops.size).all fun k=>bif zqG s k true then true else bif l.contains k then true else(match ops[k]? with
  | some o=>zto (fun d=>bif zqG s d false then false else(d == n || !l.contains d)) (ztY o)
  | none=>true))
theorem zpO(bar:Bool)(P:Program)(ops:Array Oper)(s:List Bool)(l:List Nat)(n:Nat):zun bar P ops s l n=okN bar P ops s.toArray l n:=by
 unfold zun okN;congr 1
 ·congr 2
  congr 1
  funext i
  rw[zmp]
 congr 1
 funext k
 rw[zgu];cases s.toArray.getD k true with
 | true=>rfl
 | false=>
  cases l.contains k with
  | true=>rfl
  | false=>
   simp only[cond_false,qcC];cases ops[k]? with
   | none=>rfl
   | some o=>
    simp only;have h:=znn o (fun d=>bif zqG s d false then false else(d == n || !l.contains d));rw[← h];congr 1
    funext e
    rw[zgu];cases Region.binds .any e<;>cases s.toArray.getD e.on false<;>rfl
def zis(bar:Bool)(P:Program)(ops:Array Oper)(s:List Bool)(l:List Nat):Nat:=
 match l.find? fun i=>!alI (zdd P ops i)with
 | some i=>i
 | none=>match l.find? fun i=>!zjg (zdd P ops i) && zun bar P ops s l i with
  | some i=>i
  | none=>(l.find? fun i=>zun bar P ops s l i).getD 0
theorem zpg(bar:Bool)(P:Program)(ops:Array Oper)(s:List Bool)(l:List Nat):zis bar P ops s l=zjb bar P ops s.toArray l:=by
 unfold zis zjb;simp only[zpO];rfl
theorem zqd(l:List Bool)(i:Nat):l.toArray.setIfInBounds i true=(l.set i true).toArray:=by simp
def zkS(ops:Array Oper):Nat→List Bool→Option (List Nat)
 | 0,s=>if(zho ops s).isEmpty then some []else none
 | f+1,s=>
  match zho ops s with
  | []=>some []
  | [i]=>(zqO s i true fun s'=>zkS ops f s').map (i :: ·)
  | _=>none
theorem zkx(ops:Array Oper):∀(f:Nat) (s:List Bool),zkS ops f s=zj6 ops f s.toArray
 | 0,s=>by simp only[zkS,zj6,zfQ]
 | f+1,s=>by
  simp only[zkS,zj6,zfQ,zi9,zkx ops f,zqd];rfl
def zlN(bar:Bool)(P:Program)(ops:Array Oper):Nat→List Bool→Option (List Nat×List Nat)
 | 0,s=>if(zho ops s).isEmpty then some ([],[])else none
 | f+1,s=>
  match (zho ops s).find? fun i=>zak (zdd P ops i) && zqW ops s i && (!zvi ops i || zrI bar P ops s.toArray i)with
  | some i=>(zqO s i true fun s'=>zlN bar P ops f s').map fun r=>(i :: r.1,r.2)
  | none=>match zho ops s with
   | []=>some ([],[])
   | [i]=>bif zfr bar (zdd P ops i)then(zqO s i true fun s'=>zlN bar P ops f s').map fun r=>(i :: r.1,r.2)else(zkS ops (f+1) s).map fun r=>([],r)
   | i :: j :: l=>bif zun bar P ops s (i :: j :: l) (zis bar P ops s (i :: j :: l))then
     (match zqO s (zis bar P ops s (i :: j :: l)) true fun s'=>zlN bar P ops f s' with
     | some r=>bif okF P ops (i :: j :: l) (zis bar P ops s (i :: j :: l)) r.1 then some (zis bar P ops s (i :: j :: l):: r.1,r.2)else none
     | none=>none)else none
theorem zni(bar:Bool)(P:Program)(ops:Array Oper):∀(f:Nat) (s:List Bool),zlN bar P ops f s=zeP bar P ops f s.toArray
 | 0,s=>by simp only[zlN,zeP,zfQ]
 | f+1,s=>by
  simp only[zlN,zeP,zfQ,zi9,zni bar P ops f,zqd,zmp,zpO,zpg,zkx];rfl
def zvf{β:Type}(n:Nat)(k:List Bool→β):β:=zcK (List.replicate n false) k
def zgP(bar:Bool)(P:Program)(ops:Array Oper):Option (List Nat×List Nat):=
 if Region.noSelect ops && zhc ops && zub P ops then zvf ops.size fun s=>zlN bar P ops ops.size s else none
theorem zl8(bar:Bool)(P:Program)(ops:Array Oper):zgP bar P ops=ztV bar P ops:=by
 unfold zgP ztV zvf;simp only[zck,zni];rw[show(List.replicate ops.size false).toArray=Array.replicate ops.size false by simp]
def zeD(P:Program)(N:Nat):Code→C
 | .skip=>.skip
 | .region _ ops false=>bif ops.all (fun o=>zgK N o.dst)then .reg false false (ops.toList.map (irO P N ops))else .bad
 | .region _ ops true=>bif ops.all (fun o=>zgK N o.dst)then(match zgP false P ops with
  | some (l,l')=>.reg true false ((l ++ l').flatMap (zlj P N ops))
  | none=>(match zgP true P ops with
   | some (l,l')=>.reg true true ((l ++ l').flatMap (zlj P N ops))
   | none=>.bad))else .bad
 | .seq a b=>.seq (zeD P N a) (zeD P N b)
 | .cond c a b=>.cond (opX c) (zeD P N a) (zeD P N b)
 | .block id c=>.block id (zeD P N c)
 | .loop c=>.loop (zeD P N c)
 | .rangeFunc x ps a b=>.zeC (opX x) ps.toList (zeD P N a) (zeD P N b)
 | .exit id=>.exit id
 | .scope c=>.scope (zeD P N c)
 | .label l=>.label l
 | .ret=>.ret
 | _=>.bad
theorem zra(P:Program)(N:Nat)(c:Code):zeD P N c=comp P N c:=by
 induction c with
 | region id ops dr=>cases dr<;>simp only[zeD,comp,zl8]<;>rfl
 | seq a b iha ihb=>simp only[zeD,comp,iha,ihb]
 | cond x a b iha ihb=>simp only[zeD,comp,iha,ihb]
 | block id c ih=>simp only[zeD,comp,ih]
 | loop c ih=>simp only[zeD,comp,ih]
 | rangeFunc x ps a b iha ihb=>simp only[zeD,comp,iha,ihb]
 | scope c ih=>simp only[zeD,comp,ih]
 | _=>rfl
def ziv(P:Program)(f:Nat):Option Fn:=
 match P.funcs[f]? with
 | some fn=>(match fn.body with
  | some c=>bif !(fn.name == "runtime.NumGoroutine") && fn.results.toList.all (zj3 P)then some ⟨fn.ntmps,zeD P fn.ntmps c,fn.results.toList.map (zkb P),false⟩else none
  | none=>none)
 | none=>none
theorem zj8(P:Program)(f:Nat):ziv P f=zhR P f:=by
 unfold ziv zhR;simp only[zra];rfl
def zui(P:Program)(l:List Nat)(f:Nat):Option Fn:=
 match ziv P f with
 | some fn=>some ⟨fn.N,fn.c,fn.rs,l.any fun i=>Nat.beq i f⟩
 | none=>none
theorem zoz{P:Program}{f:Nat}{fn:Fn}(h:zhR P f=some fn):fn.p=false:=by
 unfold zhR at h;split at h
 ·split at h
  ·simp only[cond_eq_ite]at h;split at h
   ·cases h; rfl
   cases h
  cases h
 cases h
theorem ztB{P:Program}{l:List Nat}(f:Nat)(fn:Fn)(h:zui P l f=some fn):zms P f fn:=by
 unfold zui at h;rw[zj8]at h;cases hc:zhR P f with
 | none=>rw[hc]at h; cases h
 | some g=>
  rw[hc]at h;cases h;have hp:=zoz hc;unfold zms;rw[hc];cases g;simp only at hp;subst hp;rfl
end Go.Mx
