/-
 The order of a region once more, for the kernel. Conditions: none.
-/
import Derived.Test.YtnfgibomhkbcpaaFgMx14
set_option linter.unusedSimpArgs false
set_option linter.unusedVariables false
namespace Go.Mx
open Go
def znl:List Bool→Nat→Bool→Bool
 | [],_,d=>d
 | x :: r,n,d=>match n with
  | .zero=>x
  | .succ m=>znl r m d
theorem zfY:∀(l:List Bool) (n:Nat) (d:Bool),znl l n d=l.toArray.getD n d
 | [],n,d=>by simp[znl]
 | x :: r,0,d=>by simp[znl]
 | x :: r,n+1,d=>by
  simp only[znl,zfY r n d];simp[qbR]
def zqN:List Edge→List Nat
 | []=>[]
 | e :: r=>bif Region.binds .any e then e.on :: zqN r else zqN r
def zro(o:Oper):List Nat:=zqN o.after.toList
def zqX(p:Nat→Bool):List Nat→Bool
 | []=>false
 | d :: r=>bif p d then true else zqX p r
def zrJ(p:Nat→Bool):List Nat→Bool
 | []=>true
 | d :: r=>bif p d then zrJ p r else false
theorem zoB(p:Nat→Bool):∀ l:List Edge,l.any (fun e=>Region.binds .any e && p e.on)=zqX p (zqN l)
 | []=>rfl
 | e :: r=>by
  simp only[List.any_cons,zoB p r,zqN];cases h1:Region.binds .any e with
  | false=>rfl
  | true=>simp only[cond_true,zqX,qbf]; cases p e.on<;>rfl
theorem zoP(p:Nat→Bool):∀ l:List Edge,l.all (fun e=>!Region.binds .any e || p e.on)=zrJ p (zqN l)
 | []=>rfl
 | e :: r=>by
  simp only[qcb,zoP p r,zqN];cases h1:Region.binds .any e with
  | false=>rfl
  | true=>simp only[cond_true,zrJ,qaS,qbY]; cases p e.on<;>rfl
theorem zls(o:Oper)(p:Nat→Bool):(o.after.any fun e=>Region.binds .any e && p e.on)=zqX p (zro o):=by
 rw[← Array.any_toList,zoB]; rfl
theorem zpM(o:Oper)(p:Nat→Bool):(o.after.all fun e=>!Region.binds .any e || p e.on)=zrJ p (zro o):=by
 rw[← Array.all_toList,zoP]; rfl
def zgc(ops:Array Oper)(l:List Bool):List Nat:=
 (List.range ops.size).filter fun i=>bif znl l i true then false else(match ops[i]? with | some o=>zrJ (fun d=>znl l d false) (zro o)| none=>false)
theorem zfn(ops:Array Oper)(l:List Bool):zgc ops l=Region.ready .any ops l.toArray:=by
 unfold zgc Region.ready;congr 1
 funext i
 rw[zfY];cases l.toArray.getD i true with
 | true=>rfl
 | false=>
  cases ops[i]? with
  | none=>rfl
  | some o=>
   simp only[cond_false,qbh,qbf,qaF,qbn];rw[← zpM];congr 1
   funext e
   rw[zfY]
def zn2(ops:Array Oper)(l:List Bool)(i:Nat):Bool:=
 match ops[i]? with
 | none=>false
 | some oi=>(List.range ops.size).all fun j=>bif j == i then true else bif znl l j true then true else(match ops[j]? with
   | some oj=>bif zqX (fun d=>d == i) (zro oj)then true else oi.apart ops oj
   | none=>true)
theorem zin(ops:Array Oper)(l:List Bool)(i:Nat):zn2 ops l i=Region.free .any ops l.toArray i:=by
 unfold zn2 Region.free;cases ops[i]? with
 | none=>rfl
 | some oi=>
  simp only;congr 1
  funext j
  rw[zfY];cases(j == i)with
  | true=>rfl
  | false=>
   cases l.toArray.getD j true with
   | true=>rfl
   | false=>
    simp only[cond_false,qbY];cases ops[j]? with
    | none=>rfl
    | some oj=>
     simp only;have h:=zls oj (fun d=>d == i);rw[h];cases zqX (fun d=>d == i) (zro oj)<;> rfl
def zsr(bar:Bool)(P:Program)(ops:Array Oper)(s:List Bool)(l:List Nat)(n:Nat):Bool:=
 l.contains n && (zeT bar (zcy P ops n)|| zmb P ops n) && (l.all fun i=>i == n || (alI (zcy P ops i) && zn2 ops s i)) &&
 (alI (zcy P ops n)|| zmb P ops n || (l.all fun i=>i == n || zis (zcy P ops i))) &&
 ((List.range ops.size).all fun k=>bif znl s k true then true else bif l.contains k then true else(match ops[k]? with
  | some o=>zqX (fun d=>bif znl s d false then false else(d == n || !l.contains d)) (zro o)
  | none=>true))
theorem zna(bar:Bool)(P:Program)(ops:Array Oper)(s:List Bool)(l:List Nat)(n:Nat):zsr bar P ops s l n=okN bar P ops s.toArray l n:=by
 unfold zsr okN;congr 1
 ·congr 2
  congr 1
  funext i
  rw[zin]
 congr 1
 funext k
 rw[zfY];cases s.toArray.getD k true with
 | true=>rfl
 | false=>
  cases l.contains k with
  | true=>rfl
  | false=>
   simp only[cond_false,qbY];cases ops[k]? with
   | none=>rfl
   | some o=>
    simp only;have h:=zls o (fun d=>bif znl s d false then false else(d == n || !l.contains d));rw[← h];congr 1
    funext e
    rw[zfY];cases Region.binds .any e<;>cases s.toArray.getD e.on false<;>rfl
def zib(bar:Bool)(P:Program)(ops:Array Oper)(s:List Bool)(l:List Nat):Nat:=
 match l.find? fun i=>!alI (zcy P ops i)with
 | some i=>i
 | none=>match l.find? fun i=>!zis (zcy P ops i) && zsr bar P ops s l i with
  | some i=>i
  | none=>(l.find? fun i=>zsr bar P ops s l i).getD 0
theorem zoi(bar:Bool)(P:Program)(ops:Array Oper)(s:List Bool)(l:List Nat):zib bar P ops s l=zi3 bar P ops s.toArray l:=by
 unfold zib zi3;simp only[zna];rfl
theorem znR(l:List Bool)(i:Nat):l.toArray.setIfInBounds i true=(l.set i true).toArray:=by simp
def zhF(P:Program)(ops:Array Oper):Nat→List Bool→Option (List Nat)
 | 0,s=>if(zgc ops s).isEmpty then some []else none
 | f+1,s=>
  match (zgc ops s).find? fun i=>zal (zcy P ops i) && zn2 ops s i && !zpY ops i with
  | some i=>(zoW s i true fun s'=>zhF P ops f s').map (i :: ·)
  | none=>match zgc ops s with
   | []=>some []
   | [i]=>(zoW s i true fun s'=>zhF P ops f s').map (i :: ·)
   | _=>none
theorem zjS(P:Program)(ops:Array Oper):∀(f:Nat) (s:List Bool),zhF P ops f s=zi2 P ops f s.toArray
 | 0,s=>by simp only[zhF,zi2,zfn]
 | f+1,s=>by
  simp only[zhF,zi2,zfn,zkA,zjS P ops f,znR,zin];rfl
def zkz(bar:Bool)(P:Program)(ops:Array Oper):Nat→List Bool→Option (List Nat×List Nat)
 | 0,s=>if(zgc ops s).isEmpty then some ([],[])else none
 | f+1,s=>
  match (zgc ops s).find? fun i=>zal (zcy P ops i) && zn2 ops s i && (!zpY ops i || zpe bar P ops s.toArray i)with
  | some i=>(zoW s i true fun s'=>zkz bar P ops f s').map fun r=>(i :: r.1,r.2)
  | none=>match zgc ops s with
   | []=>some ([],[])
   | [i]=>bif zeT bar (zcy P ops i)|| wrI (zcy P ops i)then(zoW s i true fun s'=>zkz bar P ops f s').map fun r=>(i :: r.1,r.2)else(zhF P ops (f+1) s).map fun r=>([],r)
   | i :: j :: l=>bif zsr bar P ops s (i :: j :: l) (zib bar P ops s (i :: j :: l))then
     (match zoW s (zib bar P ops s (i :: j :: l)) true fun s'=>zkz bar P ops f s' with
     | some r=>bif okF P ops (i :: j :: l) (zib bar P ops s (i :: j :: l)) r.1 then some (zib bar P ops s (i :: j :: l):: r.1,r.2)else none
     | none=>none)else none
theorem zlV(bar:Bool)(P:Program)(ops:Array Oper):∀(f:Nat) (s:List Bool),zkz bar P ops f s=zeA bar P ops f s.toArray
 | 0,s=>by simp only[zkz,zeA,zfn]
 | f+1,s=>by
  simp only[zkz,zeA,zfn,zkA,zlV bar P ops f,znR,zin,zna,zoi,zjS];rfl
def zr4{β:Type}(n:Nat)(k:List Bool→β):β:=zlW (List.replicate n false) k
def zgA(bar:Bool)(P:Program)(ops:Array Oper):Option (List Nat×List Nat):=
 if Region.noSelect ops && zfX ops && zss P ops then zr4 ops.size fun s=>zkz bar P ops ops.size s else none
theorem zlk(bar:Bool)(P:Program)(ops:Array Oper):zgA bar P ops=zrv bar P ops:=by
 unfold zgA zrv zr4;simp only[zj6,zlV];rw[show(List.replicate ops.size false).toArray=Array.replicate ops.size false by simp]
def zeg(P:Program)(N:Nat):Code→C
 | .skip=>.skip
 | .region _ ops false=>bif ops.all (fun o=>zgp N o.dst)then .reg false false (ops.toList.map (irO P N ops))else .bad
 | .region _ ops true=>bif ops.all (fun o=>zgp N o.dst)then(match zgA false P ops with
  | some (l,l')=>.reg true false ((l ++ l').flatMap (zks P N ops))
  | none=>(match zgA true P ops with
   | some (l,l')=>.reg true true ((l ++ l').flatMap (zks P N ops))
   | none=>.bad))else .bad
 | .seq a b=>.seq (zeg P N a) (zeg P N b)
 | .cond c a b=>.cond (opX c) (zeg P N a) (zeg P N b)
 | .block id c=>.block id (zeg P N c)
 | .loop c=>.loop (zeg P N c)
 | .rangeFunc x ps a b=>.zdH (opX x) ps.toList (zeg P N a) (zeg P N b)
 | .exit id=>.exit id
 | .scope c=>.scope (zeg P N c)
 | .label l=>.label l
 | .ret=>.ret
 | _=>.bad
theorem zpN(P:Program)(N:Nat)(c:Code):zeg P N c=comp P N c:=by
 induction c with
 | region id ops dr=>cases dr<;>simp only[zeg,comp,zlk]<;>rfl
 | seq a b iha ihb=>simp only[zeg,comp,iha,ihb]
 | cond x a b iha ihb=>simp only[zeg,comp,iha,ihb]
 | block id c ih=>simp only[zeg,comp,ih]
 | loop c ih=>simp only[zeg,comp,ih]
 | rangeFunc x ps a b iha ihb=>simp only[zeg,comp,iha,ihb]
 | scope c ih=>simp only[zeg,comp,ih]
 | _=>rfl
def zjK(P:Program)(f:Nat):Option Fn:=
 match P.funcs[f]? with
 | some fn=>(match fn.body with
  | some c=>bif !wrF f && !(fn.name == "runtime.NumGoroutine") && fn.results.toList.all (zjj P)then some ⟨fn.ntmps,zeg P fn.ntmps c,fn.results.toList.map (zjy P),false⟩else none
  | none=>none)
 | none=>none
theorem zoq(P:Program)(f:Nat):zjK P f=zhq P f:=by
 unfold zjK zhq;simp only[zpN];rfl
theorem zrl{P:Program}{f:Nat}{fn:Fn}(h:zhq P f=some fn):fn.p=false:=by
 unfold zhq at h;split at h
 ·split at h
  ·simp only[cond_eq_ite]at h;split at h
   ·cases h; rfl
   cases h
  cases h
 cases h
end Go.Mx
