/-
 The order of a region once more, for the kernel. Conditions: none.
-/
import Derived.Test.YtbjogdohfhdaiaaKfMx14
set_option linter.unusedSimpArgs false
set_option linter.unusedVariables false
namespace Go.Mx
open Go
def zn2:List Bool→Nat→Bool→Bool
 | [],_,d=>d
 | x :: r,n,d=>match n with
  | .zero=>x
  | .succ m=>zn2 r m d
theorem zfJ:∀(l:List Bool) (n:Nat) (d:Bool),zn2 l n d=l.toArray.getD n d
 | [],n,d=>by simp[zn2]
 | x :: r,0,d=>by simp[zn2]
 | x :: r,n+1,d=>by
  simp only[zn2,zfJ r n d];simp[qbN]
def zqr:List Edge→List Nat
 | []=>[]
 | e :: r=>bif Region.binds .any e then e.on :: zqr r else zqr r
def zqY(o:Oper):List Nat:=zqr o.after.toList
def zpZ(p:Nat→Bool):List Nat→Bool
 | []=>false
 | d :: r=>bif p d then true else zpZ p r
def zrU(p:Nat→Bool):List Nat→Bool
 | []=>true
 | d :: r=>bif p d then zrU p r else false
theorem znH(p:Nat→Bool):∀ l:List Edge,l.any (fun e=>Region.binds .any e && p e.on)=zpZ p (zqr l)
 | []=>rfl
 | e :: r=>by
  simp only[List.any_cons,znH p r,zqr];cases h1:Region.binds .any e with
  | false=>rfl
  | true=>simp only[cond_true,zpZ,qbh]; cases p e.on<;>rfl
theorem znZ(p:Nat→Bool):∀ l:List Edge,l.all (fun e=>!Region.binds .any e || p e.on)=zrU p (zqr l)
 | []=>rfl
 | e :: r=>by
  simp only[qb7,znZ p r,zqr];cases h1:Region.binds .any e with
  | false=>rfl
  | true=>simp only[cond_true,zrU,qaO,qbV]; cases p e.on<;>rfl
theorem zk1(o:Oper)(p:Nat→Bool):(o.after.any fun e=>Region.binds .any e && p e.on)=zpZ p (zqY o):=by
 rw[← Array.any_toList,znH]; rfl
theorem zo6(o:Oper)(p:Nat→Bool):(o.after.all fun e=>!Region.binds .any e || p e.on)=zrU p (zqY o):=by
 rw[← Array.all_toList,znZ]; rfl
def zf0(ops:Array Oper)(l:List Bool):List Nat:=
 (List.range ops.size).filter fun i=>bif zn2 l i true then false else(match ops[i]? with | some o=>zrU (fun d=>zn2 l d false) (zqY o)| none=>false)
theorem zfA(ops:Array Oper)(l:List Bool):zf0 ops l=Region.ready .any ops l.toArray:=by
 unfold zf0 Region.ready;congr 1
 funext i
 rw[zfJ];cases l.toArray.getD i true with
 | true=>rfl
 | false=>
  cases ops[i]? with
  | none=>rfl
  | some o=>
   simp only[cond_false,qbd,qbh,qaE,qbk];rw[← zo6];congr 1
   funext e
   rw[zfJ]
def znM(ops:Array Oper)(l:List Bool)(i:Nat):Bool:=
 match ops[i]? with
 | none=>false
 | some oi=>(List.range ops.size).all fun j=>bif j == i then true else bif zn2 l j true then true else(match ops[j]? with
   | some oj=>bif zpZ (fun d=>d == i) (zqY oj)then true else oi.apart ops oj
   | none=>true)
theorem zh8(ops:Array Oper)(l:List Bool)(i:Nat):znM ops l i=Region.free .any ops l.toArray i:=by
 unfold znM Region.free;cases ops[i]? with
 | none=>rfl
 | some oi=>
  simp only;congr 1
  funext j
  rw[zfJ];cases(j == i)with
  | true=>rfl
  | false=>
   cases l.toArray.getD j true with
   | true=>rfl
   | false=>
    simp only[cond_false,qbV];cases ops[j]? with
    | none=>rfl
    | some oj=>
     simp only;have h:=zk1 oj (fun d=>d == i);rw[h];cases zpZ (fun d=>d == i) (zqY oj)<;> rfl
def zra(bar:Bool)(P:Program)(ops:Array Oper)(s:List Bool)(l:List Nat)(n:Nat):Bool:=
 l.contains n && (zeF bar (zcA P ops n)|| zl8 P ops n) && (l.all fun i=>i == n || (alI (zcA P ops i) && znM ops s i)) &&
 (alI (zcA P ops n)|| zl8 P ops n || (l.all fun i=>i == n || ziR (zcA P ops i))) &&
 ((List.range ops.size).all fun k=>bif zn2 s k true then true else bif l.contains k then true else(match ops[k]? with
  | some o=>zpZ (fun d=>bif zn2 s d false then false else(d == n || !l.contains d)) (zqY o)
  | none=>true))
theorem zni(bar:Bool)(P:Program)(ops:Array Oper)(s:List Bool)(l:List Nat)(n:Nat):zra bar P ops s l n=okN bar P ops s.toArray l n:=by
 unfold zra okN;congr 1
 ·congr 2
  congr 1
  funext i
  rw[zh8]
 congr 1
 funext k
 rw[zfJ];cases s.toArray.getD k true with
 | true=>rfl
 | false=>
  cases l.contains k with
  | true=>rfl
  | false=>
   simp only[cond_false,qbV];cases ops[k]? with
   | none=>rfl
   | some o=>
    simp only;have h:=zk1 o (fun d=>bif zn2 s d false then false else(d == n || !l.contains d));rw[← h];congr 1
    funext e
    rw[zfJ];cases Region.binds .any e<;>cases s.toArray.getD e.on false<;>rfl
def zhL(bar:Bool)(P:Program)(ops:Array Oper)(s:List Bool)(l:List Nat):Nat:=
 match l.find? fun i=>!alI (zcA P ops i)with
 | some i=>i
 | none=>match l.find? fun i=>!ziR (zcA P ops i) && zra bar P ops s l i with
  | some i=>i
  | none=>(l.find? fun i=>zra bar P ops s l i).getD 0
theorem znC(bar:Bool)(P:Program)(ops:Array Oper)(s:List Bool)(l:List Nat):zhL bar P ops s l=ziG bar P ops s.toArray l:=by
 unfold zhL ziG;simp only[zni];rfl
theorem zoi(l:List Bool)(i:Nat):l.toArray.setIfInBounds i true=(l.set i true).toArray:=by simp
def zhQ(P:Program)(ops:Array Oper):Nat→List Bool→Option (List Nat)
 | 0,s=>if(zf0 ops s).isEmpty then some []else none
 | f+1,s=>
  match (zf0 ops s).find? fun i=>zak (zcA P ops i) && znM ops s i && !zpi ops i with
  | some i=>(zou s i true fun s'=>zhQ P ops f s').map (i :: ·)
  | none=>match zf0 ops s with
   | []=>some []
   | [i]=>(zou s i true fun s'=>zhQ P ops f s').map (i :: ·)
   | _=>none
theorem zjJ(P:Program)(ops:Array Oper):∀(f:Nat) (s:List Bool),zhQ P ops f s=ziC P ops f s.toArray
 | 0,s=>by simp only[zhQ,ziC,zfA]
 | f+1,s=>by
  simp only[zhQ,ziC,zfA,zkH,zjJ P ops f,zoi,zh8];rfl
def zkJ(bar:Bool)(P:Program)(ops:Array Oper):Nat→List Bool→Option (List Nat×List Nat)
 | 0,s=>if(zf0 ops s).isEmpty then some ([],[])else none
 | f+1,s=>
  match (zf0 ops s).find? fun i=>zak (zcA P ops i) && znM ops s i && (!zpi ops i || zoN bar P ops s.toArray i)with
  | some i=>(zou s i true fun s'=>zkJ bar P ops f s').map fun r=>(i :: r.1,r.2)
  | none=>match zf0 ops s with
   | []=>some ([],[])
   | [i]=>bif zeF bar (zcA P ops i)|| wrI (zcA P ops i)then(zou s i true fun s'=>zkJ bar P ops f s').map fun r=>(i :: r.1,r.2)else(zhQ P ops (f+1) s).map fun r=>([],r)
   | i :: j :: l=>bif zra bar P ops s (i :: j :: l) (zhL bar P ops s (i :: j :: l))then
     (match zou s (zhL bar P ops s (i :: j :: l)) true fun s'=>zkJ bar P ops f s' with
     | some r=>bif okF P ops (i :: j :: l) (zhL bar P ops s (i :: j :: l)) r.1 then some (zhL bar P ops s (i :: j :: l):: r.1,r.2)else none
     | none=>none)else none
theorem zlA(bar:Bool)(P:Program)(ops:Array Oper):∀(f:Nat) (s:List Bool),zkJ bar P ops f s=zec bar P ops f s.toArray
 | 0,s=>by simp only[zkJ,zec,zfA]
 | f+1,s=>by
  simp only[zkJ,zec,zfA,zkH,zlA bar P ops f,zoi,zh8,zni,znC,zjJ];rfl
def zr1{β:Type}(n:Nat)(k:List Bool→β):β:=zlv (List.replicate n false) k
def zgf(bar:Bool)(P:Program)(ops:Array Oper):Option (List Nat×List Nat):=
 if Region.noSelect ops && zfI ops && zrh P ops then zr1 ops.size fun s=>zkJ bar P ops ops.size s else none
theorem zkM(bar:Bool)(P:Program)(ops:Array Oper):zgf bar P ops=zq4 bar P ops:=by
 unfold zgf zq4 zr1;simp only[zi8,zlA];rw[show(List.replicate ops.size false).toArray=Array.replicate ops.size false by simp]
def zd5(P:Program)(N:Nat):Code→C
 | .skip=>.skip
 | .region _ ops false=>bif ops.all (fun o=>zf7 N o.dst)then .reg false false (ops.toList.map (irO P N ops))else .bad
 | .region _ ops true=>bif ops.all (fun o=>zf7 N o.dst)then(match zgf false P ops with
  | some (l,l')=>.reg true false ((l ++ l').flatMap (zka P N ops))
  | none=>(match zgf true P ops with
   | some (l,l')=>.reg true true ((l ++ l').flatMap (zka P N ops))
   | none=>.bad))else .bad
 | .seq a b=>.seq (zd5 P N a) (zd5 P N b)
 | .cond c a b=>.cond (opX c) (zd5 P N a) (zd5 P N b)
 | .block id c=>.block id (zd5 P N c)
 | .loop c=>.loop (zd5 P N c)
 | .rangeFunc x ps a b=>.zdB (opX x) ps.toList (zd5 P N a) (zd5 P N b)
 | .exit id=>.exit id
 | .scope c=>.scope (zd5 P N c)
 | .label l=>.label l
 | .ret=>.ret
 | _=>.bad
theorem zoZ(P:Program)(N:Nat)(c:Code):zd5 P N c=comp P N c:=by
 induction c with
 | region id ops dr=>cases dr<;>simp only[zd5,comp,zkM]<;>rfl
 | seq a b iha ihb=>simp only[zd5,comp,iha,ihb]
 | cond x a b iha ihb=>simp only[zd5,comp,iha,ihb]
 | block id c ih=>simp only[zd5,comp,ih]
 | loop c ih=>simp only[zd5,comp,ih]
 | rangeFunc x ps a b iha ihb=>simp only[zd5,comp,iha,ihb]
 | scope c ih=>simp only[zd5,comp,ih]
 | _=>rfl
def zjQ(P:Program)(f:Nat):Option Fn:=
 match P.funcs[f]? with
 | some fn=>(match fn.body with
  | some c=>bif !wrF f && !(fn.name == "runtime.NumGoroutine") && fn.results.toList.all (zjZ P)then some ⟨fn.ntmps,zd5 P fn.ntmps c,fn.results.toList.map (zjC P),false⟩else none
  | none=>none)
 | none=>none
theorem zmN(P:Program)(f:Nat):zjQ P f=zhl P f:=by
 unfold zjQ zhl;simp only[zoZ];rfl
theorem zpW{P:Program}{f:Nat}{fn:Fn}(h:zhl P f=some fn):fn.p=false:=by
 unfold zhl at h;split at h
 ·split at h
  ·simp only[cond_eq_ite]at h;split at h
   ·cases h; rfl
   cases h
  cases h
 cases h
end Go.Mx
