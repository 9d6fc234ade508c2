/-
 The order of a region once more, for the kernel. Conditions: none.
-/
import Derived.Test.YtnfgibomhkbcpaaNfMx14
set_option linter.unusedSimpArgs false
set_option linter.unusedVariables false
namespace Go.Mx
open Go
def zqy:List Bool→Nat→Bool→Bool
 | [],_,d=>d
 | x :: r,n,d=>match n with
  | .zero=>x
  | .succ m=>zqy r m d
theorem zgH:∀(l:List Bool) (n:Nat) (d:Bool),zqy l n d=l.toArray.getD n d
 | [],n,d=>by simp[zqy]
 | x :: r,0,d=>by simp[zqy]
 | x :: r,n+1,d=>by
  simp only[zqy,zgH r n d];simp[qcw]
def zvk:List Edge→List Nat
 | []=>[]
 | e :: r=>bif Region.binds .any e then e.on :: zvk r else zvk r
def zv8(o:Oper):List Nat:=zvk o.after.toList
def zu0(p:Nat→Bool):List Nat→Bool
 | []=>false
 | d :: r=>bif p d then true else zu0 p r
def zxt(p:Nat→Bool):List Nat→Bool
 | []=>true
 | d :: r=>bif p d then zxt p r else false
theorem zqb(p:Nat→Bool):∀ l:List Edge,l.any (fun e=>Region.binds .any e && p e.on)=zu0 p (zvk l)
 | []=>rfl
 | e :: r=>by
  simp only[List.any_cons,zqb p r,zvk];cases h1:Region.binds .any e with
  | false=>rfl
  | true=>simp only[cond_true,zu0,qcB]; cases p e.on<;>rfl
theorem zr9(p:Nat→Bool):∀ l:List Edge,l.all (fun e=>!Region.binds .any e || p e.on)=zxt p (zvk l)
 | []=>rfl
 | e :: r=>by
  simp only[List.all_cons,zr9 p r,zvk];cases h1:Region.binds .any e with
  | false=>rfl
  | true=>simp only[cond_true,zxt,qa3,qcN]; cases p e.on<;>rfl
theorem znC(o:Oper)(p:Nat→Bool):(o.after.any fun e=>Region.binds .any e && p e.on)=zu0 p (zv8 o):=by
 rw[← Array.any_toList,zqb]; rfl
theorem zsX(o:Oper)(p:Nat→Bool):(o.after.all fun e=>!Region.binds .any e || p e.on)=zxt p (zv8 o):=by
 rw[← Array.all_toList,zr9]; rfl
def zg0(ops:Array Oper)(l:List Bool):List Nat:=
 (List.range ops.size).filter fun i=>bif zqy l i true then false else(match ops[i]? with | some o=>zxt (fun d=>zqy l d false) (zv8 o)| none=>false)
theorem zgB(ops:Array Oper)(l:List Bool):zg0 ops l=Region.ready .any ops l.toArray:=by
 unfold zg0 Region.ready;congr 1
 funext i
 rw[zgH];cases l.toArray.getD i true with
 | true=>rfl
 | false=>
  cases ops[i]? with
  | none=>rfl
  | some o=>
   simp only[cond_false,qbF,qcB,qaQ,qbo];rw[← zsX];congr 1
   funext e
   rw[zgH]
def zsj(ops:Array Oper)(l:List Bool)(i:Nat):Bool:=
 match ops[i]? with
 | none=>false
 | some oi=>(List.range ops.size).all fun j=>bif j == i then true else bif zqy l j true then true else(match ops[j]? with
   | some oj=>bif zu0 (fun d=>d == i) (zv8 oj)then true else oi.apart ops oj
   | none=>true)
theorem zkf(ops:Array Oper)(l:List Bool)(i:Nat):zsj ops l i=Region.free .any ops l.toArray i:=by
 unfold zsj Region.free;cases ops[i]? with
 | none=>rfl
 | some oi=>
  simp only;congr 1
  funext j
  rw[zgH];cases(j == i)with
  | true=>rfl
  | false=>
   cases l.toArray.getD j true with
   | true=>rfl
   | false=>
    simp only[cond_false,qcN];cases ops[j]? with
    | none=>rfl
    | some oj=>
     simp only;have h:=znC oj (fun d=>d == i);rw[h];cases zu0 (fun d=>d == i) (zv8 oj)<;> rfl
def zxA(bar:Bool)(P:Program)(ops:Array Oper)(s:List Bool)(l:List Nat)(n:Nat):Bool:=
 l.contains n && (zfD bar (zcX P ops n)|| zoN P ops n) && (l.all fun i=>i == n || (alI (zcX P ops i) && zsj ops s i)) &&
 (alI (zcX P ops n)|| zoN P ops n || (l.all fun i=>i == n || zjK (zcX P ops i))) &&
 ((List.range ops.size).all fun k=>bif zqy s k true then true else bif l.contains k then true else(match ops[k]? with
  | some o=>zu0 (fun d=>bif zqy s d false then false else(d == n || !l.contains d)) (zv8 o)
  | none=>true))
theorem zsc(bar:Bool)(P:Program)(ops:Array Oper)(s:List Bool)(l:List Nat)(n:Nat):zxA bar P ops s l n=okN bar P ops s.toArray l n:=by
 unfold zxA okN;congr 1
 ·congr 2
  congr 1
  funext i
  rw[zkf]
 congr 1
 funext k
 rw[zgH];cases s.toArray.getD k true with
 | true=>rfl
 | false=>
  cases l.contains k with
  | true=>rfl
  | false=>
   simp only[cond_false,qcN];cases ops[k]? with
   | none=>rfl
   | some o=>
    simp only;have h:=znC o (fun d=>bif zqy s d false then false else(d == n || !l.contains d));rw[← h];congr 1
    funext e
    rw[zgH];cases Region.binds .any e<;>cases s.toArray.getD e.on false<;>rfl
def zjf(bar:Bool)(P:Program)(ops:Array Oper)(s:List Bool)(l:List Nat):Nat:=
 match l.find? fun i=>!alI (zcX P ops i)with
 | some i=>i
 | none=>match l.find? fun i=>!zjK (zcX P ops i) && zxA bar P ops s l i with
  | some i=>i
  | none=>(l.find? fun i=>zxA bar P ops s l i).getD 0
theorem zrT(bar:Bool)(P:Program)(ops:Array Oper)(s:List Bool)(l:List Nat):zjf bar P ops s l=zjw bar P ops s.toArray l:=by
 unfold zjf zjw;simp only[zsc];rfl
theorem zpK(l:List Bool)(i:Nat):l.toArray.setIfInBounds i true=(l.set i true).toArray:=by simp
def zi9(P:Program)(ops:Array Oper):Nat→List Bool→Option (List Nat)
 | 0,s=>if(zg0 ops s).isEmpty then some []else none
 | f+1,s=>
  match (zg0 ops s).find? fun i=>zan (zcX P ops i) && zsj ops s i && !zuk ops i with
  | some i=>(zr3 s i true fun s'=>zi9 P ops f s').map (i :: ·)
  | none=>match zg0 ops s with
   | []=>some []
   | [i]=>(zr3 s i true fun s'=>zi9 P ops f s').map (i :: ·)
   | _=>none
theorem zlP(P:Program)(ops:Array Oper):∀(f:Nat) (s:List Bool),zi9 P ops f s=zjA P ops f s.toArray
 | 0,s=>by simp only[zi9,zjA,zgB]
 | f+1,s=>by
  simp only[zi9,zjA,zgB,zjn,zlP P ops f,zpK,zkf];rfl
def zm9(bar:Bool)(P:Program)(ops:Array Oper):Nat→List Bool→Option (List Nat×List Nat)
 | 0,s=>if(zg0 ops s).isEmpty then some ([],[])else none
 | f+1,s=>
  match (zg0 ops s).find? fun i=>zan (zcX P ops i) && zsj ops s i && (!zuk ops i || zs0 bar P ops s.toArray i)with
  | some i=>(zr3 s i true fun s'=>zm9 bar P ops f s').map fun r=>(i :: r.1,r.2)
  | none=>match zg0 ops s with
   | []=>some ([],[])
   | [i]=>bif zfD bar (zcX P ops i)|| wrI (zcX P ops i)then(zr3 s i true fun s'=>zm9 bar P ops f s').map fun r=>(i :: r.1,r.2)else(zi9 P ops (f+1) s).map fun r=>([],r)
   | i :: j :: l=>bif zxA bar P ops s (i :: j :: l) (zjf bar P ops s (i :: j :: l))then
     (match zr3 s (zjf bar P ops s (i :: j :: l)) true fun s'=>zm9 bar P ops f s' with
     | some r=>bif okF P ops (i :: j :: l) (zjf bar P ops s (i :: j :: l)) r.1 then some (zjf bar P ops s (i :: j :: l):: r.1,r.2)else none
     | none=>none)else none
theorem znr(bar:Bool)(P:Program)(ops:Array Oper):∀(f:Nat) (s:List Bool),zm9 bar P ops f s=zfc bar P ops f s.toArray
 | 0,s=>by simp only[zm9,zfc,zgB]
 | f+1,s=>by
  simp only[zm9,zfc,zgB,zjn,znr bar P ops f,zpK,zkf,zsc,zrT,zlP];rfl
def zxG{β:Type}(n:Nat)(k:List Bool→β):β:=zc1 (List.replicate n false) k
def zhh(bar:Bool)(P:Program)(ops:Array Oper):Option (List Nat×List Nat):=
 if Region.noSelect ops && zgI ops && zwB P ops then zxG ops.size fun s=>zm9 bar P ops ops.size s else none
theorem zmK(bar:Bool)(P:Program)(ops:Array Oper):zhh bar P ops=zwe bar P ops:=by
 unfold zhh zwe zxG;simp only[zcC,znr];rw[show(List.replicate ops.size false).toArray=Array.replicate ops.size false by simp]
def zeS(P:Program)(N:Nat):Code→C
 | .skip=>.skip
 | .region _ ops false=>bif ops.all (fun o=>zg6 N o.dst)then .reg false false (ops.toList.map (irO P N ops))else .bad
 | .region _ ops true=>bif ops.all (fun o=>zg6 N o.dst)then(match zhh false P ops with
  | some (l,l')=>.reg true false ((l ++ l').flatMap (zl4 P N ops))
  | none=>(match zhh true P ops with
   | some (l,l')=>.reg true true ((l ++ l').flatMap (zl4 P N ops))
   | none=>.bad))else .bad
 | .seq a b=>.seq (zeS P N a) (zeS P N b)
 | .cond c a b=>.cond (opX c) (zeS P N a) (zeS P N b)
 | .block id c=>.block id (zeS P N c)
 | .loop c=>.loop (zeS P N c)
 | .rangeFunc x ps a b=>.zex (opX x) ps.toList (zeS P N a) (zeS P N b)
 | .exit id=>.exit id
 | .scope c=>.scope (zeS P N c)
 | .label l=>.label l
 | .ret=>.ret
 | _=>.bad
theorem ztN(P:Program)(N:Nat)(c:Code):zeS P N c=comp P N c:=by
 induction c with
 | region id ops dr=>cases dr<;>simp only[zeS,comp,zmK]<;>rfl
 | seq a b iha ihb=>simp only[zeS,comp,iha,ihb]
 | cond x a b iha ihb=>simp only[zeS,comp,iha,ihb]
 | block id c ih=>simp only[zeS,comp,ih]
 | loop c ih=>simp only[zeS,comp,ih]
 | rangeFunc x ps a b iha ihb=>simp only[zeS,comp,iha,ihb]
 | scope c ih=>simp only[zeS,comp,ih]
 | _=>rfl
def zi0(P:Program)(f:Nat):Option Fn:=
 match P.funcs[f]? with
 | some fn=>(match fn.body with
  | some c=>bif !wrF f && !(fn.name == "runtime.NumGoroutine") && fn.results.toList.all (zlY P)then some ⟨fn.ntmps,zeS P fn.ntmps c,fn.results.toList.map (zkQ P),false⟩else none
  | none=>none)
 | none=>none
theorem zkO(P:Program)(f:Nat):zi0 P f=zh5 P f:=by
 unfold zi0 zh5;simp only[ztN];rfl
def zxp(P:Program)(l:List Nat)(f:Nat):Option Fn:=
 match zi0 P f with
 | some fn=>some ⟨fn.N,fn.c,fn.rs,l.any fun i=>Nat.beq i f⟩
 | none=>none
theorem zpU{P:Program}{f:Nat}{fn:Fn}(h:zh5 P f=some fn):fn.p=false:=by
 unfold zh5 at h;split at h
 ·split at h
  ·simp only[cond_eq_ite]at h;split at h
   ·cases h; rfl
   cases h
  cases h
 cases h
theorem zvY{P:Program}{l:List Nat}(f:Nat)(fn:Fn)(h:zxp P l f=some fn):zkC P f fn:=by
 unfold zxp at h;rw[zkO]at h;cases hc:zh5 P f with
 | none=>rw[hc]at h; cases h
 | some g=>
  rw[hc]at h;cases h;have hp:=zpU hc;unfold zkC;rw[hc];cases g;simp only at hp;subst hp;rfl
end Go.Mx
