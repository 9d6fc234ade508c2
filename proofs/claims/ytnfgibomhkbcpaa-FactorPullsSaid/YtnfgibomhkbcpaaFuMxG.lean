/-
 The order of a region once more, for the kernel. Conditions: none.
-/
import Derived.Test.YtnfgibomhkbcpaaFuMx14
set_option linter.unusedSimpArgs false
set_option linter.unusedVariables false
namespace Go.Mx
open Go
def zpj:List Bool→Nat→Bool→Bool
 | [],_,d=>d
 | x :: r,n,d=>match n with
  | .zero=>x
  | .succ m=>zpj r m d
theorem zgv:∀(l:List Bool) (n:Nat) (d:Bool),zpj l n d=l.toArray.getD n d
 | [],n,d=>by simp[zpj]
 | x :: r,0,d=>by simp[zpj]
 | x :: r,n+1,d=>by
  simp only[zpj,zgv r n d];simp[qb1]
def zru:List Edge→List Nat
 | []=>[]
 | e :: r=>bif Region.binds .any e then e.on :: zru r else zru r
def zsI(o:Oper):List Nat:=zru o.after.toList
def zrR(p:Nat→Bool):List Nat→Bool
 | []=>false
 | d :: r=>bif p d then true else zrR p r
def ztt(p:Nat→Bool):List Nat→Bool
 | []=>true
 | d :: r=>bif p d then ztt p r else false
theorem zn0(p:Nat→Bool):∀ l:List Edge,l.any (fun e=>Region.binds .any e && p e.on)=zrR p (zru l)
 | []=>rfl
 | e :: r=>by
  simp only[List.any_cons,zn0 p r,zru];cases h1:Region.binds .any e with
  | false=>rfl
  | true=>simp only[cond_true,zrR,qbn]; cases p e.on<;>rfl
theorem zpd(p:Nat→Bool):∀ l:List Edge,l.all (fun e=>!Region.binds .any e || p e.on)=ztt p (zru l)
 | []=>rfl
 | e :: r=>by
  simp only[qcr,zpd p r,zru];cases h1:Region.binds .any e with
  | false=>rfl
  | true=>simp only[cond_true,ztt,qa2,qcb]; cases p e.on<;>rfl
theorem zm5(o:Oper)(p:Nat→Bool):(o.after.any fun e=>Region.binds .any e && p e.on)=zrR p (zsI o):=by
 rw[← Array.any_toList,zn0]; rfl
theorem zp0(o:Oper)(p:Nat→Bool):(o.after.all fun e=>!Region.binds .any e || p e.on)=ztt p (zsI o):=by
 rw[← Array.all_toList,zpd]; rfl
def zgB(ops:Array Oper)(l:List Bool):List Nat:=
 (List.range ops.size).filter fun i=>bif zpj l i true then false else(match ops[i]? with | some o=>ztt (fun d=>zpj l d false) (zsI o)| none=>false)
theorem zf9(ops:Array Oper)(l:List Bool):zgB ops l=Region.ready .any ops l.toArray:=by
 unfold zgB Region.ready;congr 1
 funext i
 rw[zgv];cases l.toArray.getD i true with
 | true=>rfl
 | false=>
  cases ops[i]? with
  | none=>rfl
  | some o=>
   simp only[cond_false,qbp,qbn,qaL,qbl];rw[← zp0];congr 1
   funext e
   rw[zgv]
def zpm(ops:Array Oper)(l:List Bool)(i:Nat):Bool:=
 match ops[i]? with
 | none=>false
 | some oi=>(List.range ops.size).all fun j=>bif j == i then true else bif zpj l j true then true else(match ops[j]? with
   | some oj=>bif zrR (fun d=>d == i) (zsI oj)then true else oi.apart ops oj
   | none=>true)
theorem zjL(ops:Array Oper)(l:List Bool)(i:Nat):zpm ops l i=Region.free .any ops l.toArray i:=by
 unfold zpm Region.free;cases ops[i]? with
 | none=>rfl
 | some oi=>
  simp only;congr 1
  funext j
  rw[zgv];cases(j == i)with
  | true=>rfl
  | false=>
   cases l.toArray.getD j true with
   | true=>rfl
   | false=>
    simp only[cond_false,qcb];cases ops[j]? with
    | none=>rfl
    | some oj=>
     simp only;have h:=zm5 oj (fun d=>d == i);rw[h];cases zrR (fun d=>d == i) (zsI oj)<;> rfl
def ztr(bar:Bool)(P:Program)(ops:Array Oper)(s:List Bool)(l:List Nat)(n:Nat):Bool:=
 l.contains n && (zfb bar (zcK P ops n)|| zm6 P ops n) && (l.all fun i=>i == n || (alI (zcK P ops i) && zpm ops s i)) &&
 (alI (zcK P ops n)|| zm6 P ops n || (l.all fun i=>i == n || zjc (zcK P ops i))) &&
 ((List.range ops.size).all fun k=>bif zpj s k true then true else bif l.contains k then true else(match ops[k]? with
  | some o=>zrR (fun d=>bif zpj s d false then false else(d == n || !l.contains d)) (zsI o)
  | none=>true))
theorem zpH(bar:Bool)(P:Program)(ops:Array Oper)(s:List Bool)(l:List Nat)(n:Nat):ztr bar P ops s l n=okN bar P ops s.toArray l n:=by
 unfold ztr okN;congr 1
 ·congr 2
  congr 1
  funext i
  rw[zjL]
 congr 1
 funext k
 rw[zgv];cases s.toArray.getD k true with
 | true=>rfl
 | false=>
  cases l.contains k with
  | true=>rfl
  | false=>
   simp only[cond_false,qcb];cases ops[k]? with
   | none=>rfl
   | some o=>
    simp only;have h:=zm5 o (fun d=>bif zpj s d false then false else(d == n || !l.contains d));rw[← h];congr 1
    funext e
    rw[zgv];cases Region.binds .any e<;>cases s.toArray.getD e.on false<;>rfl
def zia(bar:Bool)(P:Program)(ops:Array Oper)(s:List Bool)(l:List Nat):Nat:=
 match l.find? fun i=>!alI (zcK P ops i)with
 | some i=>i
 | none=>match l.find? fun i=>!zjc (zcK P ops i) && ztr bar P ops s l i with
  | some i=>i
  | none=>(l.find? fun i=>ztr bar P ops s l i).getD 0
theorem zot(bar:Bool)(P:Program)(ops:Array Oper)(s:List Bool)(l:List Nat):zia bar P ops s l=zjb bar P ops s.toArray l:=by
 unfold zia zjb;simp only[zpH];rfl
theorem zos(l:List Bool)(i:Nat):l.toArray.setIfInBounds i true=(l.set i true).toArray:=by simp
def zig(P:Program)(ops:Array Oper):Nat→List Bool→Option (List Nat)
 | 0,s=>if(zgB ops s).isEmpty then some []else none
 | f+1,s=>
  match (zgB ops s).find? fun i=>zam (zcK P ops i) && zpm ops s i && !zrb ops i with
  | some i=>(zpQ s i true fun s'=>zig P ops f s').map (i :: ·)
  | none=>match zgB ops s with
   | []=>some []
   | [i]=>(zpQ s i true fun s'=>zig P ops f s').map (i :: ·)
   | _=>none
theorem zkr(P:Program)(ops:Array Oper):∀(f:Nat) (s:List Bool),zig P ops f s=zi0 P ops f s.toArray
 | 0,s=>by simp only[zig,zi0,zf9]
 | f+1,s=>by
  simp only[zig,zi0,zf9,zlV,zkr P ops f,zos,zjL];rfl
def zlE(bar:Bool)(P:Program)(ops:Array Oper):Nat→List Bool→Option (List Nat×List Nat)
 | 0,s=>if(zgB ops s).isEmpty then some ([],[])else none
 | f+1,s=>
  match (zgB ops s).find? fun i=>zam (zcK P ops i) && zpm ops s i && (!zrb ops i || zqs bar P ops s.toArray i)with
  | some i=>(zpQ s i true fun s'=>zlE bar P ops f s').map fun r=>(i :: r.1,r.2)
  | none=>match zgB ops s with
   | []=>some ([],[])
   | [i]=>bif zfb bar (zcK P ops i)|| wrI (zcK P ops i)then(zpQ s i true fun s'=>zlE bar P ops f s').map fun r=>(i :: r.1,r.2)else(zig P ops (f+1) s).map fun r=>([],r)
   | i :: j :: l=>bif ztr bar P ops s (i :: j :: l) (zia bar P ops s (i :: j :: l))then
     (match zpQ s (zia bar P ops s (i :: j :: l)) true fun s'=>zlE bar P ops f s' with
     | some r=>bif okF P ops (i :: j :: l) (zia bar P ops s (i :: j :: l)) r.1 then some (zia bar P ops s (i :: j :: l):: r.1,r.2)else none
     | none=>none)else none
theorem zms(bar:Bool)(P:Program)(ops:Array Oper):∀(f:Nat) (s:List Bool),zlE bar P ops f s=zeV bar P ops f s.toArray
 | 0,s=>by simp only[zlE,zeV,zf9]
 | f+1,s=>by
  simp only[zlE,zeV,zf9,zlV,zms bar P ops f,zos,zjL,zpH,zot,zkr];rfl
def zs1{β:Type}(n:Nat)(k:List Bool→β):β:=zmW (List.replicate n false) k
def zgW(bar:Bool)(P:Program)(ops:Array Oper):Option (List Nat×List Nat):=
 if Region.noSelect ops && zgs ops && zs4 P ops then zs1 ops.size fun s=>zlE bar P ops ops.size s else none
theorem zlD(bar:Bool)(P:Program)(ops:Array Oper):zgW bar P ops=zsL bar P ops:=by
 unfold zgW zsL zs1;simp only[zkw,zms];rw[show(List.replicate ops.size false).toArray=Array.replicate ops.size false by simp]
def zev(P:Program)(N:Nat):Code→C
 | .skip=>.skip
 | .region _ ops false=>bif ops.all (fun o=>zgJ N o.dst)then .reg false false (ops.toList.map (irO P N ops))else .bad
 | .region _ ops true=>bif ops.all (fun o=>zgJ N o.dst)then(match zgW false P ops with
  | some (l,l')=>.reg true false ((l ++ l').flatMap (zk8 P N ops))
  | none=>(match zgW true P ops with
   | some (l,l')=>.reg true true ((l ++ l').flatMap (zk8 P N ops))
   | none=>.bad))else .bad
 | .seq a b=>.seq (zev P N a) (zev P N b)
 | .cond c a b=>.cond (opX c) (zev P N a) (zev P N b)
 | .block id c=>.block id (zev P N c)
 | .loop c=>.loop (zev P N c)
 | .rangeFunc x ps a b=>.zdT (opX x) ps.toList (zev P N a) (zev P N b)
 | .exit id=>.exit id
 | .scope c=>.scope (zev P N c)
 | .label l=>.label l
 | .ret=>.ret
 | _=>.bad
theorem zqd(P:Program)(N:Nat)(c:Code):zev P N c=comp P N c:=by
 induction c with
 | region id ops dr=>cases dr<;>simp only[zev,comp,zlD]<;>rfl
 | seq a b iha ihb=>simp only[zev,comp,iha,ihb]
 | cond x a b iha ihb=>simp only[zev,comp,iha,ihb]
 | block id c ih=>simp only[zev,comp,ih]
 | loop c ih=>simp only[zev,comp,ih]
 | rangeFunc x ps a b iha ihb=>simp only[zev,comp,iha,ihb]
 | scope c ih=>simp only[zev,comp,ih]
 | _=>rfl
def zj2(P:Program)(f:Nat):Option Fn:=
 match P.funcs[f]? with
 | some fn=>(match fn.body with
  | some c=>bif !wrF f && !(fn.name == "runtime.NumGoroutine") && fn.results.toList.all (zjS P)then some ⟨fn.ntmps,zev P fn.ntmps c,fn.results.toList.map (zkU P),false⟩else none
  | none=>none)
 | none=>none
theorem zpG(P:Program)(f:Nat):zj2 P f=zhY P f:=by
 unfold zj2 zhY;simp only[zqd];rfl
theorem zrv{P:Program}{f:Nat}{fn:Fn}(h:zhY P f=some fn):fn.p=false:=by
 unfold zhY at h;split at h
 ·split at h
  ·simp only[cond_eq_ite]at h;split at h
   ·cases h; rfl
   cases h
  cases h
 cases h
end Go.Mx
