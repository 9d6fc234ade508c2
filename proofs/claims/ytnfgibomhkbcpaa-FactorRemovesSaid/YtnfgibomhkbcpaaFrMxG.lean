/-
 The order of a region once more, for the kernel. Conditions: none.
-/
import Derived.Test.YtnfgibomhkbcpaaFrMx14
set_option linter.unusedSimpArgs false
set_option linter.unusedVariables false
namespace Go.Mx
open Go
def zoN:List Bool→Nat→Bool→Bool
 | [],_,d=>d
 | x :: r,n,d=>match n with
  | .zero=>x
  | .succ m=>zoN r m d
theorem zgV:∀(l:List Bool) (n:Nat) (d:Bool),zoN l n d=l.toArray.getD n d
 | [],n,d=>by simp[zoN]
 | x :: r,0,d=>by simp[zoN]
 | x :: r,n+1,d=>by
  simp only[zoN,zgV r n d];simp[qbY]
def zr7:List Edge→List Nat
 | []=>[]
 | e :: r=>bif Region.binds .any e then e.on :: zr7 r else zr7 r
def ztm(o:Oper):List Nat:=zr7 o.after.toList
def zr1(p:Nat→Bool):List Nat→Bool
 | []=>false
 | d :: r=>bif p d then true else zr1 p r
def zup(p:Nat→Bool):List Nat→Bool
 | []=>true
 | d :: r=>bif p d then zup p r else false
theorem zpr(p:Nat→Bool):∀ l:List Edge,l.any (fun e=>Region.binds .any e && p e.on)=zr1 p (zr7 l)
 | []=>rfl
 | e :: r=>by
  simp only[List.any_cons,zpr p r,zr7];cases h1:Region.binds .any e with
  | false=>rfl
  | true=>simp only[cond_true,zr1,qa2]; cases p e.on<;>rfl
theorem zpt(p:Nat→Bool):∀ l:List Edge,l.all (fun e=>!Region.binds .any e || p e.on)=zup p (zr7 l)
 | []=>rfl
 | e :: r=>by
  simp only[List.all_cons,zpt p r,zr7];cases h1:Region.binds .any e with
  | false=>rfl
  | true=>simp only[cond_true,zup,qaS,qb7]; cases p e.on<;>rfl
theorem znk(o:Oper)(p:Nat→Bool):(o.after.any fun e=>Region.binds .any e && p e.on)=zr1 p (ztm o):=by
 rw[← Array.any_toList,zpr]; rfl
theorem zq7(o:Oper)(p:Nat→Bool):(o.after.all fun e=>!Region.binds .any e || p e.on)=zup p (ztm o):=by
 rw[← Array.all_toList,zpt]; rfl
def zg6(ops:Array Oper)(l:List Bool):List Nat:=
 (List.range ops.size).filter fun i=>bif zoN l i true then false else(match ops[i]? with | some o=>zup (fun d=>zoN l d false) (ztm o)| none=>false)
theorem zgt(ops:Array Oper)(l:List Bool):zg6 ops l=Region.ready .any ops l.toArray:=by
 unfold zg6 Region.ready;congr 1
 funext i
 rw[zgV];cases l.toArray.getD i true with
 | true=>rfl
 | false=>
  cases ops[i]? with
  | none=>rfl
  | some o=>
   simp only[cond_false,qbx,qa2,qaK,qbi];rw[← zq7];congr 1
   funext e
   rw[zgV]
def zql(ops:Array Oper)(l:List Bool)(i:Nat):Bool:=
 match ops[i]? with
 | none=>false
 | some oi=>(List.range ops.size).all fun j=>bif j == i then true else bif zoN l j true then true else(match ops[j]? with
   | some oj=>bif zr1 (fun d=>d == i) (ztm oj)then true else oi.apart ops oj
   | none=>true)
theorem zjD(ops:Array Oper)(l:List Bool)(i:Nat):zql ops l i=Region.free .any ops l.toArray i:=by
 unfold zql Region.free;cases ops[i]? with
 | none=>rfl
 | some oi=>
  simp only;congr 1
  funext j
  rw[zgV];cases(j == i)with
  | true=>rfl
  | false=>
   cases l.toArray.getD j true with
   | true=>rfl
   | false=>
    simp only[cond_false,qb7];cases ops[j]? with
    | none=>rfl
    | some oj=>
     simp only;have h:=znk oj (fun d=>d == i);rw[h];cases zr1 (fun d=>d == i) (ztm oj)<;> rfl
def zt0(bar:Bool)(P:Program)(ops:Array Oper)(s:List Bool)(l:List Nat)(n:Nat):Bool:=
 l.contains n && (zfI bar (zcW P ops n)|| znR P ops n) && (l.all fun i=>i == n || (alI (zcW P ops i) && zql ops s i)) &&
 (alI (zcW P ops n)|| znR P ops n || (l.all fun i=>i == n || zj5 (zcW P ops i))) &&
 ((List.range ops.size).all fun k=>bif zoN s k true then true else bif l.contains k then true else(match ops[k]? with
  | some o=>zr1 (fun d=>bif zoN s d false then false else(d == n || !l.contains d)) (ztm o)
  | none=>true))
theorem zqj(bar:Bool)(P:Program)(ops:Array Oper)(s:List Bool)(l:List Nat)(n:Nat):zt0 bar P ops s l n=okN bar P ops s.toArray l n:=by
 unfold zt0 okN;congr 1
 ·congr 2
  congr 1
  funext i
  rw[zjD]
 congr 1
 funext k
 rw[zgV];cases s.toArray.getD k true with
 | true=>rfl
 | false=>
  cases l.contains k with
  | true=>rfl
  | false=>
   simp only[cond_false,qb7];cases ops[k]? with
   | none=>rfl
   | some o=>
    simp only;have h:=znk o (fun d=>bif zoN s d false then false else(d == n || !l.contains d));rw[← h];congr 1
    funext e
    rw[zgV];cases Region.binds .any e<;>cases s.toArray.getD e.on false<;>rfl
def ziK(bar:Bool)(P:Program)(ops:Array Oper)(s:List Bool)(l:List Nat):Nat:=
 match l.find? fun i=>!alI (zcW P ops i)with
 | some i=>i
 | none=>match l.find? fun i=>!zj5 (zcW P ops i) && zt0 bar P ops s l i with
  | some i=>i
  | none=>(l.find? fun i=>zt0 bar P ops s l i).getD 0
theorem zoS(bar:Bool)(P:Program)(ops:Array Oper)(s:List Bool)(l:List Nat):ziK bar P ops s l=zkm bar P ops s.toArray l:=by
 unfold ziK zkm;simp only[zqj];rfl
theorem zoV(l:List Bool)(i:Nat):l.toArray.setIfInBounds i true=(l.set i true).toArray:=by simp
def ziz(P:Program)(ops:Array Oper):Nat→List Bool→Option (List Nat)
 | 0,s=>if(zg6 ops s).isEmpty then some []else none
 | f+1,s=>
  match (zg6 ops s).find? fun i=>zal (zcW P ops i) && zql ops s i && !zrr ops i with
  | some i=>(zqy s i true fun s'=>ziz P ops f s').map (i :: ·)
  | none=>match zg6 ops s with
   | []=>some []
   | [i]=>(zqy s i true fun s'=>ziz P ops f s').map (i :: ·)
   | _=>none
theorem zln(P:Program)(ops:Array Oper):∀(f:Nat) (s:List Bool),ziz P ops f s=zjC P ops f s.toArray
 | 0,s=>by simp only[ziz,zjC,zgt]
 | f+1,s=>by
  simp only[ziz,zjC,zgt,zmA,zln P ops f,zoV,zjD];rfl
def zmi(bar:Bool)(P:Program)(ops:Array Oper):Nat→List Bool→Option (List Nat×List Nat)
 | 0,s=>if(zg6 ops s).isEmpty then some ([],[])else none
 | f+1,s=>
  match (zg6 ops s).find? fun i=>zal (zcW P ops i) && zql ops s i && (!zrr ops i || zqE bar P ops s.toArray i)with
  | some i=>(zqy s i true fun s'=>zmi bar P ops f s').map fun r=>(i :: r.1,r.2)
  | none=>match zg6 ops s with
   | []=>some ([],[])
   | [i]=>bif zfI bar (zcW P ops i)|| wrI (zcW P ops i)then(zqy s i true fun s'=>zmi bar P ops f s').map fun r=>(i :: r.1,r.2)else(ziz P ops (f+1) s).map fun r=>([],r)
   | i :: j :: l=>bif zt0 bar P ops s (i :: j :: l) (ziK bar P ops s (i :: j :: l))then
     (match zqy s (ziK bar P ops s (i :: j :: l)) true fun s'=>zmi bar P ops f s' with
     | some r=>bif okF P ops (i :: j :: l) (ziK bar P ops s (i :: j :: l)) r.1 then some (ziK bar P ops s (i :: j :: l):: r.1,r.2)else none
     | none=>none)else none
theorem znt(bar:Bool)(P:Program)(ops:Array Oper):∀(f:Nat) (s:List Bool),zmi bar P ops f s=ze6 bar P ops f s.toArray
 | 0,s=>by simp only[zmi,ze6,zgt]
 | f+1,s=>by
  simp only[zmi,ze6,zgt,zmA,znt bar P ops f,zoV,zjD,zqj,zoS,zln];rfl
def zum{β:Type}(n:Nat)(k:List Bool→β):β:=zmR (List.replicate n false) k
def zhl(bar:Bool)(P:Program)(ops:Array Oper):Option (List Nat×List Nat):=
 if Region.noSelect ops && zgW ops && ztZ P ops then zum ops.size fun s=>zmi bar P ops ops.size s else none
theorem zlW(bar:Bool)(P:Program)(ops:Array Oper):zhl bar P ops=ztf bar P ops:=by
 unfold zhl ztf zum;simp only[zkF,znt];rw[show(List.replicate ops.size false).toArray=Array.replicate ops.size false by simp]
def zeW(P:Program)(N:Nat):Code→C
 | .skip=>.skip
 | .region _ ops false=>bif ops.all (fun o=>zhe N o.dst)then .reg false false (ops.toList.map (irO P N ops))else .bad
 | .region _ ops true=>bif ops.all (fun o=>zhe N o.dst)then(match zhl false P ops with
  | some (l,l')=>.reg true false ((l ++ l').flatMap (zlP P N ops))
  | none=>(match zhl true P ops with
   | some (l,l')=>.reg true true ((l ++ l').flatMap (zlP P N ops))
   | none=>.bad))else .bad
 | .seq a b=>.seq (zeW P N a) (zeW P N b)
 | .cond c a b=>.cond (opX c) (zeW P N a) (zeW P N b)
 | .block id c=>.block id (zeW P N c)
 | .loop c=>.loop (zeW P N c)
 | .rangeFunc x ps a b=>.zej (opX x) ps.toList (zeW P N a) (zeW P N b)
 | .exit id=>.exit id
 | .scope c=>.scope (zeW P N c)
 | .label l=>.label l
 | .ret=>.ret
 | _=>.bad
theorem zqD(P:Program)(N:Nat)(c:Code):zeW P N c=comp P N c:=by
 induction c with
 | region id ops dr=>cases dr<;>simp only[zeW,comp,zlW]<;>rfl
 | seq a b iha ihb=>simp only[zeW,comp,iha,ihb]
 | cond x a b iha ihb=>simp only[zeW,comp,iha,ihb]
 | block id c ih=>simp only[zeW,comp,ih]
 | loop c ih=>simp only[zeW,comp,ih]
 | rangeFunc x ps a b iha ihb=>simp only[zeW,comp,iha,ihb]
 | scope c ih=>simp only[zeW,comp,ih]
 | _=>rfl
def zlu(P:Program)(f:Nat):Option Fn:=
 match P.funcs[f]? with
 | some fn=>(match fn.body with
  | some c=>bif !wrF f && !(fn.name == "runtime.NumGoroutine") && fn.results.toList.all (zlD P)then some ⟨fn.ntmps,zeW P fn.ntmps c,fn.results.toList.map (zkS P),false⟩else none
  | none=>none)
 | none=>none
theorem zp4(P:Program)(f:Nat):zlu P f=zil P f:=by
 unfold zlu zil;simp only[zqD];rfl
theorem zr9{P:Program}{f:Nat}{fn:Fn}(h:zil P f=some fn):fn.p=false:=by
 unfold zil at h;split at h
 ·split at h
  ·simp only[cond_eq_ite]at h;split at h
   ·cases h; rfl
   cases h
  cases h
 cases h
end Go.Mx
