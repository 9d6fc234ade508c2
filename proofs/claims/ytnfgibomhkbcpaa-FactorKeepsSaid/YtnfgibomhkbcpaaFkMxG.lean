/-
 The order of a region once more, for the kernel. Conditions: none.
-/
import Derived.Test.YtnfgibomhkbcpaaFkMx14
set_option linter.unusedSimpArgs false
set_option linter.unusedVariables false
namespace Go.Mx
open Go
def zo6:List Bool→Nat→Bool→Bool
 | [],_,d=>d
 | x :: r,n,d=>match n with
  | .zero=>x
  | .succ m=>zo6 r m d
theorem zgB:∀(l:List Bool) (n:Nat) (d:Bool),zo6 l n d=l.toArray.getD n d
 | [],n,d=>by simp[zo6]
 | x :: r,0,d=>by simp[zo6]
 | x :: r,n+1,d=>by
  simp only[zo6,zgB r n d];simp[qbM]
def zsb:List Edge→List Nat
 | []=>[]
 | e :: r=>bif Region.binds .any e then e.on :: zsb r else zsb r
def zst(o:Oper):List Nat:=zsb o.after.toList
def zrK(p:Nat→Bool):List Nat→Bool
 | []=>false
 | d :: r=>bif p d then true else zrK p r
def zty(p:Nat→Bool):List Nat→Bool
 | []=>true
 | d :: r=>bif p d then zty p r else false
theorem zpA(p:Nat→Bool):∀ l:List Edge,l.any (fun e=>Region.binds .any e && p e.on)=zrK p (zsb l)
 | []=>rfl
 | e :: r=>by
  simp only[List.any_cons,zpA p r,zsb];cases h1:Region.binds .any e with
  | false=>rfl
  | true=>simp only[cond_true,zrK,qaS]; cases p e.on<;>rfl
theorem zoa(p:Nat→Bool):∀ l:List Edge,l.all (fun e=>!Region.binds .any e || p e.on)=zty p (zsb l)
 | []=>rfl
 | e :: r=>by
  simp only[List.all_cons,zoa p r,zsb];cases h1:Region.binds .any e with
  | false=>rfl
  | true=>simp only[cond_true,zty,qaP,qbX]; cases p e.on<;>rfl
theorem zmq(o:Oper)(p:Nat→Bool):(o.after.any fun e=>Region.binds .any e && p e.on)=zrK p (zst o):=by
 rw[← Array.any_toList,zpA]; rfl
theorem zp6(o:Oper)(p:Nat→Bool):(o.after.all fun e=>!Region.binds .any e || p e.on)=zty p (zst o):=by
 rw[← Array.all_toList,zoa]; rfl
def zgH(ops:Array Oper)(l:List Bool):List Nat:=
 (List.range ops.size).filter fun i=>bif zo6 l i true then false else(match ops[i]? with | some o=>zty (fun d=>zo6 l d false) (zst o)| none=>false)
theorem zf4(ops:Array Oper)(l:List Bool):zgH ops l=Region.ready .any ops l.toArray:=by
 unfold zgH Region.ready;congr 1
 funext i
 rw[zgB];cases l.toArray.getD i true with
 | true=>rfl
 | false=>
  cases ops[i]? with
  | none=>rfl
  | some o=>
   simp only[cond_false,qbk,qaS,qaG,qbl];rw[← zp6];congr 1
   funext e
   rw[zgB]
def znQ(ops:Array Oper)(l:List Bool)(i:Nat):Bool:=
 match ops[i]? with
 | none=>false
 | some oi=>(List.range ops.size).all fun j=>bif j == i then true else bif zo6 l j true then true else(match ops[j]? with
   | some oj=>bif zrK (fun d=>d == i) (zst oj)then true else oi.apart ops oj
   | none=>true)
theorem zjd(ops:Array Oper)(l:List Bool)(i:Nat):znQ ops l i=Region.free .any ops l.toArray i:=by
 unfold znQ Region.free;cases ops[i]? with
 | none=>rfl
 | some oi=>
  simp only;congr 1
  funext j
  rw[zgB];cases(j == i)with
  | true=>rfl
  | false=>
   cases l.toArray.getD j true with
   | true=>rfl
   | false=>
    simp only[cond_false,qbX];cases ops[j]? with
    | none=>rfl
    | some oj=>
     simp only;have h:=zmq oj (fun d=>d == i);rw[h];cases zrK (fun d=>d == i) (zst oj)<;> rfl
def ztK(bar:Bool)(P:Program)(ops:Array Oper)(s:List Bool)(l:List Nat)(n:Nat):Bool:=
 l.contains n && (zfi bar (zcL P ops n)|| zm3 P ops n) && (l.all fun i=>i == n || (alI (zcL P ops i) && znQ ops s i)) &&
 (alI (zcL P ops n)|| zm3 P ops n || (l.all fun i=>i == n || ziO (zcL P ops i))) &&
 ((List.range ops.size).all fun k=>bif zo6 s k true then true else bif l.contains k then true else(match ops[k]? with
  | some o=>zrK (fun d=>bif zo6 s d false then false else(d == n || !l.contains d)) (zst o)
  | none=>true))
theorem zos(bar:Bool)(P:Program)(ops:Array Oper)(s:List Bool)(l:List Nat)(n:Nat):ztK bar P ops s l n=okN bar P ops s.toArray l n:=by
 unfold ztK okN;congr 1
 ·congr 2
  congr 1
  funext i
  rw[zjd]
 congr 1
 funext k
 rw[zgB];cases s.toArray.getD k true with
 | true=>rfl
 | false=>
  cases l.contains k with
  | true=>rfl
  | false=>
   simp only[cond_false,qbX];cases ops[k]? with
   | none=>rfl
   | some o=>
    simp only;have h:=zmq o (fun d=>bif zo6 s d false then false else(d == n || !l.contains d));rw[← h];congr 1
    funext e
    rw[zgB];cases Region.binds .any e<;>cases s.toArray.getD e.on false<;>rfl
def zh8(bar:Bool)(P:Program)(ops:Array Oper)(s:List Bool)(l:List Nat):Nat:=
 match l.find? fun i=>!alI (zcL P ops i)with
 | some i=>i
 | none=>match l.find? fun i=>!ziO (zcL P ops i) && ztK bar P ops s l i with
  | some i=>i
  | none=>(l.find? fun i=>ztK bar P ops s l i).getD 0
theorem zon(bar:Bool)(P:Program)(ops:Array Oper)(s:List Bool)(l:List Nat):zh8 bar P ops s l=zjH bar P ops s.toArray l:=by
 unfold zh8 zjH;simp only[zos];rfl
theorem zpI(l:List Bool)(i:Nat):l.toArray.setIfInBounds i true=(l.set i true).toArray:=by simp
def zim(P:Program)(ops:Array Oper):Nat→List Bool→Option (List Nat)
 | 0,s=>if(zgH ops s).isEmpty then some []else none
 | f+1,s=>
  match (zgH ops s).find? fun i=>zal (zcL P ops i) && znQ ops s i && !zqS ops i with
  | some i=>(zp1 s i true fun s'=>zim P ops f s').map (i :: ·)
  | none=>match zgH ops s with
   | []=>some []
   | [i]=>(zp1 s i true fun s'=>zim P ops f s').map (i :: ·)
   | _=>none
theorem zkL(P:Program)(ops:Array Oper):∀(f:Nat) (s:List Bool),zim P ops f s=zi9 P ops f s.toArray
 | 0,s=>by simp only[zim,zi9,zf4]
 | f+1,s=>by
  simp only[zim,zi9,zf4,zlt,zkL P ops f,zpI,zjd];rfl
def zlo(bar:Bool)(P:Program)(ops:Array Oper):Nat→List Bool→Option (List Nat×List Nat)
 | 0,s=>if(zgH ops s).isEmpty then some ([],[])else none
 | f+1,s=>
  match (zgH ops s).find? fun i=>zal (zcL P ops i) && znQ ops s i && (!zqS ops i || zqj bar P ops s.toArray i)with
  | some i=>(zp1 s i true fun s'=>zlo bar P ops f s').map fun r=>(i :: r.1,r.2)
  | none=>match zgH ops s with
   | []=>some ([],[])
   | [i]=>bif zfi bar (zcL P ops i)|| wrI (zcL P ops i)then(zp1 s i true fun s'=>zlo bar P ops f s').map fun r=>(i :: r.1,r.2)else(zim P ops (f+1) s).map fun r=>([],r)
   | i :: j :: l=>bif ztK bar P ops s (i :: j :: l) (zh8 bar P ops s (i :: j :: l))then
     (match zp1 s (zh8 bar P ops s (i :: j :: l)) true fun s'=>zlo bar P ops f s' with
     | some r=>bif okF P ops (i :: j :: l) (zh8 bar P ops s (i :: j :: l)) r.1 then some (zh8 bar P ops s (i :: j :: l):: r.1,r.2)else none
     | none=>none)else none
theorem zmP(bar:Bool)(P:Program)(ops:Array Oper):∀(f:Nat) (s:List Bool),zlo bar P ops f s=zeJ bar P ops f s.toArray
 | 0,s=>by simp only[zlo,zeJ,zf4]
 | f+1,s=>by
  simp only[zlo,zeJ,zf4,zlt,zmP bar P ops f,zpI,zjd,zos,zon,zkL];rfl
def zsI{β:Type}(n:Nat)(k:List Bool→β):β:=zmG (List.replicate n false) k
def zgY(bar:Bool)(P:Program)(ops:Array Oper):Option (List Nat×List Nat):=
 if Region.noSelect ops && zgw ops && ztk P ops then zsI ops.size fun s=>zlo bar P ops ops.size s else none
theorem zl7(bar:Bool)(P:Program)(ops:Array Oper):zgY bar P ops=zsA bar P ops:=by
 unfold zgY zsA zsI;simp only[zki,zmP];rw[show(List.replicate ops.size false).toArray=Array.replicate ops.size false by simp]
def zeG(P:Program)(N:Nat):Code→C
 | .skip=>.skip
 | .region _ ops false=>bif ops.all (fun o=>zgV N o.dst)then .reg false false (ops.toList.map (irO P N ops))else .bad
 | .region _ ops true=>bif ops.all (fun o=>zgV N o.dst)then(match zgY false P ops with
  | some (l,l')=>.reg true false ((l ++ l').flatMap (zlb P N ops))
  | none=>(match zgY true P ops with
   | some (l,l')=>.reg true true ((l ++ l').flatMap (zlb P N ops))
   | none=>.bad))else .bad
 | .seq a b=>.seq (zeG P N a) (zeG P N b)
 | .cond c a b=>.cond (opX c) (zeG P N a) (zeG P N b)
 | .block id c=>.block id (zeG P N c)
 | .loop c=>.loop (zeG P N c)
 | .rangeFunc x ps a b=>.zd4 (opX x) ps.toList (zeG P N a) (zeG P N b)
 | .exit id=>.exit id
 | .scope c=>.scope (zeG P N c)
 | .label l=>.label l
 | .ret=>.ret
 | _=>.bad
theorem zqf(P:Program)(N:Nat)(c:Code):zeG P N c=comp P N c:=by
 induction c with
 | region id ops dr=>cases dr<;>simp only[zeG,comp,zl7]<;>rfl
 | seq a b iha ihb=>simp only[zeG,comp,iha,ihb]
 | cond x a b iha ihb=>simp only[zeG,comp,iha,ihb]
 | block id c ih=>simp only[zeG,comp,ih]
 | loop c ih=>simp only[zeG,comp,ih]
 | rangeFunc x ps a b iha ihb=>simp only[zeG,comp,iha,ihb]
 | scope c ih=>simp only[zeG,comp,ih]
 | _=>rfl
def zkH(P:Program)(f:Nat):Option Fn:=
 match P.funcs[f]? with
 | some fn=>(match fn.body with
  | some c=>bif !wrF f && !(fn.name == "runtime.NumGoroutine") && fn.results.toList.all (zkZ P)then some ⟨fn.ntmps,zeG P fn.ntmps c,fn.results.toList.map (zkM P),false⟩else none
  | none=>none)
 | none=>none
theorem zpw(P:Program)(f:Nat):zkH P f=zhY P f:=by
 unfold zkH zhY;simp only[zqf];rfl
theorem zse{P:Program}{f:Nat}{fn:Fn}(h:zhY P f=some fn):fn.p=false:=by
 unfold zhY at h;split at h
 ·split at h
  ·simp only[cond_eq_ite]at h;split at h
   ·cases h; rfl
   cases h
  cases h
 cases h
end Go.Mx
