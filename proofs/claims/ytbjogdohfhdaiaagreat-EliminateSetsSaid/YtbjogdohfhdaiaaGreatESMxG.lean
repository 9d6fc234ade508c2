/-
 The order of a region once more, for the kernel. Conditions: none.
-/
import Derived.Test.YtbjogdohfhdaiaaGreatESMx14
set_option linter.unusedSimpArgs false
set_option linter.unusedVariables false
namespace Go.Mx
open Go
def zre:List Bool→Nat→Bool→Bool
 | [],_,d=>d
 | x :: r,n,d=>match n with
  | .zero=>x
  | .succ m=>zre r m d
theorem zgO:∀(l:List Bool) (n:Nat) (d:Bool),zre l n d=l.toArray.getD n d
 | [],n,d=>by simp[zre]
 | x :: r,0,d=>by simp[zre]
 | x :: r,n+1,d=>by
  simp only[zre,zgO r n d];simp[qcG]
def zwY:List Edge→List Nat
 | []=>[]
 | e :: r=>bif Region.binds .any e then e.on :: zwY r else zwY r
def zxT(o:Oper):List Nat:=zwY o.after.toList
def zwR(p:Nat→Bool):List Nat→Bool
 | []=>false
 | d :: r=>bif p d then true else zwR p r
def zyz(p:Nat→Bool):List Nat→Bool
 | []=>true
 | d :: r=>bif p d then zyz p r else false
theorem zru(p:Nat→Bool):∀ l:List Edge,l.any (fun e=>Region.binds .any e && p e.on)=zwR p (zwY l)
 | []=>rfl
 | e :: r=>by
  simp only[List.any_cons,zru p r,zwY];cases h1:Region.binds .any e with
  | false=>rfl
  | true=>simp only[cond_true,zwR,qbF]; cases p e.on<;>rfl
theorem zrQ(p:Nat→Bool):∀ l:List Edge,l.all (fun e=>!Region.binds .any e || p e.on)=zyz p (zwY l)
 | []=>rfl
 | e :: r=>by
  simp only[List.all_cons,zrQ p r,zwY];cases h1:Region.binds .any e with
  | false=>rfl
  | true=>simp only[cond_true,zyz,qa8,qcV]; cases p e.on<;>rfl
theorem zon(o:Oper)(p:Nat→Bool):(o.after.any fun e=>Region.binds .any e && p e.on)=zwR p (zxT o):=by
 rw[← Array.any_toList,zru]; rfl
theorem zum(o:Oper)(p:Nat→Bool):(o.after.all fun e=>!Region.binds .any e || p e.on)=zyz p (zxT o):=by
 rw[← Array.all_toList,zrQ]; rfl
def zhk(ops:Array Oper)(l:List Bool):List Nat:=
 (List.range ops.size).filter fun i=>bif zre l i true then false else(match ops[i]? with | some o=>zyz (fun d=>zre l d false) (zxT o)| none=>false)
theorem zgH(ops:Array Oper)(l:List Bool):zhk ops l=Region.ready .any ops l.toArray:=by
 unfold zhk Region.ready;congr 1
 funext i
 rw[zgO];cases l.toArray.getD i true with
 | true=>rfl
 | false=>
  cases ops[i]? with
  | none=>rfl
  | some o=>
   simp only[cond_false,qbO,qbF,qaU,qbd];rw[← zum];congr 1
   funext e
   rw[zgO]
def zrb(ops:Array Oper)(l:List Bool)(i:Nat):Bool:=
 match ops[i]? with
 | none=>false
 | some oi=>(List.range ops.size).all fun j=>bif j == i then true else bif zre l j true then true else(match ops[j]? with
   | some oj=>bif zwR (fun d=>d == i) (zxT oj)then true else oi.apart ops oj
   | none=>true)
theorem zke(ops:Array Oper)(l:List Bool)(i:Nat):zrb ops l i=Region.free .any ops l.toArray i:=by
 unfold zrb Region.free;cases ops[i]? with
 | none=>rfl
 | some oi=>
  simp only;congr 1
  funext j
  rw[zgO];cases(j == i)with
  | true=>rfl
  | false=>
   cases l.toArray.getD j true with
   | true=>rfl
   | false=>
    simp only[cond_false,qcV];cases ops[j]? with
    | none=>rfl
    | some oj=>
     simp only;have h:=zon oj (fun d=>d == i);rw[h];cases zwR (fun d=>d == i) (zxT oj)<;> rfl
def zzz(bar:Bool)(P:Program)(ops:Array Oper)(s:List Bool)(l:List Nat)(n:Nat):Bool:=
 l.contains n && (zfs bar (zcG P ops n)|| zqp P ops n) && (l.all fun i=>i == n || (alI (zcG P ops i) && zrb ops s i)) &&
 (alI (zcG P ops n)|| zqp P ops n || (l.all fun i=>i == n || zkY (zcG P ops i))) &&
 ((List.range ops.size).all fun k=>bif zre s k true then true else bif l.contains k then true else(match ops[k]? with
  | some o=>zwR (fun d=>bif zre s d false then false else(d == n || !l.contains d)) (zxT o)
  | none=>true))
theorem zth(bar:Bool)(P:Program)(ops:Array Oper)(s:List Bool)(l:List Nat)(n:Nat):zzz bar P ops s l n=okN bar P ops s.toArray l n:=by
 unfold zzz okN;congr 1
 ·congr 2
  congr 1
  funext i
  rw[zke]
 congr 1
 funext k
 rw[zgO];cases s.toArray.getD k true with
 | true=>rfl
 | false=>
  cases l.contains k with
  | true=>rfl
  | false=>
   simp only[cond_false,qcV];cases ops[k]? with
   | none=>rfl
   | some o=>
    simp only;have h:=zon o (fun d=>bif zre s d false then false else(d == n || !l.contains d));rw[← h];congr 1
    funext e
    rw[zgO];cases Region.binds .any e<;>cases s.toArray.getD e.on false<;>rfl
def zjJ(bar:Bool)(P:Program)(ops:Array Oper)(s:List Bool)(l:List Nat):Nat:=
 match l.find? fun i=>!alI (zcG P ops i)with
 | some i=>i
 | none=>match l.find? fun i=>!zkY (zcG P ops i) && zzz bar P ops s l i with
  | some i=>i
  | none=>(l.find? fun i=>zzz bar P ops s l i).getD 0
theorem ztc(bar:Bool)(P:Program)(ops:Array Oper)(s:List Bool)(l:List Nat):zjJ bar P ops s l=zkg bar P ops s.toArray l:=by
 unfold zjJ zkg;simp only[zth];rfl
theorem zrK(l:List Bool)(i:Nat):l.toArray.setIfInBounds i true=(l.set i true).toArray:=by simp
def zjf(P:Program)(ops:Array Oper):Nat→List Bool→Option (List Nat)
 | 0,s=>if(zhk ops s).isEmpty then some []else none
 | f+1,s=>
  match (zhk ops s).find? fun i=>zag (zcG P ops i) && zrb ops s i && !zvX ops i with
  | some i=>(zsf s i true fun s'=>zjf P ops f s').map (i :: ·)
  | none=>match zhk ops s with
   | []=>some []
   | [i]=>(zsf s i true fun s'=>zjf P ops f s').map (i :: ·)
   | _=>none
theorem zl7(P:Program)(ops:Array Oper):∀(f:Nat) (s:List Bool),zjf P ops f s=zkA P ops f s.toArray
 | 0,s=>by simp only[zjf,zkA,zgH]
 | f+1,s=>by
  simp only[zjf,zkA,zgH,zkF,zl7 P ops f,zrK,zke];rfl
def znz(bar:Bool)(P:Program)(ops:Array Oper):Nat→List Bool→Option (List Nat×List Nat)
 | 0,s=>if(zhk ops s).isEmpty then some ([],[])else none
 | f+1,s=>
  match (zhk ops s).find? fun i=>zag (zcG P ops i) && zrb ops s i && (!zvX ops i || zuf bar P ops s.toArray i)with
  | some i=>(zsf s i true fun s'=>znz bar P ops f s').map fun r=>(i :: r.1,r.2)
  | none=>match zhk ops s with
   | []=>some ([],[])
   | [i]=>bif zfs bar (zcG P ops i)|| wrI (zcG P ops i)then(zsf s i true fun s'=>znz bar P ops f s').map fun r=>(i :: r.1,r.2)else(zjf P ops (f+1) s).map fun r=>([],r)
   | i :: j :: l=>bif zzz bar P ops s (i :: j :: l) (zjJ bar P ops s (i :: j :: l))then
     (match zsf s (zjJ bar P ops s (i :: j :: l)) true fun s'=>znz bar P ops f s' with
     | some r=>bif okF P ops (i :: j :: l) (zjJ bar P ops s (i :: j :: l)) r.1 then some (zjJ bar P ops s (i :: j :: l):: r.1,r.2)else none
     | none=>none)else none
theorem zn6(bar:Bool)(P:Program)(ops:Array Oper):∀(f:Nat) (s:List Bool),znz bar P ops f s=zeV bar P ops f s.toArray
 | 0,s=>by simp only[znz,zeV,zgH]
 | f+1,s=>by
  simp only[znz,zeV,zgH,zkF,zn6 bar P ops f,zrK,zke,zth,ztc,zl7];rfl
def zy1{β:Type}(n:Nat)(k:List Bool→β):β:=zcH (List.replicate n false) k
def zhy(bar:Bool)(P:Program)(ops:Array Oper):Option (List Nat×List Nat):=
 if Region.noSelect ops && zgN ops && zzn P ops then zy1 ops.size fun s=>znz bar P ops ops.size s else none
theorem znn(bar:Bool)(P:Program)(ops:Array Oper):zhy bar P ops=zxS bar P ops:=by
 unfold zhy zxS zy1;simp only[zck,zn6];rw[show(List.replicate ops.size false).toArray=Array.replicate ops.size false by simp]
def zeG(P:Program)(N:Nat):Code→C
 | .skip=>.skip
 | .region _ ops false=>bif ops.all (fun o=>zhr N o.dst)then .reg false false (ops.toList.map (irO P N ops))else .bad
 | .region _ ops true=>bif ops.all (fun o=>zhr N o.dst)then(match zhy false P ops with
  | some (l,l')=>.reg true false ((l ++ l').flatMap (zmS P N ops))
  | none=>(match zhy true P ops with
   | some (l,l')=>.reg true true ((l ++ l').flatMap (zmS P N ops))
   | none=>.bad))else .bad
 | .seq a b=>.seq (zeG P N a) (zeG P N b)
 | .cond c a b=>.cond (opX c) (zeG P N a) (zeG P N b)
 | .block id c=>.block id (zeG P N c)
 | .loop c=>.loop (zeG P N c)
 | .rangeFunc x ps a b=>.zdN (opX x) ps.toList (zeG P N a) (zeG P N b)
 | .exit id=>.exit id
 | .scope c=>.scope (zeG P N c)
 | .label l=>.label l
 | .ret=>.ret
 | _=>.bad
theorem zuE(P:Program)(N:Nat)(c:Code):zeG P N c=comp P N c:=by
 induction c with
 | region id ops dr=>cases dr<;>simp only[zeG,comp,znn]<;>rfl
 | seq a b iha ihb=>simp only[zeG,comp,iha,ihb]
 | cond x a b iha ihb=>simp only[zeG,comp,iha,ihb]
 | block id c ih=>simp only[zeG,comp,ih]
 | loop c ih=>simp only[zeG,comp,ih]
 | rangeFunc x ps a b iha ihb=>simp only[zeG,comp,iha,ihb]
 | scope c ih=>simp only[zeG,comp,ih]
 | _=>rfl
def zjG(P:Program)(f:Nat):Option Fn:=
 match P.funcs[f]? with
 | some fn=>(match fn.body with
  | some c=>bif !wrF f && !(fn.name == "runtime.NumGoroutine") && fn.results.toList.all (zmM P)then some ⟨fn.ntmps,zeG P fn.ntmps c,fn.results.toList.map (zlt P),false⟩else none
  | none=>none)
 | none=>none
theorem zlv(P:Program)(f:Nat):zjG P f=ziJ P f:=by
 unfold zjG ziJ;simp only[zuE];rfl
def zyv(P:Program)(l:List Nat)(f:Nat):Option Fn:=
 match zjG P f with
 | some fn=>some ⟨fn.N,fn.c,fn.rs,l.any fun i=>Nat.beq i f⟩
 | none=>none
theorem zs1{P:Program}{f:Nat}{fn:Fn}(h:ziJ P f=some fn):fn.p=false:=by
 unfold ziJ at h;split at h
 ·split at h
  ·simp only[cond_eq_ite]at h;split at h
   ·cases h; rfl
   cases h
  cases h
 cases h
theorem zwN{P:Program}{l:List Nat}(f:Nat)(fn:Fn)(h:zyv P l f=some fn):zk6 P f fn:=by
 unfold zyv at h;rw[zlv]at h;cases hc:ziJ P f with
 | none=>rw[hc]at h; cases h
 | some g=>
  rw[hc]at h;cases h;have hp:=zs1 hc;unfold zk6;rw[hc];cases g;simp only at hp;subst hp;rfl
end Go.Mx
namespace Go.Mx
open Go
def zmJ{P:Program}{l:List Nat}:List ((f:Nat)×{ y:Option Fn // y=zyv P l f })→Nat→Option Fn
 | [],_=>none
 | ⟨k,y,_⟩:: r,f=>bif Nat.beq k f then y else zmJ r f
theorem zfg{P:Program}{l:List Nat}:∀(t:List ((f:Nat)×{ y:Option Fn // y=zyv P l f })) (f:Nat) (fn:Fn),zmJ t f=some fn→zk6 P f fn
 | [],f,fn,h=>by cases h
 | ⟨k,y,hy⟩:: r,f,fn,h=>by
  simp only[zmJ]at h;cases hb:Nat.beq k f with
  | true=>
   simp only[hb,cond_true]at h;have:=qaE hb;subst this; subst h;exact zwN _ _ hy.symm
  | false=>
   simp only[hb,cond_false]at h;exact zfg r f fn h
end Go.Mx
