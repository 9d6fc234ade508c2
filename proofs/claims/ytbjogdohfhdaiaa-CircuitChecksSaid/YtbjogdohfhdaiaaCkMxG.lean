/-
 The order of a region once more, for the kernel. Conditions: none.
-/
import Derived.Test.YtbjogdohfhdaiaaCkMx14
set_option linter.unusedSimpArgs false
set_option linter.unusedVariables false
namespace Go.Mx
open Go
def znV:List Bool->Nat->Bool->Bool
 | [],_,d=>d
 | x :: r,n,d=>match n with
  | .zero=>x
  | .succ m=>znV r m d
theorem zf6:∀(l:List Bool) (n:Nat) (d:Bool),znV l n d=l.toArray.getD n d
 | [],n,d=>by simp[znV]
 | x :: r,0,d=>by simp[znV]
 | x :: r,n+1,d=>by
  simp only[znV,zf6 r n d];simp[qb4]
def zs3:List Edge->List Nat
 | []=>[]
 | e :: r=>bif Region.binds .any e then e.on :: zs3 r else zs3 r
def ztz(o:Oper):List Nat:=zs3 o.after.toList
def zso(p:Nat->Bool):List Nat->Bool
 | []=>false
 | d :: r=>bif p d then true else zso p r
def zuu(p:Nat->Bool):List Nat->Bool
 | []=>true
 | d :: r=>bif p d then zuu p r else false
theorem znS(p:Nat->Bool):∀ l:List Edge,l.any (λe=>Region.binds .any e && p e.on)=zso p (zs3 l)
 | []=>rfl
 | e :: r=>by
  simp only[List.any_cons,znS p r,zs3];cases h1:Region.binds .any e with
  | false=>rfl
  | true=>simp only[qcE,zso,qa0]; cases p e.on<;>rfl
theorem zox(p:Nat->Bool):∀ l:List Edge,l.all (λe=>!Region.binds .any e || p e.on)=zuu p (zs3 l)
 | []=>rfl
 | e :: r=>by
  simp only[qa7,zox p r,zs3];cases h1:Region.binds .any e with
  | false=>rfl
  | true=>simp only[qcE,zuu,qaZ,qbY]; cases p e.on<;>rfl
theorem zl9(o:Oper)(p:Nat->Bool):(o.after.any λe=>Region.binds .any e && p e.on)=zso p (ztz o):=by
 rw[<- Array.any_toList,znS]; rfl
theorem zqx(o:Oper)(p:Nat->Bool):(o.after.all λe=>!Region.binds .any e || p e.on)=zuu p (ztz o):=by
 rw[<- Array.all_toList,zox]; rfl
def zcQ(ops:Array Oper)(l:List Bool):List Nat:=
 (List.range ops.size).filter λi=>bif znV l i true then false else(match ops[i]? with | some o=>zuu (λd=>znV l d false) (ztz o)| none=>false)
theorem zfq(ops:Array Oper)(l:List Bool):zcQ ops l=Region.ready .any ops l.toArray:=by
 unfold zcQ Region.ready;congr 1
 funext i
 rw[zf6];cases l.toArray.getD i true with
 | true=>rfl
 | false=>
  cases ops[i]? with
  | none=>rfl
  | some o=>
   simp only[qcF,qbl,qa0,qaD,qba];rw[<- zqx];congr 1
   funext e
   rw[zf6]
def zir(ops:Array Oper)(l:List Bool)(i:Nat):Bool:=
 match ops[i]? with
 | none=>false
 | some oi=>(List.range ops.size).all λj=>bif j == i then true else bif znV l j true then true else(match ops[j]? with
   | some oj=>bif zso (λd=>d == i) (ztz oj)then true else oi.apart ops oj
   | none=>true)
theorem ziX(ops:Array Oper)(l:List Bool)(i:Nat):zir ops l i=Region.free .any ops l.toArray i:=by
 unfold zir Region.free;cases ops[i]? with
 | none=>rfl
 | some oi=>
  simp only;congr 1
  funext j
  rw[zf6];cases(j == i)with
  | true=>rfl
  | false=>
   cases l.toArray.getD j true with
   | true=>rfl
   | false=>
    simp only[qcF,qbY];cases ops[j]? with
    | none=>rfl
    | some oj=>
     simp only;have h:=zl9 oj (λd=>d == i);rw[h];cases zso (λd=>d == i) (ztz oj)<;> rfl
def zrr(bar:Bool)(P:Program)(ops:Array Oper)(s:List Bool)(l:List Nat)(n:Nat):Bool:=
 l.contains n && (zd0 bar (zbU P ops n)|| zmD P ops n) && (l.all λi=>i == n || (alI (zbU P ops i) && zir ops s i)) &&
 (alI (zbU P ops n)|| zmD P ops n || (l.all λi=>i == n || ziq (zbU P ops i))) &&
 ((List.range ops.size).all λk=>bif znV s k true then true else bif l.contains k then true else(match ops[k]? with
  | some o=>zso (λd=>bif znV s d false then false else(d == n || !l.contains d)) (ztz o)
  | none=>true))
theorem zoO(bar:Bool)(P:Program)(ops:Array Oper)(s:List Bool)(l:List Nat)(n:Nat):zrr bar P ops s l n=okN bar P ops s.toArray l n:=by
 unfold zrr okN;congr 1
 .congr 2
  congr 1
  funext i
  rw[ziX]
 congr 1
 funext k
 rw[zf6];cases s.toArray.getD k true with
 | true=>rfl
 | false=>
  cases l.contains k with
  | true=>rfl
  | false=>
   simp only[qcF,qbY];cases ops[k]? with
   | none=>rfl
   | some o=>
    simp only;have h:=zl9 o (λd=>bif znV s d false then false else(d == n || !l.contains d));rw[<- h];congr 1
    funext e
    rw[zf6];cases Region.binds .any e<;>cases s.toArray.getD e.on false<;>rfl
def zed(bar:Bool)(P:Program)(ops:Array Oper)(s:List Bool)(l:List Nat):Nat:=
 match l.find? λi=>!alI (zbU P ops i)with
 | some i=>i
 | none=>match l.find? λi=>!ziq (zbU P ops i) && zrr bar P ops s l i with
  | some i=>i
  | none=>(l.find? λi=>zrr bar P ops s l i).getD 0
theorem zpd(bar:Bool)(P:Program)(ops:Array Oper)(s:List Bool)(l:List Nat):zed bar P ops s l=zi9 bar P ops s.toArray l:=by
 unfold zed zi9;simp only[zoO];rfl
theorem zoZ(l:List Bool)(i:Nat):l.toArray.setIfInBounds i true=(l.set i true).toArray:=by simp
def zgB(P:Program)(ops:Array Oper):Nat->List Bool->Option (List Nat)
 | 0,s=>if(zcQ ops s).isEmpty then some []else none
 | f+1,s=>
  match (zcQ ops s).find? λi=>zae (zbU P ops i) && zir ops s i && !znw ops i with
  | some i=>(znZ s i true λs'=>zgB P ops f s').map (i :: ·)
  | none=>match zcQ ops s with
   | []=>some []
   | [i]=>(znZ s i true λs'=>zgB P ops f s').map (i :: ·)
   | _=>none
theorem zjL(P:Program)(ops:Array Oper):∀(f:Nat) (s:List Bool),zgB P ops f s=zic P ops f s.toArray
 | 0,s=>by simp only[zgB,zic,zfq]
 | f+1,s=>by
  simp only[zgB,zic,zfq,zfX,zjL P ops f,zoZ,ziX];rfl
def zfb(bar:Bool)(P:Program)(ops:Array Oper):Nat->List Bool->Option (List Nat×List Nat)
 | 0,s=>if(zcQ ops s).isEmpty then some ([],[])else none
 | f+1,s=>
  match (zcQ ops s).find? λi=>zae (zbU P ops i) && zir ops s i && (!znw ops i || zjU bar P ops s.toArray i)with
  | some i=>(znZ s i true λs'=>zfb bar P ops f s').map λr=>(i :: r.1,r.2)
  | none=>match zcQ ops s with
   | []=>some ([],[])
   | [i]=>bif zd0 bar (zbU P ops i)|| wrI (zbU P ops i)then(znZ s i true λs'=>zfb bar P ops f s').map λr=>(i :: r.1,r.2)else(zgB P ops (f+1) s).map λr=>([],r)
   | i :: j :: l=>bif zrr bar P ops s (i :: j :: l) (zed bar P ops s (i :: j :: l))then
     (match znZ s (zed bar P ops s (i :: j :: l)) true λs'=>zfb bar P ops f s' with
     | some r=>bif okF P ops (i :: j :: l) (zed bar P ops s (i :: j :: l)) r.1 then some (zed bar P ops s (i :: j :: l):: r.1,r.2)else none
     | none=>none)else none
theorem zlU(bar:Bool)(P:Program)(ops:Array Oper):∀(f:Nat) (s:List Bool),zfb bar P ops f s=zd8 bar P ops f s.toArray
 | 0,s=>by simp only[zfb,zd8,zfq]
 | f+1,s=>by
  simp only[zfb,zd8,zfq,zfX,zlU bar P ops f,zoZ,ziX,zoO,zpd,zjL];rfl
def ztj{β:Type}(n:Nat)(k:List Bool->β):β:=zct (List.replicate n false) k
def zdF(bar:Bool)(P:Program)(ops:Array Oper):Option (List Nat×List Nat):=
 if Region.noSelect ops && ze2 ops && ztl P ops then ztj ops.size λs=>zfb bar P ops ops.size s else none
theorem zk2(bar:Bool)(P:Program)(ops:Array Oper):zdF bar P ops=ztD bar P ops:=by
 unfold zdF ztD ztj;simp only[zbW,zlU];rw[show(List.replicate ops.size false).toArray=Array.replicate ops.size false by simp]
def zbJ(P:Program)(N:Nat):Code->C
 | .skip=>.skip
 | .region _ ops false=>bif ops.all (λo=>zf0 N o.dst)then .reg false false (ops.toList.map (irO P N ops))else .bad
 | .region _ ops true=>bif ops.all (λo=>zf0 N o.dst)then(match zdF false P ops with
  | some (l,l')=>.reg true false ((l ++ l').flatMap (zjV P N ops))
  | none=>(match zdF true P ops with
   | some (l,l')=>.reg true true ((l ++ l').flatMap (zjV P N ops))
   | none=>.bad))else .bad
 | .seq a b=>.seq (zbJ P N a) (zbJ P N b)
 | .cond c a b=>.cond (opX c) (zbJ P N a) (zbJ P N b)
 | .block id c=>.block id (zbJ P N c)
 | .loop c=>.loop (zbJ P N c)
 | .rangeFunc x ps a b=>.zdM (opX x) ps.toList (zbJ P N a) (zbJ P N b)
 | .exit id=>.exit id
 | .scope c=>.scope (zbJ P N c)
 | .label l=>.label l
 | .ret=>.ret
 | _=>.bad
theorem zqj(P:Program)(N:Nat)(c:Code):zbJ P N c=comp P N c:=by
 induction c with
 | region id ops dr=>cases dr<;>simp only[zbJ,comp,zk2]<;>rfl
 | seq a b iha ihb=>simp only[zbJ,comp,iha,ihb]
 | cond x a b iha ihb=>simp only[zbJ,comp,iha,ihb]
 | block id c ih=>simp only[zbJ,comp,ih]
 | loop c ih=>simp only[zbJ,comp,ih]
 | rangeFunc x ps a b iha ihb=>simp only[zbJ,comp,iha,ihb]
 | scope c ih=>simp only[zbJ,comp,ih]
 | _=>rfl
def zhc(P:Program)(f:Nat):Option Fn:=
 match P.funcs[f]? with
 | some fn=>(match fn.body with
  | some c=>bif !wrF f && !(fn.name == "runtime.NumGoroutine") && fn.results.toList.all (zix P)then some ⟨fn.ntmps,zbJ P fn.ntmps c,fn.results.toList.map (zjf P),false⟩else none
  | none=>none)
 | none=>none
theorem zjF(P:Program)(f:Nat):zhc P f=zg3 P f:=by
 unfold zhc zg3;simp only[zqj];rfl
def zt2(P:Program)(l:List Nat)(f:Nat):Option Fn:=
 match zhc P f with
 | some fn=>some ⟨fn.N,fn.c,fn.rs,l.any λi=>Nat.beq i f⟩
 | none=>none
theorem zoh{P:Program}{f:Nat}{fn:Fn}(h:zg3 P f=some fn):fn.p=false:=by
 unfold zg3 at h;split at h
 .split at h
  .simp only[cond_eq_ite]at h;split at h
   .cases h; rfl
   cases h
  cases h
 cases h
theorem zsO{P:Program}{l:List Nat}(f:Nat)(fn:Fn)(h:zt2 P l f=some fn):zju P f fn:=by
 unfold zt2 at h;rw[zjF]at h;cases hc:zg3 P f with
 | none=>rw[hc]at h; cases h
 | some g=>
  rw[hc]at h;cases h;have hp:=zoh hc;unfold zju;rw[hc];cases g;simp only at hp;subst hp;rfl
end Go.Mx
