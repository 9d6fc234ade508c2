/-
 The order of a region once more, for the kernel. Conditions: none.
-/
import Derived.Test.YtbjogdohfhdaiaaGreatErMx14
set_option linter.unusedSimpArgs false
set_option linter.unusedVariables false
namespace Go.Mx
open Go
def zxC:List Bool->Nat->Bool->Bool
 | [],_,d=>d
 | x :: r,n,d=>match n with
  | .zero=>x
  | .succ m=>zxC r m d
theorem zi9:∀(l:List Bool) (n:Nat) (d:Bool),zxC l n d=l.toArray.getD n d
 | [],n,d=>by simp[zxC]
 | x :: r,0,d=>by simp[zxC]
 | x :: r,n+1,d=>by
  simp only[zxC,zi9 r n d]
  simp_all
def zBr:List Edge->List Nat
 | []=>[]
 | e :: r=>bif Region.binds .any e then e.on :: zBr r else zBr r
def zDT(o:Oper):List Nat:=zBr o.after.toList
def zDp(p:Nat->Bool):List Nat->Bool
 | []=>false
 | d :: r=>bif p d then true else zDp p r
def zFW(p:Nat->Bool):List Nat->Bool
 | []=>true
 | d :: r=>bif p d then zFW p r else false
theorem zwx(p:Nat->Bool):∀ l:List Edge,l.any (λe=>Region.binds .any e && p e.on)=zDp p (zBr l)
 | []=>rfl
 | e :: r=>by
  simp only[List.any_cons,zwx p r,zBr]
  grind [zDp]
theorem zwC(p:Nat->Bool):∀ l:List Edge,l.all (λe=>!Region.binds .any e || p e.on)=zFW p (zBr l)
 | []=>rfl
 | e :: r=>by
  simp only[qdn,zwC p r,zBr]
  grind [zFW]
theorem zrU(o:Oper)(p:Nat->Bool):(o.after.any λe=>Region.binds .any e && p e.on)=zDp p (zDT o):=by
 rw[<- Array.any_toList,zwx]; rfl
theorem zyq(o:Oper)(p:Nat->Bool):(o.after.all λe=>!Region.binds .any e || p e.on)=zFW p (zDT o):=by
 rw[<- Array.all_toList,zwC]; rfl
def zfo(ops:Array Oper)(l:List Bool):List Nat:=
 (List.range ops.size).filter λi=>bif zxC l i true then false else(match ops[i]? with | some o=>zFW (λd=>zxC l d false) (zDT o)| none=>false)
theorem zhM(ops:Array Oper)(l:List Bool):zfo ops l=Region.ready .any ops l.toArray:=by
 unfold zfo Region.ready;congr 1
 funext i
 rw[zi9];cases l.toArray.getD i true with
 | true=>rfl
 | false=>
  cases ops[i]? with
  | none=>rfl
  | some o=>
   simp only[qdu,qcz,qbF,qbe,qbA];rw[<- zyq];congr 1
   funext e
   rw[zi9]
def zoM(ops:Array Oper)(l:List Bool)(i:Nat):Bool:=
 match ops[i]? with
 | none=>false
 | some oi=>(List.range ops.size).all λj=>bif j == i then true else bif zxC l j true then true else(match ops[j]? with
   | some oj=>bif zDp (λd=>d == i) (zDT oj)then true else oi.apart ops oj
   | none=>true)
theorem znS(ops:Array Oper)(l:List Bool)(i:Nat):zoM ops l i=Region.free .any ops l.toArray i:=by
 unfold zoM Region.free;cases ops[i]? with
 | none=>rfl
 | some oi=>
  simp only;congr 1
  funext j
  rw[zi9]
  grind [zrU]
def zA5(bar:Bool)(P:Program)(ops:Array Oper)(s:List Bool)(l:List Nat)(n:Nat):Bool:=
 l.contains n && (zgr bar (zdl P ops n)|| ztq P ops n) && (l.all λi=>i == n || (alI (zdl P ops i) && zoM ops s i)) &&
 (alI (zdl P ops n)|| ztq P ops n || (l.all λi=>i == n || zmC (zdl P ops i))) &&
 ((List.range ops.size).all λk=>bif zxC s k true then true else bif l.contains k then true else(match ops[k]? with
  | some o=>zDp (λd=>bif zxC s d false then false else(d == n || !l.contains d)) (zDT o)
  | none=>true))
theorem zu9(bar:Bool)(P:Program)(ops:Array Oper)(s:List Bool)(l:List Nat)(n:Nat):zA5 bar P ops s l n=okN bar P ops s.toArray l n:=by
 unfold zA5 okN;congr 1
 .grind [znS]
 congr 1
 funext k
 rw[zi9];cases s.toArray.getD k true with
 | true=>rfl
 | false=>
  cases l.contains k with
  | true=>rfl
  | false=>
   simp only[qdu,qdm];cases ops[k]? with
   | none=>rfl
   | some o=>
    simp only;have h:=zrU o (λd=>bif zxC s d false then false else(d == n || !l.contains d));rw[<- h];congr 1
    funext e
    rw[zi9]
    grind
def zhq(bar:Bool)(P:Program)(ops:Array Oper)(s:List Bool)(l:List Nat):Nat:=
 match l.find? λi=>!alI (zdl P ops i)with
 | some i=>i
 | none=>match l.find? λi=>!zmC (zdl P ops i) && zA5 bar P ops s l i with
  | some i=>i
  | none=>(l.find? λi=>zA5 bar P ops s l i).getD 0
theorem zwY(bar:Bool)(P:Program)(ops:Array Oper)(s:List Bool)(l:List Nat):zhq bar P ops s l=znO bar P ops s.toArray l:=by
 unfold zhq znO;simp only[zu9];rfl
theorem zwe(l:List Bool)(i:Nat):l.toArray.setIfInBounds i true=(l.set i true).toArray:=by simp
def zkR(P:Program)(ops:Array Oper):Nat->List Bool->Option (List Nat)
 | 0,s=>if(zfo ops s).isEmpty then some []else none
 | f+1,s=>
  match (zfo ops s).find? λi=>zak (zdl P ops i) && zoM ops s i && !zux ops i with
  | some i=>(zxM s i true λs'=>zkR P ops f s').map (i :: ·)
  | none=>match zfo ops s with
   | []=>some []
   | [i]=>(zxM s i true λs'=>zkR P ops f s').map (i :: ·)
   | _=>none
theorem zpO(P:Program)(ops:Array Oper):∀(f:Nat) (s:List Bool),zkR P ops f s=znn P ops f s.toArray
 | 0,s=>by simp only[zkR,znn,zhM]
 | f+1,s=>by
  simp only[zkR,znn,zhM,zi6,zpO P ops f,zwe,znS];rfl
def ziY(bar:Bool)(P:Program)(ops:Array Oper):Nat->List Bool->Option (List Nat×List Nat)
 | 0,s=>if(zfo ops s).isEmpty then some ([],[])else none
 | f+1,s=>
  match (zfo ops s).find? λi=>zak (zdl P ops i) && zoM ops s i && (!zux ops i || zrl bar P ops s.toArray i)with
  | some i=>(zxM s i true λs'=>ziY bar P ops f s').map λr=>(i :: r.1,r.2)
  | none=>match zfo ops s with
   | []=>some ([],[])
   | [i]=>bif zgr bar (zdl P ops i)|| wrI (zdl P ops i)then(zxM s i true λs'=>ziY bar P ops f s').map λr=>(i :: r.1,r.2)else(zkR P ops (f+1) s).map λr=>([],r)
   | i :: j :: l=>bif zA5 bar P ops s (i :: j :: l) (zhq bar P ops s (i :: j :: l))then
     (match zxM s (zhq bar P ops s (i :: j :: l)) true λs'=>ziY bar P ops f s' with
     | some r=>bif okF P ops (i :: j :: l) (zhq bar P ops s (i :: j :: l)) r.1 then some (zhq bar P ops s (i :: j :: l):: r.1,r.2)else none
     | none=>none)else none
theorem zsL(bar:Bool)(P:Program)(ops:Array Oper):∀(f:Nat) (s:List Bool),ziY bar P ops f s=zgR bar P ops f s.toArray
 | 0,s=>by simp only[ziY,zgR,zhM]
 | f+1,s=>by
  simp only[ziY,zgR,zhM,zi6,zsL bar P ops f,zwe,znS,zu9,zwY,zpO];rfl
def zCi{β:Type}(n:Nat)(k:List Bool->β):β:=zd3 (List.replicate n false) k
def zcf(bar:Bool)(P:Program)(ops:Array Oper):Option (List Nat×List Nat):=
 if Region.noSelect ops && zgK ops && zDc P ops then zCi ops.size λs=>ziY bar P ops ops.size s else none
theorem zrp(bar:Bool)(P:Program)(ops:Array Oper):zcf bar P ops=zDA bar P ops:=by
 unfold zcf zDA zCi;simp only[zdc,zsL];rw[show(List.replicate ops.size false).toArray=Array.replicate ops.size false by simp]
def zcm(P:Program)(N:Nat):Code->C
 | .skip=>.skip
 | .region _ ops false=>bif ops.all (λo=>zlm N o.dst)then .reg false false (ops.toList.map (irO P N ops))else .bad
 | .region _ ops true=>bif ops.all (λo=>zlm N o.dst)then(match zcf false P ops with
  | some (l,l')=>.reg true false ((l ++ l').flatMap (zoa P N ops))
  | none=>(match zcf true P ops with
   | some (l,l')=>.reg true true ((l ++ l').flatMap (zoa P N ops))
   | none=>.bad))else .bad
 | .seq a b=>.seq (zcm P N a) (zcm P N b)
 | .cond c a b=>.cond (opX c) (zcm P N a) (zcm P N b)
 | .block id c=>.block id (zcm P N c)
 | .loop c=>.loop (zcm P N c)
 | .rangeFunc x ps a b=>.zey (opX x) ps.toList (zcm P N a) (zcm P N b)
 | .exit id=>.exit id
 | .scope c=>.scope (zcm P N c)
 | .label l=>.label l
 | .ret=>.ret
 | _=>.bad
theorem zyz(P:Program)(N:Nat)(c:Code):zcm P N c=comp P N c:=by
 induction c with
 | region id ops dr=>cases dr<;>simp only[zcm,comp,zrp]<;>rfl
 | seq a b iha ihb=>simp only[zcm,comp,iha,ihb]
 | cond x a b iha ihb=>simp only[zcm,comp,iha,ihb]
 | block id c ih=>simp only[zcm,comp,ih]
 | loop c ih=>simp only[zcm,comp,ih]
 | rangeFunc x ps a b iha ihb=>simp only[zcm,comp,iha,ihb]
 | scope c ih=>simp only[zcm,comp,ih]
 | _=>rfl
def zkk(P:Program)(f:Nat):Option Fn:=
 match P.funcs[f]? with
 | some fn=>(match fn.body with
  | some c=>bif !wrF f && !(fn.name == "runtime.NumGoroutine") && fn.results.toList.all (zp1 P)then some ⟨fn.ntmps,zcm P fn.ntmps c,fn.results.toList.map (zmG P),false⟩else none
  | none=>none)
 | none=>none
theorem ziH(P:Program)(f:Nat):zkk P f=zjG P f:=by
 grind [zkk,zjG,zyz]
def zFo(P:Program)(l:List Nat)(f:Nat):Option Fn:=
 match zkk P f with
 | some fn=>some ⟨fn.N,fn.c,fn.rs,l.any λi=>Nat.beq i f⟩
 | none=>none
theorem zC0{P:Program}{f:Nat}{fn:Fn}(h:zjG P f=some fn):fn.p=false:=by
 grind [zjG]
theorem zBZ{P:Program}{l:List Nat}(f:Nat)(fn:Fn)(h:zFo P l f=some fn):znE P f fn:=by
 grind [zFo,ziH,zjG,znE]
end Go.Mx
namespace Go.Mx
open Go
def zoL{P:Program}{l:List Nat}:List ((f:Nat)×{ y:Option Fn // y=zFo P l f })->Nat->Option Fn
 | [],_=>none
 | ⟨k,y,_⟩:: r,f=>bif Nat.beq k f then y else zoL r f
theorem zhe{P:Program}{l:List Nat}:∀(t:List ((f:Nat)×{ y:Option Fn // y=zFo P l f })) (f:Nat) (fn:Fn),zoL t f=some fn->znE P f fn
 | [],f,fn,h=>by cases h
 | ⟨k,y,hy⟩:: r,f,fn,h=>by
  simp only[zoL]at h;cases hb:Nat.beq k f with
  | true=>
   simp only[hb,qdt]at h;have:=qaF hb;subst this; subst h;exact zBZ _ _ hy.symm
  | false=>
   simp only[hb,qdu]at h;exact zhe r f fn h
end Go.Mx
