/-
 The order of a region once more, for the kernel. Conditions: none.
-/
import Derived.Test.YtbjogdohfhdaiaaGreatEcMx14
set_option linter.unusedSimpArgs false
set_option linter.unusedVariables false
namespace Go.Mx
open Go
def zvO:List Bool->Nat->Bool->Bool
 | [],_,d=>d
 | x :: r,n,d=>match n with
  | .zero=>x
  | .succ m=>zvO r m d
theorem ziW:∀(l:List Bool) (n:Nat) (d:Bool),zvO l n d=l.toArray.getD n d
 | [],n,d=>by simp[zvO]
 | x :: r,0,d=>by simp[zvO]
 | x :: r,n+1,d=>by
  simp only[zvO,ziW r n d]
  simp_all
def zBt:List Edge->List Nat
 | []=>[]
 | e :: r=>bif Region.binds .any e then e.on :: zBt r else zBt r
def zDT(o:Oper):List Nat:=zBt o.after.toList
def zC9(p:Nat->Bool):List Nat->Bool
 | []=>false
 | d :: r=>bif p d then true else zC9 p r
def zEs(p:Nat->Bool):List Nat->Bool
 | []=>true
 | d :: r=>bif p d then zEs p r else false
theorem zuv(p:Nat->Bool):∀ l:List Edge,l.any (λe=>Region.binds .any e && p e.on)=zC9 p (zBt l)
 | []=>rfl
 | e :: r=>by
  simp only[List.any_cons,zuv p r,zBt]
  grind [zC9]
theorem zvN(p:Nat->Bool):∀ l:List Edge,l.all (λe=>!Region.binds .any e || p e.on)=zEs p (zBt l)
 | []=>rfl
 | e :: r=>by
  simp only[qdl,zvN p r,zBt]
  grind [zEs]
theorem zrf(o:Oper)(p:Nat->Bool):(o.after.any λe=>Region.binds .any e && p e.on)=zC9 p (zDT o):=by
 rw[<- Array.any_toList,zuv]; rfl
theorem zx6(o:Oper)(p:Nat->Bool):(o.after.all λe=>!Region.binds .any e || p e.on)=zEs p (zDT o):=by
 rw[<- Array.all_toList,zvN]; rfl
def zeU(ops:Array Oper)(l:List Bool):List Nat:=
 (List.range ops.size).filter λi=>bif zvO l i true then false else(match ops[i]? with | some o=>zEs (λd=>zvO l d false) (zDT o)| none=>false)
theorem zhB(ops:Array Oper)(l:List Bool):zeU ops l=Region.ready .any ops l.toArray:=by
 unfold zeU Region.ready;congr 1
 funext i
 rw[ziW];cases l.toArray.getD i true with
 | true=>rfl
 | false=>
  cases ops[i]? with
  | none=>rfl
  | some o=>
   simp only[qdu,qcd,qbU,qba,qbG];rw[<- zx6];congr 1
   funext e
   rw[ziW]
def zmx(ops:Array Oper)(l:List Bool)(i:Nat):Bool:=
 match ops[i]? with
 | none=>false
 | some oi=>(List.range ops.size).all λj=>bif j == i then true else bif zvO l j true then true else(match ops[j]? with
   | some oj=>bif zC9 (λd=>d == i) (zDT oj)then true else oi.apart ops oj
   | none=>true)
theorem zmv(ops:Array Oper)(l:List Bool)(i:Nat):zmx ops l i=Region.free .any ops l.toArray i:=by
 unfold zmx Region.free;cases ops[i]? with
 | none=>rfl
 | some oi=>
  simp only;congr 1
  funext j
  rw[ziW]
  grind [zrf]
def zx9(bar:Bool)(P:Program)(ops:Array Oper)(s:List Bool)(l:List Nat)(n:Nat):Bool:=
 l.contains n && (zgj bar (zdl P ops n)|| zsT P ops n) && (l.all λi=>i == n || (alI (zdl P ops i) && zmx ops s i)) &&
 (alI (zdl P ops n)|| zsT P ops n || (l.all λi=>i == n || zmk (zdl P ops i))) &&
 ((List.range ops.size).all λk=>bif zvO s k true then true else bif l.contains k then true else(match ops[k]? with
  | some o=>zC9 (λd=>bif zvO s d false then false else(d == n || !l.contains d)) (zDT o)
  | none=>true))
theorem zwz(bar:Bool)(P:Program)(ops:Array Oper)(s:List Bool)(l:List Nat)(n:Nat):zx9 bar P ops s l n=okN bar P ops s.toArray l n:=by
 unfold zx9 okN;congr 1
 .grind [zmv]
 congr 1
 funext k
 rw[ziW];cases s.toArray.getD k true with
 | true=>rfl
 | false=>
  cases l.contains k with
  | true=>rfl
  | false=>
   simp only[qdu,qdk];cases ops[k]? with
   | none=>rfl
   | some o=>
    simp only;have h:=zrf o (λd=>bif zvO s d false then false else(d == n || !l.contains d));rw[<- h];congr 1
    funext e
    rw[ziW]
    grind
def zgT(bar:Bool)(P:Program)(ops:Array Oper)(s:List Bool)(l:List Nat):Nat:=
 match l.find? λi=>!alI (zdl P ops i)with
 | some i=>i
 | none=>match l.find? λi=>!zmk (zdl P ops i) && zx9 bar P ops s l i with
  | some i=>i
  | none=>(l.find? λi=>zx9 bar P ops s l i).getD 0
theorem zwH(bar:Bool)(P:Program)(ops:Array Oper)(s:List Bool)(l:List Nat):zgT bar P ops s l=zmJ bar P ops s.toArray l:=by
 unfold zgT zmJ;simp only[zwz];rfl
theorem zxq(l:List Bool)(i:Nat):l.toArray.setIfInBounds i true=(l.set i true).toArray:=by simp
def zkR(P:Program)(ops:Array Oper):Nat->List Bool->Option (List Nat)
 | 0,s=>if(zeU ops s).isEmpty then some []else none
 | f+1,s=>
  match (zeU ops s).find? λi=>zal (zdl P ops i) && zmx ops s i && !ztU ops i with
  | some i=>(zuZ s i true λs'=>zkR P ops f s').map (i :: ·)
  | none=>match zeU ops s with
   | []=>some []
   | [i]=>(zuZ s i true λs'=>zkR P ops f s').map (i :: ·)
   | _=>none
theorem zob(P:Program)(ops:Array Oper):∀(f:Nat) (s:List Bool),zkR P ops f s=zl8 P ops f s.toArray
 | 0,s=>by simp only[zkR,zl8,zhB]
 | f+1,s=>by
  simp only[zkR,zl8,zhB,ziS,zob P ops f,zxq,zmv];rfl
def zhr(bar:Bool)(P:Program)(ops:Array Oper):Nat->List Bool->Option (List Nat×List Nat)
 | 0,s=>if(zeU ops s).isEmpty then some ([],[])else none
 | f+1,s=>
  match (zeU ops s).find? λi=>zal (zdl P ops i) && zmx ops s i && (!ztU ops i || zoT bar P ops s.toArray i)with
  | some i=>(zuZ s i true λs'=>zhr bar P ops f s').map λr=>(i :: r.1,r.2)
  | none=>match zeU ops s with
   | []=>some ([],[])
   | [i]=>bif zgj bar (zdl P ops i)|| wrI (zdl P ops i)then(zuZ s i true λs'=>zhr bar P ops f s').map λr=>(i :: r.1,r.2)else(zkR P ops (f+1) s).map λr=>([],r)
   | i :: j :: l=>bif zx9 bar P ops s (i :: j :: l) (zgT bar P ops s (i :: j :: l))then
     (match zuZ s (zgT bar P ops s (i :: j :: l)) true λs'=>zhr bar P ops f s' with
     | some r=>bif okF P ops (i :: j :: l) (zgT bar P ops s (i :: j :: l)) r.1 then some (zgT bar P ops s (i :: j :: l):: r.1,r.2)else none
     | none=>none)else none
theorem zrH(bar:Bool)(P:Program)(ops:Array Oper):∀(f:Nat) (s:List Bool),zhr bar P ops f s=zgM bar P ops f s.toArray
 | 0,s=>by simp only[zhr,zgM,zhB]
 | f+1,s=>by
  simp only[zhr,zgM,zhB,ziS,zrH bar P ops f,zxq,zmv,zwz,zwH,zob];rfl
def zBw{β:Type}(n:Nat)(k:List Bool->β):β:=zdZ (List.replicate n false) k
def zcb(bar:Bool)(P:Program)(ops:Array Oper):Option (List Nat×List Nat):=
 if Region.noSelect ops && zgz ops && zBx P ops then zBw ops.size λs=>zhr bar P ops ops.size s else none
theorem zpS(bar:Bool)(P:Program)(ops:Array Oper):zcb bar P ops=zCV bar P ops:=by
 unfold zcb zCV zBw;simp only[zdo,zrH];rw[show(List.replicate ops.size false).toArray=Array.replicate ops.size false by simp]
def zcj(P:Program)(N:Nat):Code->C
 | .skip=>.skip
 | .region _ ops false=>bif ops.all (λo=>zla N o.dst)then .reg false false (ops.toList.map (irO P N ops))else .bad
 | .region _ ops true=>bif ops.all (λo=>zla N o.dst)then(match zcb false P ops with
  | some (l,l')=>.reg true false ((l ++ l').flatMap (znJ P N ops))
  | none=>(match zcb true P ops with
   | some (l,l')=>.reg true true ((l ++ l').flatMap (znJ P N ops))
   | none=>.bad))else .bad
 | .seq a b=>.seq (zcj P N a) (zcj P N b)
 | .cond c a b=>.cond (opX c) (zcj P N a) (zcj P N b)
 | .block id c=>.block id (zcj P N c)
 | .loop c=>.loop (zcj P N c)
 | .rangeFunc x ps a b=>.zeK (opX x) ps.toList (zcj P N a) (zcj P N b)
 | .exit id=>.exit id
 | .scope c=>.scope (zcj P N c)
 | .label l=>.label l
 | .ret=>.ret
 | _=>.bad
theorem zyQ(P:Program)(N:Nat)(c:Code):zcj P N c=comp P N c:=by
 induction c with
 | region id ops dr=>cases dr<;>simp only[zcj,comp,zpS]<;>rfl
 | seq a b iha ihb=>simp only[zcj,comp,iha,ihb]
 | cond x a b iha ihb=>simp only[zcj,comp,iha,ihb]
 | block id c ih=>simp only[zcj,comp,ih]
 | loop c ih=>simp only[zcj,comp,ih]
 | rangeFunc x ps a b iha ihb=>simp only[zcj,comp,iha,ihb]
 | scope c ih=>simp only[zcj,comp,ih]
 | _=>rfl
def zkF(P:Program)(f:Nat):Option Fn:=
 match P.funcs[f]? with
 | some fn=>(match fn.body with
  | some c=>bif !wrF f && !(fn.name == "runtime.NumGoroutine") && fn.results.toList.all (zoF P)then some ⟨fn.ntmps,zcj P fn.ntmps c,fn.results.toList.map (zmB P),false⟩else none
  | none=>none)
 | none=>none
theorem zop(P:Program)(f:Nat):zkF P f=zk2 P f:=by
 grind [zkF,zk2,zyQ]
def zEZ(P:Program)(l:List Nat)(f:Nat):Option Fn:=
 match zkF P f with
 | some fn=>some ⟨fn.N,fn.c,fn.rs,l.any λi=>Nat.beq i f⟩
 | none=>none
theorem zBO{P:Program}{f:Nat}{fn:Fn}(h:zk2 P f=some fn):fn.p=false:=by
 grind [zk2]
theorem zBC{P:Program}{l:List Nat}(f:Nat)(fn:Fn)(h:zEZ P l f=some fn):zne P f fn:=by
 grind [zEZ,zop,zk2,zne]
end Go.Mx
namespace Go.Mx
open Go
def zoa{P:Program}{l:List Nat}:List ((f:Nat)×{ y:Option Fn // y=zEZ P l f })->Nat->Option Fn
 | [],_=>none
 | ⟨k,y,_⟩:: r,f=>bif Nat.beq k f then y else zoa r f
theorem zg0{P:Program}{l:List Nat}:∀(t:List ((f:Nat)×{ y:Option Fn // y=zEZ P l f })) (f:Nat) (fn:Fn),zoa t f=some fn->zne P f fn
 | [],f,fn,h=>by cases h
 | ⟨k,y,hy⟩:: r,f,fn,h=>by
  simp only[zoa]at h;cases hb:Nat.beq k f with
  | true=>
   simp only[hb,qdt]at h;have:=qaE hb;subst this; subst h;exact zBC _ _ hy.symm
  | false=>
   simp only[hb,qdu]at h;exact zg0 r f fn h
end Go.Mx
