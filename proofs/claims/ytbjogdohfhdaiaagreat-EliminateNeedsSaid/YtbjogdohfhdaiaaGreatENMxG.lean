/-
 The order of a region once more, for the kernel. Conditions: none.
-/
import Derived.Test.YtbjogdohfhdaiaaGreatENMx14
set_option linter.unusedSimpArgs false
set_option linter.unusedVariables false
namespace Go.Mx
open Go
def zty:List Bool->Nat->Bool->Bool
 | [],_,d=>d
 | x :: r,n,d=>match n with
  | .zero=>x
  | .succ m=>zty r m d
theorem zhZ:∀(l:List Bool) (n:Nat) (d:Bool),zty l n d=l.toArray.getD n d
 | [],n,d=>by simp[zty]
 | x :: r,0,d=>by simp[zty]
 | x :: r,n+1,d=>by
  simp only[zty,zhZ r n d];simp[qcU]
def zyn:List Edge->List Nat
 | []=>[]
 | e :: r=>bif Region.binds .any e then e.on :: zyn r else zyn r
def zAp(o:Oper):List Nat:=zyn o.after.toList
def zzD(p:Nat->Bool):List Nat->Bool
 | []=>false
 | d :: r=>bif p d then true else zzD p r
def zB8(p:Nat->Bool):List Nat->Bool
 | []=>true
 | d :: r=>bif p d then zB8 p r else false
theorem zu7(p:Nat->Bool):∀ l:List Edge,l.any (λe=>Region.binds .any e && p e.on)=zzD p (zyn l)
 | []=>rfl
 | e :: r=>by
  simp only[List.any_cons,zu7 p r,zyn];cases h1:Region.binds .any e with
  | false=>rfl
  | true=>simp only[qdz,zzD,qbS]; cases p e.on<;>rfl
theorem zuO(p:Nat->Bool):∀ l:List Edge,l.all (λe=>!Region.binds .any e || p e.on)=zB8 p (zyn l)
 | []=>rfl
 | e :: r=>by
  simp only[List.all_cons,zuO p r,zyn];cases h1:Region.binds .any e with
  | false=>rfl
  | true=>simp only[qdz,zB8,qba,qdi]; cases p e.on<;>rfl
theorem zqn(o:Oper)(p:Nat->Bool):(o.after.any λe=>Region.binds .any e && p e.on)=zzD p (zAp o):=by
 rw[<- Array.any_toList,zu7]; rfl
theorem zwl(o:Oper)(p:Nat->Bool):(o.after.all λe=>!Region.binds .any e || p e.on)=zB8 p (zAp o):=by
 rw[<- Array.all_toList,zuO]; rfl
def zew(ops:Array Oper)(l:List Bool):List Nat:=
 (List.range ops.size).filter λi=>bif zty l i true then false else(match ops[i]? with | some o=>zB8 (λd=>zty l d false) (zAp o)| none=>false)
theorem zg8(ops:Array Oper)(l:List Bool):zew ops l=Region.ready .any ops l.toArray:=by
 unfold zew Region.ready;congr 1
 funext i
 rw[zhZ];cases l.toArray.getD i true with
 | true=>rfl
 | false=>
  cases ops[i]? with
  | none=>rfl
  | some o=>
   simp only[qdA,qbK,qbS,qaU,qbg];rw[<- zwl];congr 1
   funext e
   rw[zhZ]
def znp(ops:Array Oper)(l:List Bool)(i:Nat):Bool:=
 match ops[i]? with
 | none=>false
 | some oi=>(List.range ops.size).all λj=>bif j == i then true else bif zty l j true then true else(match ops[j]? with
   | some oj=>bif zzD (λd=>d == i) (zAp oj)then true else oi.apart ops oj
   | none=>true)
theorem zl1(ops:Array Oper)(l:List Bool)(i:Nat):znp ops l i=Region.free .any ops l.toArray i:=by
 unfold znp Region.free;cases ops[i]? with
 | none=>rfl
 | some oi=>
  simp only;congr 1
  funext j
  rw[zhZ];cases(j == i)with
  | true=>rfl
  | false=>
   cases l.toArray.getD j true with
   | true=>rfl
   | false=>
    simp only[qdA,qdi];cases ops[j]? with
    | none=>rfl
    | some oj=>
     simp only;have h:=zqn oj (λd=>d == i);rw[h];cases zzD (λd=>d == i) (zAp oj)<;> rfl
def zxW(bar:Bool)(P:Program)(ops:Array Oper)(s:List Bool)(l:List Nat)(n:Nat):Bool:=
 l.contains n && (zfs bar (zcL P ops n)|| zq9 P ops n) && (l.all λi=>i == n || (alI (zcL P ops i) && znp ops s i)) &&
 (alI (zcL P ops n)|| zq9 P ops n || (l.all λi=>i == n || zl9 (zcL P ops i))) &&
 ((List.range ops.size).all λk=>bif zty s k true then true else bif l.contains k then true else(match ops[k]? with
  | some o=>zzD (λd=>bif zty s d false then false else(d == n || !l.contains d)) (zAp o)
  | none=>true))
theorem zvt(bar:Bool)(P:Program)(ops:Array Oper)(s:List Bool)(l:List Nat)(n:Nat):zxW bar P ops s l n=okN bar P ops s.toArray l n:=by
 unfold zxW okN;congr 1
 .congr 2
  congr 1
  funext i
  rw[zl1]
 congr 1
 funext k
 rw[zhZ];cases s.toArray.getD k true with
 | true=>rfl
 | false=>
  cases l.contains k with
  | true=>rfl
  | false=>
   simp only[qdA,qdi];cases ops[k]? with
   | none=>rfl
   | some o=>
    simp only;have h:=zqn o (λd=>bif zty s d false then false else(d == n || !l.contains d));rw[<- h];congr 1
    funext e
    rw[zhZ];cases Region.binds .any e<;>cases s.toArray.getD e.on false<;>rfl
def zgp(bar:Bool)(P:Program)(ops:Array Oper)(s:List Bool)(l:List Nat):Nat:=
 match l.find? λi=>!alI (zcL P ops i)with
 | some i=>i
 | none=>match l.find? λi=>!zl9 (zcL P ops i) && zxW bar P ops s l i with
  | some i=>i
  | none=>(l.find? λi=>zxW bar P ops s l i).getD 0
theorem zsM(bar:Bool)(P:Program)(ops:Array Oper)(s:List Bool)(l:List Nat):zgp bar P ops s l=zll bar P ops s.toArray l:=by
 unfold zgp zll;simp only[zvt];rfl
theorem zsJ(l:List Bool)(i:Nat):l.toArray.setIfInBounds i true=(l.set i true).toArray:=by simp
def zki(P:Program)(ops:Array Oper):Nat->List Bool->Option (List Nat)
 | 0,s=>if(zew ops s).isEmpty then some []else none
 | f+1,s=>
  match (zew ops s).find? λi=>zaj (zcL P ops i) && znp ops s i && !zuo ops i with
  | some i=>(zuc s i true λs'=>zki P ops f s').map (i :: ·)
  | none=>match zew ops s with
   | []=>some []
   | [i]=>(zuc s i true λs'=>zki P ops f s').map (i :: ·)
   | _=>none
theorem znX(P:Program)(ops:Array Oper):∀(f:Nat) (s:List Bool),zki P ops f s=zlZ P ops f s.toArray
 | 0,s=>by simp only[zki,zlZ,zg8]
 | f+1,s=>by
  simp only[zki,zlZ,zg8,zhN,znX P ops f,zsJ,zl1];rfl
def zgK(bar:Bool)(P:Program)(ops:Array Oper):Nat->List Bool->Option (List Nat×List Nat)
 | 0,s=>if(zew ops s).isEmpty then some ([],[])else none
 | f+1,s=>
  match (zew ops s).find? λi=>zaj (zcL P ops i) && znp ops s i && (!zuo ops i || zoz bar P ops s.toArray i)with
  | some i=>(zuc s i true λs'=>zgK bar P ops f s').map λr=>(i :: r.1,r.2)
  | none=>match zew ops s with
   | []=>some ([],[])
   | [i]=>bif zfs bar (zcL P ops i)|| wrI (zcL P ops i)then(zuc s i true λs'=>zgK bar P ops f s').map λr=>(i :: r.1,r.2)else(zki P ops (f+1) s).map λr=>([],r)
   | i :: j :: l=>bif zxW bar P ops s (i :: j :: l) (zgp bar P ops s (i :: j :: l))then
     (match zuc s (zgp bar P ops s (i :: j :: l)) true λs'=>zgK bar P ops f s' with
     | some r=>bif okF P ops (i :: j :: l) (zgp bar P ops s (i :: j :: l)) r.1 then some (zgp bar P ops s (i :: j :: l):: r.1,r.2)else none
     | none=>none)else none
theorem zqS(bar:Bool)(P:Program)(ops:Array Oper):∀(f:Nat) (s:List Bool),zgK bar P ops f s=zfU bar P ops f s.toArray
 | 0,s=>by simp only[zgK,zfU,zg8]
 | f+1,s=>by
  simp only[zgK,zfU,zg8,zhN,zqS bar P ops f,zsJ,zl1,zvt,zsM,znX];rfl
def zz9{β:Type}(n:Nat)(k:List Bool->β):β:=zdi (List.replicate n false) k
def zcM(bar:Bool)(P:Program)(ops:Array Oper):Option (List Nat×List Nat):=
 if Region.noSelect ops && zgF ops && zyl P ops then zz9 ops.size λs=>zgK bar P ops ops.size s else none
theorem zoS(bar:Bool)(P:Program)(ops:Array Oper):zcM bar P ops=zAo bar P ops:=by
 unfold zcM zAo zz9;simp only[zcB,zqS];rw[show(List.replicate ops.size false).toArray=Array.replicate ops.size false by simp]
def zbQ(P:Program)(N:Nat):Code->C
 | .skip=>.skip
 | .region _ ops false=>bif ops.all (λo=>zhr N o.dst)then .reg false false (ops.toList.map (irO P N ops))else .bad
 | .region _ ops true=>bif ops.all (λo=>zhr N o.dst)then(match zcM false P ops with
  | some (l,l')=>.reg true false ((l ++ l').flatMap (zmg P N ops))
  | none=>(match zcM true P ops with
   | some (l,l')=>.reg true true ((l ++ l').flatMap (zmg P N ops))
   | none=>.bad))else .bad
 | .seq a b=>.seq (zbQ P N a) (zbQ P N b)
 | .cond c a b=>.cond (opX c) (zbQ P N a) (zbQ P N b)
 | .block id c=>.block id (zbQ P N c)
 | .loop c=>.loop (zbQ P N c)
 | .rangeFunc x ps a b=>.zen (opX x) ps.toList (zbQ P N a) (zbQ P N b)
 | .exit id=>.exit id
 | .scope c=>.scope (zbQ P N c)
 | .label l=>.label l
 | .ret=>.ret
 | _=>.bad
theorem zwX(P:Program)(N:Nat)(c:Code):zbQ P N c=comp P N c:=by
 induction c with
 | region id ops dr=>cases dr<;>simp only[zbQ,comp,zoS]<;>rfl
 | seq a b iha ihb=>simp only[zbQ,comp,iha,ihb]
 | cond x a b iha ihb=>simp only[zbQ,comp,iha,ihb]
 | block id c ih=>simp only[zbQ,comp,ih]
 | loop c ih=>simp only[zbQ,comp,ih]
 | rangeFunc x ps a b iha ihb=>simp only[zbQ,comp,iha,ihb]
 | scope c ih=>simp only[zbQ,comp,ih]
 | _=>rfl
def ziK(P:Program)(f:Nat):Option Fn:=
 match P.funcs[f]? with
 | some fn=>(match fn.body with
  | some c=>bif !wrF f && !(fn.name == "runtime.NumGoroutine") && fn.results.toList.all (zlh P)then some ⟨fn.ntmps,zbQ P fn.ntmps c,fn.results.toList.map (zlG P),false⟩else none
  | none=>none)
 | none=>none
theorem znv(P:Program)(f:Nat):ziK P f=ziH P f:=by
 unfold ziK ziH;simp only[zwX];rfl
def zAI(P:Program)(l:List Nat)(f:Nat):Option Fn:=
 match ziK P f with
 | some fn=>some ⟨fn.N,fn.c,fn.rs,l.any λi=>Nat.beq i f⟩
 | none=>none
theorem ztu{P:Program}{f:Nat}{fn:Fn}(h:ziH P f=some fn):fn.p=false:=by
 unfold ziH at h;split at h
 .split at h
  .simp only[cond_eq_ite]at h;split at h
   .cases h; rfl
   cases h
  cases h
 cases h
theorem zyx{P:Program}{l:List Nat}(f:Nat)(fn:Fn)(h:zAI P l f=some fn):zmh P f fn:=by
 unfold zAI at h;rw[znv]at h;cases hc:ziH P f with
 | none=>rw[hc]at h; cases h
 | some g=>
  rw[hc]at h;cases h;have hp:=ztu hc;unfold zmh;rw[hc];cases g;simp only at hp;subst hp;rfl
end Go.Mx
namespace Go.Mx
open Go
def znB{P:Program}{l:List Nat}:List ((f:Nat)×{ y:Option Fn // y=zAI P l f })->Nat->Option Fn
 | [],_=>none
 | ⟨k,y,_⟩:: r,f=>bif Nat.beq k f then y else znB r f
theorem zf1{P:Program}{l:List Nat}:∀(t:List ((f:Nat)×{ y:Option Fn // y=zAI P l f })) (f:Nat) (fn:Fn),znB t f=some fn->zmh P f fn
 | [],f,fn,h=>by cases h
 | ⟨k,y,hy⟩:: r,f,fn,h=>by
  simp only[znB]at h;cases hb:Nat.beq k f with
  | true=>
   simp only[hb,qdz]at h;have:=qaJ hb;subst this; subst h;exact zyx _ _ hy.symm
  | false=>
   simp only[hb,qdA]at h;exact zf1 r f fn h
end Go.Mx
