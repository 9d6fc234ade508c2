/-
 The order of a region once more, for the kernel. Conditions: none.
-/
import Derived.Test.YtbjogdohfhdaiaaCaMx14
set_option linter.unusedSimpArgs false
set_option linter.unusedVariables false
namespace Go.Mx
open Go
def zos:List Bool->Nat->Bool->Bool
 | [],_,d=>d
 | x :: r,n,d=>match n with
  | .zero=>x
  | .succ m=>zos r m d
theorem zfJ:∀(l:List Bool) (n:Nat) (d:Bool),zos l n d=l.toArray.getD n d
 | [],n,d=>by simp[zos]
 | x :: r,0,d=>by simp[zos]
 | x :: r,n+1,d=>by
  simp only[zos,zfJ r n d];simp[qcm]
def ztl:List Edge->List Nat
 | []=>[]
 | e :: r=>bif Region.binds .any e then e.on :: ztl r else ztl r
def zuv(o:Oper):List Nat:=ztl o.after.toList
def ztc(p:Nat->Bool):List Nat->Bool
 | []=>false
 | d :: r=>bif p d then true else ztc p r
def zwi(p:Nat->Bool):List Nat->Bool
 | []=>true
 | d :: r=>bif p d then zwi p r else false
theorem zpj(p:Nat->Bool):∀ l:List Edge,l.any (λe=>Region.binds .any e && p e.on)=ztc p (ztl l)
 | []=>rfl
 | e :: r=>by
  simp only[qco,zpj p r,ztl];cases h1:Region.binds .any e with
  | false=>rfl
  | true=>simp only[qcR,ztc,qbr]; cases p e.on<;>rfl
theorem zqA(p:Nat->Bool):∀ l:List Edge,l.all (λe=>!Region.binds .any e || p e.on)=zwi p (ztl l)
 | []=>rfl
 | e :: r=>by
  simp only[qbE,zqA p r,ztl];cases h1:Region.binds .any e with
  | false=>rfl
  | true=>simp only[qcR,zwi,qa0,qbD]; cases p e.on<;>rfl
theorem zlE(o:Oper)(p:Nat->Bool):(o.after.any λe=>Region.binds .any e && p e.on)=ztc p (zuv o):=by
 rw[<- Array.any_toList,zpj]; rfl
theorem zr0(o:Oper)(p:Nat->Bool):(o.after.all λe=>!Region.binds .any e || p e.on)=zwi p (zuv o):=by
 rw[<- Array.all_toList,zqA]; rfl
def zcy(ops:Array Oper)(l:List Bool):List Nat:=
 (List.range ops.size).filter λi=>bif zos l i true then false else(match ops[i]? with | some o=>zwi (λd=>zos l d false) (zuv o)| none=>false)
theorem zfn(ops:Array Oper)(l:List Bool):zcy ops l=Region.ready .any ops l.toArray:=by
 unfold zcy Region.ready;congr 1
 funext i
 rw[zfJ];cases l.toArray.getD i true with
 | true=>rfl
 | false=>
  cases ops[i]? with
  | none=>rfl
  | some o=>
   simp only[qcS,qbw,qbr,qaF,qbq];rw[<- zr0];congr 1
   funext e
   rw[zfJ]
def zim(ops:Array Oper)(l:List Bool)(i:Nat):Bool:=
 match ops[i]? with
 | none=>false
 | some oi=>(List.range ops.size).all λj=>bif j == i then true else bif zos l j true then true else(match ops[j]? with
   | some oj=>bif ztc (λd=>d == i) (zuv oj)then true else oi.apart ops oj
   | none=>true)
theorem ziQ(ops:Array Oper)(l:List Bool)(i:Nat):zim ops l i=Region.free .any ops l.toArray i:=by
 unfold zim Region.free;cases ops[i]? with
 | none=>rfl
 | some oi=>
  simp only;congr 1
  funext j
  rw[zfJ];cases(j == i)with
  | true=>rfl
  | false=>
   cases l.toArray.getD j true with
   | true=>rfl
   | false=>
    simp only[qcS,qbD];cases ops[j]? with
    | none=>rfl
    | some oj=>
     simp only;have h:=zlE oj (λd=>d == i);rw[h];cases ztc (λd=>d == i) (zuv oj)<;> rfl
def zr8(bar:Bool)(P:Program)(ops:Array Oper)(s:List Bool)(l:List Nat)(n:Nat):Bool:=
 l.contains n && (zdH bar (zbC P ops n)|| zm7 P ops n) && (l.all λi=>i == n || (alI (zbC P ops i) && zim ops s i)) &&
 (alI (zbC P ops n)|| zm7 P ops n || (l.all λi=>i == n || ziK (zbC P ops i))) &&
 ((List.range ops.size).all λk=>bif zos s k true then true else bif l.contains k then true else(match ops[k]? with
  | some o=>ztc (λd=>bif zos s d false then false else(d == n || !l.contains d)) (zuv o)
  | none=>true))
theorem zo3(bar:Bool)(P:Program)(ops:Array Oper)(s:List Bool)(l:List Nat)(n:Nat):zr8 bar P ops s l n=okN bar P ops s.toArray l n:=by
 unfold zr8 okN;congr 1
 .congr 2
  congr 1
  funext i
  rw[ziQ]
 congr 1
 funext k
 rw[zfJ];cases s.toArray.getD k true with
 | true=>rfl
 | false=>
  cases l.contains k with
  | true=>rfl
  | false=>
   simp only[qcS,qbD];cases ops[k]? with
   | none=>rfl
   | some o=>
    simp only;have h:=zlE o (λd=>bif zos s d false then false else(d == n || !l.contains d));rw[<- h];congr 1
    funext e
    rw[zfJ];cases Region.binds .any e<;>cases s.toArray.getD e.on false<;>rfl
def zed(bar:Bool)(P:Program)(ops:Array Oper)(s:List Bool)(l:List Nat):Nat:=
 match l.find? λi=>!alI (zbC P ops i)with
 | some i=>i
 | none=>match l.find? λi=>!ziK (zbC P ops i) && zr8 bar P ops s l i with
  | some i=>i
  | none=>(l.find? λi=>zr8 bar P ops s l i).getD 0
theorem zpV(bar:Bool)(P:Program)(ops:Array Oper)(s:List Bool)(l:List Nat):zed bar P ops s l=zjf bar P ops s.toArray l:=by
 unfold zed zjf;simp only[zo3];rfl
theorem zoG(l:List Bool)(i:Nat):l.toArray.setIfInBounds i true=(l.set i true).toArray:=by simp
def zgH(P:Program)(ops:Array Oper):Nat->List Bool->Option (List Nat)
 | 0,s=>if(zcy ops s).isEmpty then some []else none
 | f+1,s=>
  match (zcy ops s).find? λi=>zae (zbC P ops i) && zim ops s i && !znT ops i with
  | some i=>(zn8 s i true λs'=>zgH P ops f s').map (i :: ·)
  | none=>match zcy ops s with
   | []=>some []
   | [i]=>(zn8 s i true λs'=>zgH P ops f s').map (i :: ·)
   | _=>none
theorem zkl(P:Program)(ops:Array Oper):∀(f:Nat) (s:List Bool),zgH P ops f s=ziE P ops f s.toArray
 | 0,s=>by simp only[zgH,ziE,zfn]
 | f+1,s=>by
  simp only[zgH,ziE,zfn,zfO,zkl P ops f,zoG,ziQ];rfl
def zeJ(bar:Bool)(P:Program)(ops:Array Oper):Nat->List Bool->Option (List Nat×List Nat)
 | 0,s=>if(zcy ops s).isEmpty then some ([],[])else none
 | f+1,s=>
  match (zcy ops s).find? λi=>zae (zbC P ops i) && zim ops s i && (!znT ops i || zjx bar P ops s.toArray i)with
  | some i=>(zn8 s i true λs'=>zeJ bar P ops f s').map λr=>(i :: r.1,r.2)
  | none=>match zcy ops s with
   | []=>some ([],[])
   | [i]=>bif zdH bar (zbC P ops i)|| wrI (zbC P ops i)then(zn8 s i true λs'=>zeJ bar P ops f s').map λr=>(i :: r.1,r.2)else(zgH P ops (f+1) s).map λr=>([],r)
   | i :: j :: l=>bif zr8 bar P ops s (i :: j :: l) (zed bar P ops s (i :: j :: l))then
     (match zn8 s (zed bar P ops s (i :: j :: l)) true λs'=>zeJ bar P ops f s' with
     | some r=>bif okF P ops (i :: j :: l) (zed bar P ops s (i :: j :: l)) r.1 then some (zed bar P ops s (i :: j :: l):: r.1,r.2)else none
     | none=>none)else none
theorem zlD(bar:Bool)(P:Program)(ops:Array Oper):∀(f:Nat) (s:List Bool),zeJ bar P ops f s=zdU bar P ops f s.toArray
 | 0,s=>by simp only[zeJ,zdU,zfn]
 | f+1,s=>by
  simp only[zeJ,zdU,zfn,zfO,zlD bar P ops f,zoG,ziQ,zo3,zpV,zkl];rfl
def ztF{β:Type}(n:Nat)(k:List Bool->β):β:=zcc (List.replicate n false) k
def zdx(bar:Bool)(P:Program)(ops:Array Oper):Option (List Nat×List Nat):=
 if Region.noSelect ops && zeB ops && ztb P ops then ztF ops.size λs=>zeJ bar P ops ops.size s else none
theorem zkM(bar:Bool)(P:Program)(ops:Array Oper):zdx bar P ops=zut bar P ops:=by
 unfold zdx zut ztF;simp only[zbJ,zlD];rw[show(List.replicate ops.size false).toArray=Array.replicate ops.size false by simp]
def zbr(P:Program)(N:Nat):Code->C
 | .skip=>.skip
 | .region _ ops false=>bif ops.all (λo=>zfB N o.dst)then .reg false false (ops.toList.map (irO P N ops))else .bad
 | .region _ ops true=>bif ops.all (λo=>zfB N o.dst)then(match zdx false P ops with
  | some (l,l')=>.reg true false ((l ++ l').flatMap (zj5 P N ops))
  | none=>(match zdx true P ops with
   | some (l,l')=>.reg true true ((l ++ l').flatMap (zj5 P N ops))
   | none=>.bad))else .bad
 | .seq a b=>.seq (zbr P N a) (zbr P N b)
 | .cond c a b=>.cond (opX c) (zbr P N a) (zbr P N b)
 | .block id c=>.block id (zbr P N c)
 | .loop c=>.loop (zbr P N c)
 | .rangeFunc x ps a b=>.zdy (opX x) ps.toList (zbr P N a) (zbr P N b)
 | .exit id=>.exit id
 | .scope c=>.scope (zbr P N c)
 | .label l=>.label l
 | .ret=>.ret
 | _=>.bad
theorem zq6(P:Program)(N:Nat)(c:Code):zbr P N c=comp P N c:=by
 induction c with
 | region id ops dr=>cases dr<;>simp only[zbr,comp,zkM]<;>rfl
 | seq a b iha ihb=>simp only[zbr,comp,iha,ihb]
 | cond x a b iha ihb=>simp only[zbr,comp,iha,ihb]
 | block id c ih=>simp only[zbr,comp,ih]
 | loop c ih=>simp only[zbr,comp,ih]
 | rangeFunc x ps a b iha ihb=>simp only[zbr,comp,iha,ihb]
 | scope c ih=>simp only[zbr,comp,ih]
 | _=>rfl
def zfP(P:Program)(f:Nat):Option Fn:=
 match P.funcs[f]? with
 | some fn=>(match fn.body with
  | some c=>bif !wrF f && !(fn.name == "runtime.NumGoroutine") && fn.results.toList.all (ziP P)then some ⟨fn.ntmps,zbr P fn.ntmps c,fn.results.toList.map (zik P),false⟩else none
  | none=>none)
 | none=>none
theorem zgv(P:Program)(f:Nat):zfP P f=zgk P f:=by
 unfold zfP zgk;simp only[zq6];rfl
def zvc(P:Program)(l:List Nat)(f:Nat):Option Fn:=
 match zfP P f with
 | some fn=>some ⟨fn.N,fn.c,fn.rs,l.any λi=>Nat.beq i f⟩
 | none=>none
variable{P:Program}
theorem zqn{f:Nat}{fn:Fn}(h:zgk P f=some fn):fn.p=false:=by
 unfold zgk at h;split at h
 .split at h
  .simp only[cond_eq_ite]at h;split at h
   .cases h; rfl
   cases h
  cases h
 cases h
theorem ztv{l:List Nat}(f:Nat)(fn:Fn)(h:zvc P l f=some fn):zha P f fn:=by
 unfold zvc at h;rw[zgv]at h;cases hc:zgk P f with
 | none=>rw[hc]at h; cases h
 | some g=>
  rw[hc]at h;cases h;have hp:=zqn hc;unfold zha;rw[hc];cases g;simp only at hp;subst hp;rfl
theorem zha.ofL{f:Nat}{fn:Fn}(h:zfP P f=some { fn with p:=false }):zha P f fn:=by
 unfold zha; rw[<- zgv]; exact h
end Go.Mx
