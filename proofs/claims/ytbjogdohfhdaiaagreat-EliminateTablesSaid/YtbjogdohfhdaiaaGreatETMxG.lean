/-
 The order of a region once more, for the kernel. Conditions: none.
-/
import Derived.Test.YtbjogdohfhdaiaaGreatETMx14
set_option linter.unusedSimpArgs false
set_option linter.unusedVariables false
namespace Go.Mx
open Go
def zvv:List Bool->Nat->Bool->Bool
 | [],_,d=>d
 | x :: r,n,d=>match n with
  | .zero=>x
  | .succ m=>zvv r m d
theorem zij:∀(l:List Bool) (n:Nat) (d:Bool),zvv l n d=l.toArray.getD n d
 | [],n,d=>by simp[zvv]
 | x :: r,0,d=>by simp[zvv]
 | x :: r,n+1,d=>by
  simp only[zvv,zij r n d];simp[qcL]
def zz2:List Edge->List Nat
 | []=>[]
 | e :: r=>bif Region.binds .any e then e.on :: zz2 r else zz2 r
def zA2(o:Oper):List Nat:=zz2 o.after.toList
def zAA(p:Nat->Bool):List Nat->Bool
 | []=>false
 | d :: r=>bif p d then true else zAA p r
def zC6(p:Nat->Bool):List Nat->Bool
 | []=>true
 | d :: r=>bif p d then zC6 p r else false
theorem ztr(p:Nat->Bool):∀ l:List Edge,l.any (λe=>Region.binds .any e && p e.on)=zAA p (zz2 l)
 | []=>rfl
 | e :: r=>by
  simp only[List.any_cons,ztr p r,zz2];cases h1:Region.binds .any e with
  | false=>rfl
  | true=>simp only[qdw,zAA,qbG]; cases p e.on<;>rfl
theorem zvN(p:Nat->Bool):∀ l:List Edge,l.all (λe=>!Region.binds .any e || p e.on)=zC6 p (zz2 l)
 | []=>rfl
 | e :: r=>by
  simp only[qdo,zvN p r,zz2];cases h1:Region.binds .any e with
  | false=>rfl
  | true=>simp only[qdw,zC6,qbf,qcN]; cases p e.on<;>rfl
theorem zp5(o:Oper)(p:Nat->Bool):(o.after.any λe=>Region.binds .any e && p e.on)=zAA p (zA2 o):=by
 rw[<- Array.any_toList,ztr]; rfl
theorem zxv(o:Oper)(p:Nat->Bool):(o.after.all λe=>!Region.binds .any e || p e.on)=zC6 p (zA2 o):=by
 rw[<- Array.all_toList,zvN]; rfl
def zeP(ops:Array Oper)(l:List Bool):List Nat:=
 (List.range ops.size).filter λi=>bif zvv l i true then false else(match ops[i]? with | some o=>zC6 (λd=>zvv l d false) (zA2 o)| none=>false)
theorem zhA(ops:Array Oper)(l:List Bool):zeP ops l=Region.ready .any ops l.toArray:=by
 unfold zeP Region.ready;congr 1
 funext i
 rw[zij];cases l.toArray.getD i true with
 | true=>rfl
 | false=>
  cases ops[i]? with
  | none=>rfl
  | some o=>
   simp only[qdx,qbE,qbG,qaX,qbB];rw[<- zxv];congr 1
   funext e
   rw[zij]
def zos(ops:Array Oper)(l:List Bool)(i:Nat):Bool:=
 match ops[i]? with
 | none=>false
 | some oi=>(List.range ops.size).all λj=>bif j == i then true else bif zvv l j true then true else(match ops[j]? with
   | some oj=>bif zAA (λd=>d == i) (zA2 oj)then true else oi.apart ops oj
   | none=>true)
theorem zmy(ops:Array Oper)(l:List Bool)(i:Nat):zos ops l i=Region.free .any ops l.toArray i:=by
 unfold zos Region.free;cases ops[i]? with
 | none=>rfl
 | some oi=>
  simp only;congr 1
  funext j
  rw[zij];cases(j == i)with
  | true=>rfl
  | false=>
   cases l.toArray.getD j true with
   | true=>rfl
   | false=>
    simp only[qdx,qcN];cases ops[j]? with
    | none=>rfl
    | some oj=>
     simp only;have h:=zp5 oj (λd=>d == i);rw[h];cases zAA (λd=>d == i) (zA2 oj)<;> rfl
def zyr(bar:Bool)(P:Program)(ops:Array Oper)(s:List Bool)(l:List Nat)(n:Nat):Bool:=
 l.contains n && (zfR bar (zcY P ops n)|| zsd P ops n) && (l.all λi=>i == n || (alI (zcY P ops i) && zos ops s i)) &&
 (alI (zcY P ops n)|| zsd P ops n || (l.all λi=>i == n || zl4 (zcY P ops i))) &&
 ((List.range ops.size).all λk=>bif zvv s k true then true else bif l.contains k then true else(match ops[k]? with
  | some o=>zAA (λd=>bif zvv s d false then false else(d == n || !l.contains d)) (zA2 o)
  | none=>true))
theorem zu5(bar:Bool)(P:Program)(ops:Array Oper)(s:List Bool)(l:List Nat)(n:Nat):zyr bar P ops s l n=okN bar P ops s.toArray l n:=by
 unfold zyr okN;congr 1
 .congr 2
  congr 1
  funext i
  rw[zmy]
 congr 1
 funext k
 rw[zij];cases s.toArray.getD k true with
 | true=>rfl
 | false=>
  cases l.contains k with
  | true=>rfl
  | false=>
   simp only[qdx,qcN];cases ops[k]? with
   | none=>rfl
   | some o=>
    simp only;have h:=zp5 o (λd=>bif zvv s d false then false else(d == n || !l.contains d));rw[<- h];congr 1
    funext e
    rw[zij];cases Region.binds .any e<;>cases s.toArray.getD e.on false<;>rfl
def zgM(bar:Bool)(P:Program)(ops:Array Oper)(s:List Bool)(l:List Nat):Nat:=
 match l.find? λi=>!alI (zcY P ops i)with
 | some i=>i
 | none=>match l.find? λi=>!zl4 (zcY P ops i) && zyr bar P ops s l i with
  | some i=>i
  | none=>(l.find? λi=>zyr bar P ops s l i).getD 0
theorem zu7(bar:Bool)(P:Program)(ops:Array Oper)(s:List Bool)(l:List Nat):zgM bar P ops s l=zmE bar P ops s.toArray l:=by
 unfold zgM zmE;simp only[zu5];rfl
theorem zvb(l:List Bool)(i:Nat):l.toArray.setIfInBounds i true=(l.set i true).toArray:=by simp
def zkb(P:Program)(ops:Array Oper):Nat->List Bool->Option (List Nat)
 | 0,s=>if(zeP ops s).isEmpty then some []else none
 | f+1,s=>
  match (zeP ops s).find? λi=>zai (zcY P ops i) && zos ops s i && !zs8 ops i with
  | some i=>(zvH s i true λs'=>zkb P ops f s').map (i :: ·)
  | none=>match zeP ops s with
   | []=>some []
   | [i]=>(zvH s i true λs'=>zkb P ops f s').map (i :: ·)
   | _=>none
theorem znY(P:Program)(ops:Array Oper):∀(f:Nat) (s:List Bool),zkb P ops f s=zl7 P ops f s.toArray
 | 0,s=>by simp only[zkb,zl7,zhA]
 | f+1,s=>by
  simp only[zkb,zl7,zhA,zid,znY P ops f,zvb,zmy];rfl
def ziA(bar:Bool)(P:Program)(ops:Array Oper):Nat->List Bool->Option (List Nat×List Nat)
 | 0,s=>if(zeP ops s).isEmpty then some ([],[])else none
 | f+1,s=>
  match (zeP ops s).find? λi=>zai (zcY P ops i) && zos ops s i && (!zs8 ops i || zpd bar P ops s.toArray i)with
  | some i=>(zvH s i true λs'=>ziA bar P ops f s').map λr=>(i :: r.1,r.2)
  | none=>match zeP ops s with
   | []=>some ([],[])
   | [i]=>bif zfR bar (zcY P ops i)|| wrI (zcY P ops i)then(zvH s i true λs'=>ziA bar P ops f s').map λr=>(i :: r.1,r.2)else(zkb P ops (f+1) s).map λr=>([],r)
   | i :: j :: l=>bif zyr bar P ops s (i :: j :: l) (zgM bar P ops s (i :: j :: l))then
     (match zvH s (zgM bar P ops s (i :: j :: l)) true λs'=>ziA bar P ops f s' with
     | some r=>bif okF P ops (i :: j :: l) (zgM bar P ops s (i :: j :: l)) r.1 then some (zgM bar P ops s (i :: j :: l):: r.1,r.2)else none
     | none=>none)else none
theorem zqs(bar:Bool)(P:Program)(ops:Array Oper):∀(f:Nat) (s:List Bool),ziA bar P ops f s=zgh bar P ops f s.toArray
 | 0,s=>by simp only[ziA,zgh,zhA]
 | f+1,s=>by
  simp only[ziA,zgh,zhA,zid,zqs bar P ops f,zvb,zmy,zu5,zu7,znY];rfl
def zzR{β:Type}(n:Nat)(k:List Bool->β):β:=zdB (List.replicate n false) k
def zbT(bar:Bool)(P:Program)(ops:Array Oper):Option (List Nat×List Nat):=
 if Region.noSelect ops && zg1 ops && zAq P ops then zzR ops.size λs=>ziA bar P ops ops.size s else none
theorem zpH(bar:Bool)(P:Program)(ops:Array Oper):zbT bar P ops=zBg bar P ops:=by
 unfold zbT zBg zzR;simp only[zcD,zqs];rw[show(List.replicate ops.size false).toArray=Array.replicate ops.size false by simp]
def zb1(P:Program)(N:Nat):Code->C
 | .skip=>.skip
 | .region _ ops false=>bif ops.all (λo=>zhv N o.dst)then .reg false false (ops.toList.map (irO P N ops))else .bad
 | .region _ ops true=>bif ops.all (λo=>zhv N o.dst)then(match zbT false P ops with
  | some (l,l')=>.reg true false ((l ++ l').flatMap (zmW P N ops))
  | none=>(match zbT true P ops with
   | some (l,l')=>.reg true true ((l ++ l').flatMap (zmW P N ops))
   | none=>.bad))else .bad
 | .seq a b=>.seq (zb1 P N a) (zb1 P N b)
 | .cond c a b=>.cond (opX c) (zb1 P N a) (zb1 P N b)
 | .block id c=>.block id (zb1 P N c)
 | .loop c=>.loop (zb1 P N c)
 | .rangeFunc x ps a b=>.zed (opX x) ps.toList (zb1 P N a) (zb1 P N b)
 | .exit id=>.exit id
 | .scope c=>.scope (zb1 P N c)
 | .label l=>.label l
 | .ret=>.ret
 | _=>.bad
theorem zxP(P:Program)(N:Nat)(c:Code):zb1 P N c=comp P N c:=by
 induction c with
 | region id ops dr=>cases dr<;>simp only[zb1,comp,zpH]<;>rfl
 | seq a b iha ihb=>simp only[zb1,comp,iha,ihb]
 | cond x a b iha ihb=>simp only[zb1,comp,iha,ihb]
 | block id c ih=>simp only[zb1,comp,ih]
 | loop c ih=>simp only[zb1,comp,ih]
 | rangeFunc x ps a b iha ihb=>simp only[zb1,comp,iha,ihb]
 | scope c ih=>simp only[zb1,comp,ih]
 | _=>rfl
def zkd(P:Program)(f:Nat):Option Fn:=
 match P.funcs[f]? with
 | some fn=>(match fn.body with
  | some c=>bif !wrF f && !(fn.name == "runtime.NumGoroutine") && fn.results.toList.all (zlw P)then some ⟨fn.ntmps,zb1 P fn.ntmps c,fn.results.toList.map (zme P),false⟩else none
  | none=>none)
 | none=>none
theorem zoy(P:Program)(f:Nat):zkd P f=zjd P f:=by
 unfold zkd zjd;simp only[zxP];rfl
def zDf(P:Program)(l:List Nat)(f:Nat):Option Fn:=
 match zkd P f with
 | some fn=>some ⟨fn.N,fn.c,fn.rs,l.any λi=>Nat.beq i f⟩
 | none=>none
theorem zvi{P:Program}{f:Nat}{fn:Fn}(h:zjd P f=some fn):fn.p=false:=by
 unfold zjd at h;split at h
 .split at h
  .simp only[cond_eq_ite]at h;split at h
   .cases h; rfl
   cases h
  cases h
 cases h
theorem zz4{P:Program}{l:List Nat}(f:Nat)(fn:Fn)(h:zDf P l f=some fn):zmV P f fn:=by
 unfold zDf at h;rw[zoy]at h;cases hc:zjd P f with
 | none=>rw[hc]at h; cases h
 | some g=>
  rw[hc]at h;cases h;have hp:=zvi hc;unfold zmV;rw[hc];cases g;simp only at hp;subst hp;rfl
end Go.Mx
