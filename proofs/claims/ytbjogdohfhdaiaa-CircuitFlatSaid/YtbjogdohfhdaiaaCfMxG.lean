/-
 The order of a region once more, for the kernel. Conditions: none.
-/
import Derived.Test.YtbjogdohfhdaiaaCfMx14
set_option linter.unusedSimpArgs false
set_option linter.unusedVariables false
namespace Go.Mx
open Go
def zuW:List Bool->Nat->Bool->Bool
 | [],_,d=>d
 | x :: r,n,d=>match n with
  | .zero=>x
  | .succ m=>zuW r m d
theorem zg6:∀(l:List Bool) (n:Nat) (d:Bool),zuW l n d=l.toArray.getD n d
 | [],n,d=>by simp[zuW]
 | x :: r,0,d=>by simp[zuW]
 | x :: r,n+1,d=>by
  simp only[zuW,zg6 r n d];simp[qcH]
def zyT:List Edge->List Nat
 | []=>[]
 | e :: r=>bif Region.binds .any e then e.on :: zyT r else zyT r
def zzB(o:Oper):List Nat:=zyT o.after.toList
def zyG(p:Nat->Bool):List Nat->Bool
 | []=>false
 | d :: r=>bif p d then true else zyG p r
def zzQ(p:Nat->Bool):List Nat->Bool
 | []=>true
 | d :: r=>bif p d then zzQ p r else false
theorem zrG(p:Nat->Bool):∀ l:List Edge,l.any (λe=>Region.binds .any e && p e.on)=zyG p (zyT l)
 | []=>rfl
 | e :: r=>by
  simp only[qcO,zrG p r,zyT];cases h1:Region.binds .any e with
  | false=>rfl
  | true=>simp only[qdl,zyG,qbB]; cases p e.on<;>rfl
theorem ztI(p:Nat->Bool):∀ l:List Edge,l.all (λe=>!Region.binds .any e || p e.on)=zzQ p (zyT l)
 | []=>rfl
 | e :: r=>by
  simp only[qb5,ztI p r,zyT];cases h1:Region.binds .any e with
  | false=>rfl
  | true=>simp only[qdl,zzQ,qba,qb4]; cases p e.on<;>rfl
theorem zp8(o:Oper)(p:Nat->Bool):(o.after.any λe=>Region.binds .any e && p e.on)=zyG p (zzB o):=by
 rw[<- Array.any_toList,zrG]; rfl
theorem zvn(o:Oper)(p:Nat->Bool):(o.after.all λe=>!Region.binds .any e || p e.on)=zzQ p (zzB o):=by
 rw[<- Array.all_toList,ztI]; rfl
def zd8(ops:Array Oper)(l:List Bool):List Nat:=
 (List.range ops.size).filter λi=>bif zuW l i true then false else(match ops[i]? with | some o=>zzQ (λd=>zuW l d false) (zzB o)| none=>false)
theorem zgB(ops:Array Oper)(l:List Bool):zd8 ops l=Region.ready .any ops l.toArray:=by
 unfold zd8 Region.ready;congr 1
 funext i
 rw[zg6];cases l.toArray.getD i true with
 | true=>rfl
 | false=>
  cases ops[i]? with
  | none=>rfl
  | some o=>
   simp only[qdm,qbW,qbB,qaM,qbP];rw[<- zvn];congr 1
   funext e
   rw[zg6]
def zlI(ops:Array Oper)(l:List Bool)(i:Nat):Bool:=
 match ops[i]? with
 | none=>false
 | some oi=>(List.range ops.size).all λj=>bif j == i then true else bif zuW l j true then true else(match ops[j]? with
   | some oj=>bif zyG (λd=>d == i) (zzB oj)then true else oi.apart ops oj
   | none=>true)
theorem zkN(ops:Array Oper)(l:List Bool)(i:Nat):zlI ops l i=Region.free .any ops l.toArray i:=by
 unfold zlI Region.free;cases ops[i]? with
 | none=>rfl
 | some oi=>
  simp only;congr 1
  funext j
  rw[zg6];cases(j == i)with
  | true=>rfl
  | false=>
   cases l.toArray.getD j true with
   | true=>rfl
   | false=>
    simp only[qdm,qb4];cases ops[j]? with
    | none=>rfl
    | some oj=>
     simp only;have h:=zp8 oj (λd=>d == i);rw[h];cases zyG (λd=>d == i) (zzB oj)<;> rfl
def zxH(bar:Bool)(P:Program)(ops:Array Oper)(s:List Bool)(l:List Nat)(n:Nat):Bool:=
 l.contains n && (zeZ bar (zck P ops n)|| zqu P ops n) && (l.all λi=>i == n || (alI (zck P ops i) && zlI ops s i)) &&
 (alI (zck P ops n)|| zqu P ops n || (l.all λi=>i == n || zkm (zck P ops i))) &&
 ((List.range ops.size).all λk=>bif zuW s k true then true else bif l.contains k then true else(match ops[k]? with
  | some o=>zyG (λd=>bif zuW s d false then false else(d == n || !l.contains d)) (zzB o)
  | none=>true))
theorem zsI(bar:Bool)(P:Program)(ops:Array Oper)(s:List Bool)(l:List Nat)(n:Nat):zxH bar P ops s l n=okN bar P ops s.toArray l n:=by
 unfold zxH okN;congr 1
 .congr 2
  congr 1
  funext i
  rw[zkN]
 congr 1
 funext k
 rw[zg6];cases s.toArray.getD k true with
 | true=>rfl
 | false=>
  cases l.contains k with
  | true=>rfl
  | false=>
   simp only[qdm,qb4];cases ops[k]? with
   | none=>rfl
   | some o=>
    simp only;have h:=zp8 o (λd=>bif zuW s d false then false else(d == n || !l.contains d));rw[<- h];congr 1
    funext e
    rw[zg6];cases Region.binds .any e<;>cases s.toArray.getD e.on false<;>rfl
def zfZ(bar:Bool)(P:Program)(ops:Array Oper)(s:List Bool)(l:List Nat):Nat:=
 match l.find? λi=>!alI (zck P ops i)with
 | some i=>i
 | none=>match l.find? λi=>!zkm (zck P ops i) && zxH bar P ops s l i with
  | some i=>i
  | none=>(l.find? λi=>zxH bar P ops s l i).getD 0
theorem zt0(bar:Bool)(P:Program)(ops:Array Oper)(s:List Bool)(l:List Nat):zfZ bar P ops s l=zke bar P ops s.toArray l:=by
 unfold zfZ zke;simp only[zsI];rfl
theorem zuc(l:List Bool)(i:Nat):l.toArray.setIfInBounds i true=(l.set i true).toArray:=by simp
def zim(P:Program)(ops:Array Oper):Nat->List Bool->Option (List Nat)
 | 0,s=>if(zd8 ops s).isEmpty then some []else none
 | f+1,s=>
  match (zd8 ops s).find? λi=>zag (zck P ops i) && zlI ops s i && !ztN ops i with
  | some i=>(ztO s i true λs'=>zim P ops f s').map (i :: ·)
  | none=>match zd8 ops s with
   | []=>some []
   | [i]=>(ztO s i true λs'=>zim P ops f s').map (i :: ·)
   | _=>none
theorem zmL(P:Program)(ops:Array Oper):∀(f:Nat) (s:List Bool),zim P ops f s=zkO P ops f s.toArray
 | 0,s=>by simp only[zim,zkO,zgB]
 | f+1,s=>by
  simp only[zim,zkO,zgB,zhl,zmL P ops f,zuc,zkN];rfl
def zg7(bar:Bool)(P:Program)(ops:Array Oper):Nat->List Bool->Option (List Nat×List Nat)
 | 0,s=>if(zd8 ops s).isEmpty then some ([],[])else none
 | f+1,s=>
  match (zd8 ops s).find? λi=>zag (zck P ops i) && zlI ops s i && (!ztN ops i || zn1 bar P ops s.toArray i)with
  | some i=>(ztO s i true λs'=>zg7 bar P ops f s').map λr=>(i :: r.1,r.2)
  | none=>match zd8 ops s with
   | []=>some ([],[])
   | [i]=>bif zeZ bar (zck P ops i)|| wrI (zck P ops i)then(ztO s i true λs'=>zg7 bar P ops f s').map λr=>(i :: r.1,r.2)else(zim P ops (f+1) s).map λr=>([],r)
   | i :: j :: l=>bif zxH bar P ops s (i :: j :: l) (zfZ bar P ops s (i :: j :: l))then
     (match ztO s (zfZ bar P ops s (i :: j :: l)) true λs'=>zg7 bar P ops f s' with
     | some r=>bif okF P ops (i :: j :: l) (zfZ bar P ops s (i :: j :: l)) r.1 then some (zfZ bar P ops s (i :: j :: l):: r.1,r.2)else none
     | none=>none)else none
theorem zpg(bar:Bool)(P:Program)(ops:Array Oper):∀(f:Nat) (s:List Bool),zg7 bar P ops f s=ze2 bar P ops f s.toArray
 | 0,s=>by simp only[zg7,ze2,zgB]
 | f+1,s=>by
  simp only[zg7,ze2,zgB,zhl,zpg bar P ops f,zuc,zkN,zsI,zt0,zmL];rfl
def zyA{β:Type}(n:Nat)(k:List Bool->β):β:=zcQ (List.replicate n false) k
def zeE(bar:Bool)(P:Program)(ops:Array Oper):Option (List Nat×List Nat):=
 if Region.noSelect ops && zgc ops && zzh P ops then zyA ops.size λs=>zg7 bar P ops ops.size s else none
theorem zn3(bar:Bool)(P:Program)(ops:Array Oper):zeE bar P ops=zzH bar P ops:=by
 unfold zeE zzH zyA;simp only[zb5,zpg];rw[show(List.replicate ops.size false).toArray=Array.replicate ops.size false by simp]
def zbM(P:Program)(N:Nat):Code->C
 | .skip=>.skip
 | .region _ ops false=>bif ops.all (λo=>zha N o.dst)then .reg false false (ops.toList.map (irO P N ops))else .bad
 | .region _ ops true=>bif ops.all (λo=>zha N o.dst)then(match zeE false P ops with
  | some (l,l')=>.reg true false ((l ++ l').flatMap (zmG P N ops))
  | none=>(match zeE true P ops with
   | some (l,l')=>.reg true true ((l ++ l').flatMap (zmG P N ops))
   | none=>.bad))else .bad
 | .seq a b=>.seq (zbM P N a) (zbM P N b)
 | .cond c a b=>.cond (opX c) (zbM P N a) (zbM P N b)
 | .block id c=>.block id (zbM P N c)
 | .loop c=>.loop (zbM P N c)
 | .rangeFunc x ps a b=>.zeG (opX x) ps.toList (zbM P N a) (zbM P N b)
 | .exit id=>.exit id
 | .scope c=>.scope (zbM P N c)
 | .label l=>.label l
 | .ret=>.ret
 | _=>.bad
theorem zvq(P:Program)(N:Nat)(c:Code):zbM P N c=comp P N c:=by
 induction c with
 | region id ops dr=>cases dr<;>simp only[zbM,comp,zn3]<;>rfl
 | seq a b iha ihb=>simp only[zbM,comp,iha,ihb]
 | cond x a b iha ihb=>simp only[zbM,comp,iha,ihb]
 | block id c ih=>simp only[zbM,comp,ih]
 | loop c ih=>simp only[zbM,comp,ih]
 | rangeFunc x ps a b iha ihb=>simp only[zbM,comp,iha,ihb]
 | scope c ih=>simp only[zbM,comp,ih]
 | _=>rfl
def zhH(P:Program)(f:Nat):Option Fn:=
 match P.funcs[f]? with
 | some fn=>(match fn.body with
  | some c=>bif !wrF f && !(fn.name == "runtime.NumGoroutine") && fn.results.toList.all (zk9 P)then some ⟨fn.ntmps,zbM P fn.ntmps c,fn.results.toList.map (zle P),false⟩else none
  | none=>none)
 | none=>none
theorem ziD(P:Program)(f:Nat):zhH P f=ziS P f:=by
 unfold zhH ziS;simp only[zvq];rfl
def zA6(P:Program)(l:List Nat)(f:Nat):Option Fn:=
 match zhH P f with
 | some fn=>some ⟨fn.N,fn.c,fn.rs,l.any λi=>Nat.beq i f⟩
 | none=>none
variable{P:Program}
theorem zuF{f:Nat}{fn:Fn}(h:ziS P f=some fn):fn.p=false:=by
 unfold ziS at h;split at h
 .split at h
  .simp only[cond_eq_ite]at h;split at h
   .cases h; rfl
   cases h
  cases h
 cases h
theorem zyL{l:List Nat}(f:Nat)(fn:Fn)(h:zA6 P l f=some fn):zjd P f fn:=by
 unfold zA6 at h;rw[ziD]at h;cases hc:ziS P f with
 | none=>rw[hc]at h; cases h
 | some g=>
  rw[hc]at h;cases h;have hp:=zuF hc;unfold zjd;rw[hc];cases g;simp only at hp;subst hp;rfl
theorem zjd.ofL{f:Nat}{fn:Fn}(h:zhH P f=some { fn with p:=false }):zjd P f fn:=by
 unfold zjd; rw[<- ziD]; exact h
end Go.Mx
