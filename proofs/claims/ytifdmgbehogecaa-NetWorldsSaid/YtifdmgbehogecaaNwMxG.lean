/-
 The order of a region once more, for the kernel. Conditions: none.
-/
import Derived.Test.YtifdmgbehogecaaNwMx14
set_option linter.unusedSimpArgs false
set_option linter.unusedVariables false
namespace Go.Mx
open Go
def zqW:List Bool→Nat→Bool→Bool
 | [],_,d=>d
 | x :: r,n,d=>match n with
  | .zero=>x
  | .succ m=>zqW r m d
theorem zgD:∀(l:List Bool) (n:Nat) (d:Bool),zqW l n d=l.toArray.getD n d
 | [],n,d=>by simp[zqW]
 | x :: r,0,d=>by simp[zqW]
 | x :: r,n+1,d=>by
  simp only[zqW,zgD r n d];simp[qb7]
def zuh:List Edge→List Nat
 | []=>[]
 | e :: r=>bif Region.binds .any e then e.on :: zuh r else zuh r
def zuq(o:Oper):List Nat:=zuh o.after.toList
def zt9(p:Nat→Bool):List Nat→Bool
 | []=>false
 | d :: r=>bif p d then true else zt9 p r
def zvb(p:Nat→Bool):List Nat→Bool
 | []=>true
 | d :: r=>bif p d then zvb p r else false
theorem zqk(p:Nat→Bool):∀ l:List Edge,l.any (fun e=>Region.binds .any e && p e.on)=zt9 p (zuh l)
 | []=>rfl
 | e :: r=>by
  simp only[List.any_cons,zqk p r,zuh];cases h1:Region.binds .any e with
  | false=>rfl
  | true=>simp only[cond_true,zt9,qcf]; cases p e.on<;>rfl
theorem zqZ(p:Nat→Bool):∀ l:List Edge,l.all (fun e=>!Region.binds .any e || p e.on)=zvb p (zuh l)
 | []=>rfl
 | e :: r=>by
  simp only[List.all_cons,zqZ p r,zuh];cases h1:Region.binds .any e with
  | false=>rfl
  | true=>simp only[cond_true,zvb,qaW,qcG]; cases p e.on<;>rfl
theorem znl(o:Oper)(p:Nat→Bool):(o.after.any fun e=>Region.binds .any e && p e.on)=zt9 p (zuq o):=by
 rw[← Array.any_toList,zqk]; rfl
theorem zrv(o:Oper)(p:Nat→Bool):(o.after.all fun e=>!Region.binds .any e || p e.on)=zvb p (zuq o):=by
 rw[← Array.all_toList,zqZ]; rfl
def zha(ops:Array Oper)(l:List Bool):List Nat:=
 (List.range ops.size).filter fun i=>bif zqW l i true then false else(match ops[i]? with | some o=>zvb (fun d=>zqW l d false) (zuq o)| none=>false)
theorem zgd(ops:Array Oper)(l:List Bool):zha ops l=Region.ready .any ops l.toArray:=by
 unfold zha Region.ready;congr 1
 funext i
 rw[zgD];cases l.toArray.getD i true with
 | true=>rfl
 | false=>
  cases ops[i]? with
  | none=>rfl
  | some o=>
   simp only[cond_false,qbp,qcf,qaJ,qbh];rw[← zrv];congr 1
   funext e
   rw[zgD]
def zr8(ops:Array Oper)(l:List Bool)(i:Nat):Bool:=
 match ops[i]? with
 | none=>false
 | some oi=>(List.range ops.size).all fun j=>bif j == i then true else bif zqW l j true then true else(match ops[j]? with
   | some oj=>bif zt9 (fun d=>d == i) (zuq oj)then true else oi.apart ops oj
   | none=>true)
theorem znG(ops:Array Oper)(l:List Bool)(i:Nat):zr8 ops l i=Region.free .any ops l.toArray i:=by
 unfold zr8 Region.free;cases ops[i]? with
 | none=>rfl
 | some oi=>
  simp only;congr 1
  funext j
  rw[zgD];cases(j == i)with
  | true=>rfl
  | false=>
   cases l.toArray.getD j true with
   | true=>rfl
   | false=>
    simp only[cond_false,qcG];cases ops[j]? with
    | none=>rfl
    | some oj=>
     simp only;have h:=znl oj (fun d=>d == i);rw[h];cases zt9 (fun d=>d == i) (zuq oj)<;> rfl
def zvR(bar:Bool)(P:Program)(ops:Array Oper)(s:List Bool)(l:List Nat)(n:Nat):Bool:=
 l.contains n && (zfJ bar (zdq P ops n)|| zou P ops n) && (l.all fun i=>i == n || (alI (zdq P ops i) && zr8 ops s i)) &&
 (alI (zdq P ops n)|| zou P ops n || (l.all fun i=>i == n || zi4 (zdq P ops i))) &&
 ((List.range ops.size).all fun k=>bif zqW s k true then true else bif l.contains k then true else(match ops[k]? with
  | some o=>zt9 (fun d=>bif zqW s d false then false else(d == n || !l.contains d)) (zuq o)
  | none=>true))
theorem zpS(bar:Bool)(P:Program)(ops:Array Oper)(s:List Bool)(l:List Nat)(n:Nat):zvR bar P ops s l n=okN bar P ops s.toArray l n:=by
 unfold zvR okN;congr 1
 ·congr 2
  congr 1
  funext i
  rw[znG]
 congr 1
 funext k
 rw[zgD];cases s.toArray.getD k true with
 | true=>rfl
 | false=>
  cases l.contains k with
  | true=>rfl
  | false=>
   simp only[cond_false,qcG];cases ops[k]? with
   | none=>rfl
   | some o=>
    simp only;have h:=znl o (fun d=>bif zqW s d false then false else(d == n || !l.contains d));rw[← h];congr 1
    funext e
    rw[zgD];cases Region.binds .any e<;>cases s.toArray.getD e.on false<;>rfl
def zig(bar:Bool)(P:Program)(ops:Array Oper)(s:List Bool)(l:List Nat):Nat:=
 match l.find? fun i=>!alI (zdq P ops i)with
 | some i=>i
 | none=>match l.find? fun i=>!zi4 (zdq P ops i) && zvR bar P ops s l i with
  | some i=>i
  | none=>(l.find? fun i=>zvR bar P ops s l i).getD 0
theorem zqN(bar:Bool)(P:Program)(ops:Array Oper)(s:List Bool)(l:List Nat):zig bar P ops s l=zjR bar P ops s.toArray l:=by
 unfold zig zjR;simp only[zpS];rfl
theorem zo6(l:List Bool)(i:Nat):l.toArray.setIfInBounds i true=(l.set i true).toArray:=by simp
def zk0(ops:Array Oper):Nat→List Bool→Option (List Nat)
 | 0,s=>if(zha ops s).isEmpty then some []else none
 | f+1,s=>
  match zha ops s with
  | []=>some []
  | [i]=>(zrb s i true fun s'=>zk0 ops f s').map (i :: ·)
  | _=>none
theorem zka(ops:Array Oper):∀(f:Nat) (s:List Bool),zk0 ops f s=zlp ops f s.toArray
 | 0,s=>by simp only[zk0,zlp,zgd]
 | f+1,s=>by
  simp only[zk0,zlp,zgd,zjm,zka ops f,zo6];rfl
def zmi(bar:Bool)(P:Program)(ops:Array Oper):Nat→List Bool→Option (List Nat×List Nat)
 | 0,s=>if(zha ops s).isEmpty then some ([],[])else none
 | f+1,s=>
  match (zha ops s).find? fun i=>zak (zdq P ops i) && zr8 ops s i && (!zwl ops i || zrl bar P ops s.toArray i)with
  | some i=>(zrb s i true fun s'=>zmi bar P ops f s').map fun r=>(i :: r.1,r.2)
  | none=>match zha ops s with
   | []=>some ([],[])
   | [i]=>bif zfJ bar (zdq P ops i)then(zrb s i true fun s'=>zmi bar P ops f s').map fun r=>(i :: r.1,r.2)else(zk0 ops (f+1) s).map fun r=>([],r)
   | i :: j :: l=>bif zvR bar P ops s (i :: j :: l) (zig bar P ops s (i :: j :: l))then
     (match zrb s (zig bar P ops s (i :: j :: l)) true fun s'=>zmi bar P ops f s' with
     | some r=>bif okF P ops (i :: j :: l) (zig bar P ops s (i :: j :: l)) r.1 then some (zig bar P ops s (i :: j :: l):: r.1,r.2)else none
     | none=>none)else none
theorem zmU(bar:Bool)(P:Program)(ops:Array Oper):∀(f:Nat) (s:List Bool),zmi bar P ops f s=zeN bar P ops f s.toArray
 | 0,s=>by simp only[zmi,zeN,zgd]
 | f+1,s=>by
  simp only[zmi,zeN,zgd,zjm,zmU bar P ops f,zo6,znG,zpS,zqN,zka];rfl
def zuT{β:Type}(n:Nat)(k:List Bool→β):β:=zcP (List.replicate n false) k
def zgY(bar:Bool)(P:Program)(ops:Array Oper):Option (List Nat×List Nat):=
 if Region.noSelect ops && zhU ops && zuA P ops then zuT ops.size fun s=>zmi bar P ops ops.size s else none
theorem zmn(bar:Bool)(P:Program)(ops:Array Oper):zgY bar P ops=zuo bar P ops:=by
 unfold zgY zuo zuT;simp only[zct,zmU];rw[show(List.replicate ops.size false).toArray=Array.replicate ops.size false by simp]
def zeH(P:Program)(N:Nat):Code→C
 | .skip=>.skip
 | .region _ ops false=>bif ops.all (fun o=>zgV N o.dst)then .reg false false (ops.toList.map (irO P N ops))else .bad
 | .region _ ops true=>bif ops.all (fun o=>zgV N o.dst)then(match zgY false P ops with
  | some (l,l')=>.reg true false ((l ++ l').flatMap (zmM P N ops))
  | none=>(match zgY true P ops with
   | some (l,l')=>.reg true true ((l ++ l').flatMap (zmM P N ops))
   | none=>.bad))else .bad
 | .seq a b=>.seq (zeH P N a) (zeH P N b)
 | .cond c a b=>.cond (opX c) (zeH P N a) (zeH P N b)
 | .block id c=>.block id (zeH P N c)
 | .loop c=>.loop (zeH P N c)
 | .rangeFunc x ps a b=>.zeI (opX x) ps.toList (zeH P N a) (zeH P N b)
 | .exit id=>.exit id
 | .scope c=>.scope (zeH P N c)
 | .label l=>.label l
 | .ret=>.ret
 | _=>.bad
theorem zry(P:Program)(N:Nat)(c:Code):zeH P N c=comp P N c:=by
 induction c with
 | region id ops dr=>cases dr<;>simp only[zeH,comp,zmn]<;>rfl
 | seq a b iha ihb=>simp only[zeH,comp,iha,ihb]
 | cond x a b iha ihb=>simp only[zeH,comp,iha,ihb]
 | block id c ih=>simp only[zeH,comp,ih]
 | loop c ih=>simp only[zeH,comp,ih]
 | rangeFunc x ps a b iha ihb=>simp only[zeH,comp,iha,ihb]
 | scope c ih=>simp only[zeH,comp,ih]
 | _=>rfl
def ziL(P:Program)(f:Nat):Option Fn:=
 match P.funcs[f]? with
 | some fn=>(match fn.body with
  | some c=>bif !(fn.name == "runtime.NumGoroutine") && fn.results.toList.all (zlG P)then some ⟨fn.ntmps,zeH P fn.ntmps c,fn.results.toList.map (zkw P),false⟩else none
  | none=>none)
 | none=>none
theorem zkb(P:Program)(f:Nat):ziL P f=zh6 P f:=by
 unfold ziL zh6;simp only[zry];rfl
def zvy(P:Program)(l:List Nat)(f:Nat):Option Fn:=
 match ziL P f with
 | some fn=>some ⟨fn.N,fn.c,fn.rs,l.any fun i=>Nat.beq i f⟩
 | none=>none
theorem zqT{P:Program}{f:Nat}{fn:Fn}(h:zh6 P f=some fn):fn.p=false:=by
 unfold zh6 at h;split at h
 ·split at h
  ·simp only[cond_eq_ite]at h;split at h
   ·cases h; rfl
   cases h
  cases h
 cases h
theorem ztT{P:Program}{l:List Nat}(f:Nat)(fn:Fn)(h:zvy P l f=some fn):znv P f fn:=by
 unfold zvy at h;rw[zkb]at h;cases hc:zh6 P f with
 | none=>rw[hc]at h; cases h
 | some g=>
  rw[hc]at h;cases h;have hp:=zqT hc;unfold znv;rw[hc];cases g;simp only at hp;subst hp;rfl
end Go.Mx
