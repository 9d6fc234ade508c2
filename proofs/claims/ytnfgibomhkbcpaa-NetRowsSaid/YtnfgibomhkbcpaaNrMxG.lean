/-
 The order of a region once more, for the kernel. Conditions: none.
-/
import Derived.Test.YtnfgibomhkbcpaaNrMx14
set_option linter.unusedSimpArgs false
set_option linter.unusedVariables false
namespace Go.Mx
open Go
def zrl:List Bool→Nat→Bool→Bool
 | [],_,d=>d
 | x :: r,n,d=>match n with
  | .zero=>x
  | .succ m=>zrl r m d
theorem zgS:∀(l:List Bool) (n:Nat) (d:Bool),zrl l n d=l.toArray.getD n d
 | [],n,d=>by simp[zrl]
 | x :: r,0,d=>by simp[zrl]
 | x :: r,n+1,d=>by
  simp only[zrl,zgS r n d];simp[qcv]
def zvL:List Edge→List Nat
 | []=>[]
 | e :: r=>bif Region.binds .any e then e.on :: zvL r else zvL r
def zwJ(o:Oper):List Nat:=zvL o.after.toList
def zvV(p:Nat→Bool):List Nat→Bool
 | []=>false
 | d :: r=>bif p d then true else zvV p r
def zxS(p:Nat→Bool):List Nat→Bool
 | []=>true
 | d :: r=>bif p d then zxS p r else false
theorem zsz(p:Nat→Bool):∀ l:List Edge,l.any (fun e=>Region.binds .any e && p e.on)=zvV p (zvL l)
 | []=>rfl
 | e :: r=>by
  simp only[List.any_cons,zsz p r,zvL];cases h1:Region.binds .any e with
  | false=>rfl
  | true=>simp only[cond_true,zvV,qbL]; cases p e.on<;>rfl
theorem zsq(p:Nat→Bool):∀ l:List Edge,l.all (fun e=>!Region.binds .any e || p e.on)=zxS p (zvL l)
 | []=>rfl
 | e :: r=>by
  simp only[List.all_cons,zsq p r,zvL];cases h1:Region.binds .any e with
  | false=>rfl
  | true=>simp only[cond_true,zxS,qa7,qcG]; cases p e.on<;>rfl
theorem znW(o:Oper)(p:Nat→Bool):(o.after.any fun e=>Region.binds .any e && p e.on)=zvV p (zwJ o):=by
 rw[← Array.any_toList,zsz]; rfl
theorem ztE(o:Oper)(p:Nat→Bool):(o.after.all fun e=>!Region.binds .any e || p e.on)=zxS p (zwJ o):=by
 rw[← Array.all_toList,zsq]; rfl
def zg1(ops:Array Oper)(l:List Bool):List Nat:=
 (List.range ops.size).filter fun i=>bif zrl l i true then false else(match ops[i]? with | some o=>zxS (fun d=>zrl l d false) (zwJ o)| none=>false)
theorem zgw(ops:Array Oper)(l:List Bool):zg1 ops l=Region.ready .any ops l.toArray:=by
 unfold zg1 Region.ready;congr 1
 funext i
 rw[zgS];cases l.toArray.getD i true with
 | true=>rfl
 | false=>
  cases ops[i]? with
  | none=>rfl
  | some o=>
   simp only[cond_false,qbI,qbL,qaM,qbm];rw[← ztE];congr 1
   funext e
   rw[zgS]
def zr0(ops:Array Oper)(l:List Bool)(i:Nat):Bool:=
 match ops[i]? with
 | none=>false
 | some oi=>(List.range ops.size).all fun j=>bif j == i then true else bif zrl l j true then true else(match ops[j]? with
   | some oj=>bif zvV (fun d=>d == i) (zwJ oj)then true else oi.apart ops oj
   | none=>true)
theorem zjW(ops:Array Oper)(l:List Bool)(i:Nat):zr0 ops l i=Region.free .any ops l.toArray i:=by
 unfold zr0 Region.free;cases ops[i]? with
 | none=>rfl
 | some oi=>
  simp only;congr 1
  funext j
  rw[zgS];cases(j == i)with
  | true=>rfl
  | false=>
   cases l.toArray.getD j true with
   | true=>rfl
   | false=>
    simp only[cond_false,qcG];cases ops[j]? with
    | none=>rfl
    | some oj=>
     simp only;have h:=znW oj (fun d=>d == i);rw[h];cases zvV (fun d=>d == i) (zwJ oj)<;> rfl
def zwY(bar:Bool)(P:Program)(ops:Array Oper)(s:List Bool)(l:List Nat)(n:Nat):Bool:=
 l.contains n && (zfx bar (zcP P ops n)|| zpL P ops n) && (l.all fun i=>i == n || (alI (zcP P ops i) && zr0 ops s i)) &&
 (alI (zcP P ops n)|| zpL P ops n || (l.all fun i=>i == n || zkz (zcP P ops i))) &&
 ((List.range ops.size).all fun k=>bif zrl s k true then true else bif l.contains k then true else(match ops[k]? with
  | some o=>zvV (fun d=>bif zrl s d false then false else(d == n || !l.contains d)) (zwJ o)
  | none=>true))
theorem zqd(bar:Bool)(P:Program)(ops:Array Oper)(s:List Bool)(l:List Nat)(n:Nat):zwY bar P ops s l n=okN bar P ops s.toArray l n:=by
 unfold zwY okN;congr 1
 ·congr 2
  congr 1
  funext i
  rw[zjW]
 congr 1
 funext k
 rw[zgS];cases s.toArray.getD k true with
 | true=>rfl
 | false=>
  cases l.contains k with
  | true=>rfl
  | false=>
   simp only[cond_false,qcG];cases ops[k]? with
   | none=>rfl
   | some o=>
    simp only;have h:=znW o (fun d=>bif zrl s d false then false else(d == n || !l.contains d));rw[← h];congr 1
    funext e
    rw[zgS];cases Region.binds .any e<;>cases s.toArray.getD e.on false<;>rfl
def ziP(bar:Bool)(P:Program)(ops:Array Oper)(s:List Bool)(l:List Nat):Nat:=
 match l.find? fun i=>!alI (zcP P ops i)with
 | some i=>i
 | none=>match l.find? fun i=>!zkz (zcP P ops i) && zwY bar P ops s l i with
  | some i=>i
  | none=>(l.find? fun i=>zwY bar P ops s l i).getD 0
theorem zqH(bar:Bool)(P:Program)(ops:Array Oper)(s:List Bool)(l:List Nat):ziP bar P ops s l=zjO bar P ops s.toArray l:=by
 unfold ziP zjO;simp only[zqd];rfl
theorem zqt(l:List Bool)(i:Nat):l.toArray.setIfInBounds i true=(l.set i true).toArray:=by simp
def ziO(P:Program)(ops:Array Oper):Nat→List Bool→Option (List Nat)
 | 0,s=>if(zg1 ops s).isEmpty then some []else none
 | f+1,s=>
  match (zg1 ops s).find? fun i=>zai (zcP P ops i) && zr0 ops s i && !zud ops i with
  | some i=>(zq6 s i true fun s'=>ziO P ops f s').map (i :: ·)
  | none=>match zg1 ops s with
   | []=>some []
   | [i]=>(zq6 s i true fun s'=>ziO P ops f s').map (i :: ·)
   | _=>none
theorem zlp(P:Program)(ops:Array Oper):∀(f:Nat) (s:List Bool),ziO P ops f s=zj3 P ops f s.toArray
 | 0,s=>by simp only[ziO,zj3,zgw]
 | f+1,s=>by
  simp only[ziO,zj3,zgw,zj2,zlp P ops f,zqt,zjW];rfl
def znF(bar:Bool)(P:Program)(ops:Array Oper):Nat→List Bool→Option (List Nat×List Nat)
 | 0,s=>if(zg1 ops s).isEmpty then some ([],[])else none
 | f+1,s=>
  match (zg1 ops s).find? fun i=>zai (zcP P ops i) && zr0 ops s i && (!zud ops i || ztv bar P ops s.toArray i)with
  | some i=>(zq6 s i true fun s'=>znF bar P ops f s').map fun r=>(i :: r.1,r.2)
  | none=>match zg1 ops s with
   | []=>some ([],[])
   | [i]=>bif zfx bar (zcP P ops i)|| wrI (zcP P ops i)then(zq6 s i true fun s'=>znF bar P ops f s').map fun r=>(i :: r.1,r.2)else(ziO P ops (f+1) s).map fun r=>([],r)
   | i :: j :: l=>bif zwY bar P ops s (i :: j :: l) (ziP bar P ops s (i :: j :: l))then
     (match zq6 s (ziP bar P ops s (i :: j :: l)) true fun s'=>znF bar P ops f s' with
     | some r=>bif okF P ops (i :: j :: l) (ziP bar P ops s (i :: j :: l)) r.1 then some (ziP bar P ops s (i :: j :: l):: r.1,r.2)else none
     | none=>none)else none
theorem zn3(bar:Bool)(P:Program)(ops:Array Oper):∀(f:Nat) (s:List Bool),znF bar P ops f s=zfi bar P ops f s.toArray
 | 0,s=>by simp only[znF,zfi,zgw]
 | f+1,s=>by
  simp only[znF,zfi,zgw,zj2,zn3 bar P ops f,zqt,zjW,zqd,zqH,zlp];rfl
def zxH{β:Type}(n:Nat)(k:List Bool→β):β:=zcX (List.replicate n false) k
def zhu(bar:Bool)(P:Program)(ops:Array Oper):Option (List Nat×List Nat):=
 if Region.noSelect ops && zgZ ops && zwS P ops then zxH ops.size fun s=>znF bar P ops ops.size s else none
theorem zmM(bar:Bool)(P:Program)(ops:Array Oper):zhu bar P ops=zwB bar P ops:=by
 unfold zhu zwB zxH;simp only[zcu,zn3];rw[show(List.replicate ops.size false).toArray=Array.replicate ops.size false by simp]
def zeN(P:Program)(N:Nat):Code→C
 | .skip=>.skip
 | .region _ ops false=>bif ops.all (fun o=>zhk N o.dst)then .reg false false (ops.toList.map (irO P N ops))else .bad
 | .region _ ops true=>bif ops.all (fun o=>zhk N o.dst)then(match zhu false P ops with
  | some (l,l')=>.reg true false ((l ++ l').flatMap (zmo P N ops))
  | none=>(match zhu true P ops with
   | some (l,l')=>.reg true true ((l ++ l').flatMap (zmo P N ops))
   | none=>.bad))else .bad
 | .seq a b=>.seq (zeN P N a) (zeN P N b)
 | .cond c a b=>.cond (opX c) (zeN P N a) (zeN P N b)
 | .block id c=>.block id (zeN P N c)
 | .loop c=>.loop (zeN P N c)
 | .rangeFunc x ps a b=>.zd4 (opX x) ps.toList (zeN P N a) (zeN P N b)
 | .exit id=>.exit id
 | .scope c=>.scope (zeN P N c)
 | .label l=>.label l
 | .ret=>.ret
 | _=>.bad
theorem zth(P:Program)(N:Nat)(c:Code):zeN P N c=comp P N c:=by
 induction c with
 | region id ops dr=>cases dr<;>simp only[zeN,comp,zmM]<;>rfl
 | seq a b iha ihb=>simp only[zeN,comp,iha,ihb]
 | cond x a b iha ihb=>simp only[zeN,comp,iha,ihb]
 | block id c ih=>simp only[zeN,comp,ih]
 | loop c ih=>simp only[zeN,comp,ih]
 | rangeFunc x ps a b iha ihb=>simp only[zeN,comp,iha,ihb]
 | scope c ih=>simp only[zeN,comp,ih]
 | _=>rfl
def zjh(P:Program)(f:Nat):Option Fn:=
 match P.funcs[f]? with
 | some fn=>(match fn.body with
  | some c=>bif !wrF f && !(fn.name == "runtime.NumGoroutine") && fn.results.toList.all (zl2 P)then some ⟨fn.ntmps,zeN P fn.ntmps c,fn.results.toList.map (zlO P),false⟩else none
  | none=>none)
 | none=>none
theorem zkM(P:Program)(f:Nat):zjh P f=zhP P f:=by
 unfold zjh zhP;simp only[zth];rfl
def zyi(P:Program)(l:List Nat)(f:Nat):Option Fn:=
 match zjh P f with
 | some fn=>some ⟨fn.N,fn.c,fn.rs,l.any fun i=>Nat.beq i f⟩
 | none=>none
theorem zsh{P:Program}{f:Nat}{fn:Fn}(h:zhP P f=some fn):fn.p=false:=by
 unfold zhP at h;split at h
 ·split at h
  ·simp only[cond_eq_ite]at h;split at h
   ·cases h; rfl
   cases h
  cases h
 cases h
theorem zvc{P:Program}{l:List Nat}(f:Nat)(fn:Fn)(h:zyi P l f=some fn):zk5 P f fn:=by
 unfold zyi at h;rw[zkM]at h;cases hc:zhP P f with
 | none=>rw[hc]at h; cases h
 | some g=>
  rw[hc]at h;cases h;have hp:=zsh hc;unfold zk5;rw[hc];cases g;simp only at hp;subst hp;rfl
end Go.Mx
