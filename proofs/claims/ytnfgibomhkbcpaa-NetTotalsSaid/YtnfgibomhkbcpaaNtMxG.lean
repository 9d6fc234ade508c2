/-
 The order of a region once more, for the kernel. Conditions: none.
-/
import Derived.Test.YtnfgibomhkbcpaaNtMx14
set_option linter.unusedSimpArgs false
set_option linter.unusedVariables false
namespace Go.Mx
open Go
def zs9:List Bool→Nat→Bool→Bool
 | [],_,d=>d
 | x :: r,n,d=>match n with
  | .zero=>x
  | .succ m=>zs9 r m d
theorem zg5:∀(l:List Bool) (n:Nat) (d:Bool),zs9 l n d=l.toArray.getD n d
 | [],n,d=>by simp[zs9]
 | x :: r,0,d=>by simp[zs9]
 | x :: r,n+1,d=>by
  simp only[zs9,zg5 r n d];simp[qcx]
def zwa:List Edge→List Nat
 | []=>[]
 | e :: r=>bif Region.binds .any e then e.on :: zwa r else zwa r
def zxH(o:Oper):List Nat:=zwa o.after.toList
def zv9(p:Nat→Bool):List Nat→Bool
 | []=>false
 | d :: r=>bif p d then true else zv9 p r
def zzv(p:Nat→Bool):List Nat→Bool
 | []=>true
 | d :: r=>bif p d then zzv p r else false
theorem zsw(p:Nat→Bool):∀ l:List Edge,l.any (fun e=>Region.binds .any e && p e.on)=zv9 p (zwa l)
 | []=>rfl
 | e :: r=>by
  simp only[List.any_cons,zsw p r,zwa];cases h1:Region.binds .any e with
  | false=>rfl
  | true=>simp only[cond_true,zv9,qbt]; cases p e.on<;>rfl
theorem zro(p:Nat→Bool):∀ l:List Edge,l.all (fun e=>!Region.binds .any e || p e.on)=zzv p (zwa l)
 | []=>rfl
 | e :: r=>by
  simp only[qc5,zro p r,zwa];cases h1:Region.binds .any e with
  | false=>rfl
  | true=>simp only[cond_true,zzv,qa7,qcL]; cases p e.on<;>rfl
theorem zoM(o:Oper)(p:Nat→Bool):(o.after.any fun e=>Region.binds .any e && p e.on)=zv9 p (zxH o):=by
 rw[← Array.any_toList,zsw]; rfl
theorem zu2(o:Oper)(p:Nat→Bool):(o.after.all fun e=>!Region.binds .any e || p e.on)=zzv p (zxH o):=by
 rw[← Array.all_toList,zro]; rfl
def zhn(ops:Array Oper)(l:List Bool):List Nat:=
 (List.range ops.size).filter fun i=>bif zs9 l i true then false else(match ops[i]? with | some o=>zzv (fun d=>zs9 l d false) (zxH o)| none=>false)
theorem zgG(ops:Array Oper)(l:List Bool):zhn ops l=Region.ready .any ops l.toArray:=by
 unfold zhn Region.ready;congr 1
 funext i
 rw[zg5];cases l.toArray.getD i true with
 | true=>rfl
 | false=>
  cases ops[i]? with
  | none=>rfl
  | some o=>
   simp only[cond_false,qbG,qbt,qaP,qbF];rw[← zu2];congr 1
   funext e
   rw[zg5]
def zrW(ops:Array Oper)(l:List Bool)(i:Nat):Bool:=
 match ops[i]? with
 | none=>false
 | some oi=>(List.range ops.size).all fun j=>bif j == i then true else bif zs9 l j true then true else(match ops[j]? with
   | some oj=>bif zv9 (fun d=>d == i) (zxH oj)then true else oi.apart ops oj
   | none=>true)
theorem zkb(ops:Array Oper)(l:List Bool)(i:Nat):zrW ops l i=Region.free .any ops l.toArray i:=by
 unfold zrW Region.free;cases ops[i]? with
 | none=>rfl
 | some oi=>
  simp only;congr 1
  funext j
  rw[zg5];cases(j == i)with
  | true=>rfl
  | false=>
   cases l.toArray.getD j true with
   | true=>rfl
   | false=>
    simp only[cond_false,qcL];cases ops[j]? with
    | none=>rfl
    | some oj=>
     simp only;have h:=zoM oj (fun d=>d == i);rw[h];cases zv9 (fun d=>d == i) (zxH oj)<;> rfl
def zyJ(bar:Bool)(P:Program)(ops:Array Oper)(s:List Bool)(l:List Nat)(n:Nat):Bool:=
 l.contains n && (zfO bar (zcZ P ops n)|| zqq P ops n) && (l.all fun i=>i == n || (alI (zcZ P ops i) && zrW ops s i)) &&
 (alI (zcZ P ops n)|| zqq P ops n || (l.all fun i=>i == n || zj7 (zcZ P ops i))) &&
 ((List.range ops.size).all fun k=>bif zs9 s k true then true else bif l.contains k then true else(match ops[k]? with
  | some o=>zv9 (fun d=>bif zs9 s d false then false else(d == n || !l.contains d)) (zxH o)
  | none=>true))
theorem zqz(bar:Bool)(P:Program)(ops:Array Oper)(s:List Bool)(l:List Nat)(n:Nat):zyJ bar P ops s l n=okN bar P ops s.toArray l n:=by
 unfold zyJ okN;congr 1
 ·congr 2
  congr 1
  funext i
  rw[zkb]
 congr 1
 funext k
 rw[zg5];cases s.toArray.getD k true with
 | true=>rfl
 | false=>
  cases l.contains k with
  | true=>rfl
  | false=>
   simp only[cond_false,qcL];cases ops[k]? with
   | none=>rfl
   | some o=>
    simp only;have h:=zoM o (fun d=>bif zs9 s d false then false else(d == n || !l.contains d));rw[← h];congr 1
    funext e
    rw[zg5];cases Region.binds .any e<;>cases s.toArray.getD e.on false<;>rfl
def zjh(bar:Bool)(P:Program)(ops:Array Oper)(s:List Bool)(l:List Nat):Nat:=
 match l.find? fun i=>!alI (zcZ P ops i)with
 | some i=>i
 | none=>match l.find? fun i=>!zj7 (zcZ P ops i) && zyJ bar P ops s l i with
  | some i=>i
  | none=>(l.find? fun i=>zyJ bar P ops s l i).getD 0
theorem zsU(bar:Bool)(P:Program)(ops:Array Oper)(s:List Bool)(l:List Nat):zjh bar P ops s l=zj9 bar P ops s.toArray l:=by
 unfold zjh zj9;simp only[zqz];rfl
theorem zs2(l:List Bool)(i:Nat):l.toArray.setIfInBounds i true=(l.set i true).toArray:=by simp
def zi7(P:Program)(ops:Array Oper):Nat→List Bool→Option (List Nat)
 | 0,s=>if(zhn ops s).isEmpty then some []else none
 | f+1,s=>
  match (zhn ops s).find? fun i=>zak (zcZ P ops i) && zrW ops s i && !zvG ops i with
  | some i=>(zs8 s i true fun s'=>zi7 P ops f s').map (i :: ·)
  | none=>match zhn ops s with
   | []=>some []
   | [i]=>(zs8 s i true fun s'=>zi7 P ops f s').map (i :: ·)
   | _=>none
theorem zmX(P:Program)(ops:Array Oper):∀(f:Nat) (s:List Bool),zi7 P ops f s=zkW P ops f s.toArray
 | 0,s=>by simp only[zi7,zkW,zgG]
 | f+1,s=>by
  simp only[zi7,zkW,zgG,zkv,zmX P ops f,zs2,zkb];rfl
def znR(bar:Bool)(P:Program)(ops:Array Oper):Nat→List Bool→Option (List Nat×List Nat)
 | 0,s=>if(zhn ops s).isEmpty then some ([],[])else none
 | f+1,s=>
  match (zhn ops s).find? fun i=>zak (zcZ P ops i) && zrW ops s i && (!zvG ops i || zt1 bar P ops s.toArray i)with
  | some i=>(zs8 s i true fun s'=>znR bar P ops f s').map fun r=>(i :: r.1,r.2)
  | none=>match zhn ops s with
   | []=>some ([],[])
   | [i]=>bif zfO bar (zcZ P ops i)|| wrI (zcZ P ops i)then(zs8 s i true fun s'=>znR bar P ops f s').map fun r=>(i :: r.1,r.2)else(zi7 P ops (f+1) s).map fun r=>([],r)
   | i :: j :: l=>bif zyJ bar P ops s (i :: j :: l) (zjh bar P ops s (i :: j :: l))then
     (match zs8 s (zjh bar P ops s (i :: j :: l)) true fun s'=>znR bar P ops f s' with
     | some r=>bif okF P ops (i :: j :: l) (zjh bar P ops s (i :: j :: l)) r.1 then some (zjh bar P ops s (i :: j :: l):: r.1,r.2)else none
     | none=>none)else none
theorem zoS(bar:Bool)(P:Program)(ops:Array Oper):∀(f:Nat) (s:List Bool),znR bar P ops f s=zfq bar P ops f s.toArray
 | 0,s=>by simp only[znR,zfq,zgG]
 | f+1,s=>by
  simp only[znR,zfq,zgG,zkv,zoS bar P ops f,zs2,zkb,zqz,zsU,zmX];rfl
def zy3{β:Type}(n:Nat)(k:List Bool→β):β:=zc4 (List.replicate n false) k
def zhJ(bar:Bool)(P:Program)(ops:Array Oper):Option (List Nat×List Nat):=
 if Region.noSelect ops && zhj ops && zy8 P ops then zy3 ops.size fun s=>znR bar P ops ops.size s else none
theorem znb(bar:Bool)(P:Program)(ops:Array Oper):zhJ bar P ops=zxK bar P ops:=by
 unfold zhJ zxK zy3;simp only[zcE,zoS];rw[show(List.replicate ops.size false).toArray=Array.replicate ops.size false by simp]
def ze2(P:Program)(N:Nat):Code→C
 | .skip=>.skip
 | .region _ ops false=>bif ops.all (fun o=>zhx N o.dst)then .reg false false (ops.toList.map (irO P N ops))else .bad
 | .region _ ops true=>bif ops.all (fun o=>zhx N o.dst)then(match zhJ false P ops with
  | some (l,l')=>.reg true false ((l ++ l').flatMap (zm2 P N ops))
  | none=>(match zhJ true P ops with
   | some (l,l')=>.reg true true ((l ++ l').flatMap (zm2 P N ops))
   | none=>.bad))else .bad
 | .seq a b=>.seq (ze2 P N a) (ze2 P N b)
 | .cond c a b=>.cond (opX c) (ze2 P N a) (ze2 P N b)
 | .block id c=>.block id (ze2 P N c)
 | .loop c=>.loop (ze2 P N c)
 | .rangeFunc x ps a b=>.zec (opX x) ps.toList (ze2 P N a) (ze2 P N b)
 | .exit id=>.exit id
 | .scope c=>.scope (ze2 P N c)
 | .label l=>.label l
 | .ret=>.ret
 | _=>.bad
theorem zuw(P:Program)(N:Nat)(c:Code):ze2 P N c=comp P N c:=by
 induction c with
 | region id ops dr=>cases dr<;>simp only[ze2,comp,znb]<;>rfl
 | seq a b iha ihb=>simp only[ze2,comp,iha,ihb]
 | cond x a b iha ihb=>simp only[ze2,comp,iha,ihb]
 | block id c ih=>simp only[ze2,comp,ih]
 | loop c ih=>simp only[ze2,comp,ih]
 | rangeFunc x ps a b iha ihb=>simp only[ze2,comp,iha,ihb]
 | scope c ih=>simp only[ze2,comp,ih]
 | _=>rfl
def zjO(P:Program)(f:Nat):Option Fn:=
 match P.funcs[f]? with
 | some fn=>(match fn.body with
  | some c=>bif !wrF f && !(fn.name == "runtime.NumGoroutine") && fn.results.toList.all (zl0 P)then some ⟨fn.ntmps,ze2 P fn.ntmps c,fn.results.toList.map (zmo P),false⟩else none
  | none=>none)
 | none=>none
theorem zmj(P:Program)(f:Nat):zjO P f=ziR P f:=by
 unfold zjO ziR;simp only[zuw];rfl
def zya(P:Program)(l:List Nat)(f:Nat):Option Fn:=
 match zjO P f with
 | some fn=>some ⟨fn.N,fn.c,fn.rs,l.any fun i=>Nat.beq i f⟩
 | none=>none
theorem ztu{P:Program}{f:Nat}{fn:Fn}(h:ziR P f=some fn):fn.p=false:=by
 unfold ziR at h;split at h
 ·split at h
  ·simp only[cond_eq_ite]at h;split at h
   ·cases h; rfl
   cases h
  cases h
 cases h
theorem zwb{P:Program}{l:List Nat}(f:Nat)(fn:Fn)(h:zya P l f=some fn):zmU P f fn:=by
 unfold zya at h;rw[zmj]at h;cases hc:ziR P f with
 | none=>rw[hc]at h; cases h
 | some g=>
  rw[hc]at h;cases h;have hp:=ztu hc;unfold zmU;rw[hc];cases g;simp only at hp;subst hp;rfl
end Go.Mx
