/-
 A plain machine: values with addresses of its own, code with what it needs of the type table, one order for each region. Conditions: none.
-/
import Derived.Test.YtbjogdohfhdaiaaGreatErA
set_option linter.unusedSimpArgs false
set_option linter.unusedVariables false
namespace Go.Mx
open Go
inductive V where
 | lit (v:Value)
 | ptr (β o:Nat)
 | sl (β o n len:Nat) (cap:Option Nat)
 | clo (f:Nat) (first cap:List V)
 | yld (l:Nat)
 | ifc (t:TypeId) (v:V)
 | agg (vs:List V)
 | tup (vs:List V)
 deriving Inhabited
inductive X where
 | s (k:Nat)
 | c (v:Value)
 | f (f:Nat)
 deriving Inhabited
inductive I where
 | mov (x:X)
 | pick (c a b:X)
 | build (z:List Value) (parts:List (Nat×Nat×X))
 | load (n:Option Nat) (x:X)
 | fld (off:Nat) (x:X)
 | idxS (n:Nat) (x i:X)
 | idxA (n cnt:Nat) (x i:X)
 | idxV (n:Option Nat) (cnt:Nat) (x i:X)
 | part (n:Option Nat) (off:Nat) (x:X)
 | bin (op:BinOp) (x y:X)
 | eqb (neg:Bool) (x y:X)
 | eqa (n:Nat) (neg:Bool) (x y:X)
 | eqn (neg:Bool) (x:X)
 | eqi (neg:Bool) (x:X)
 | eqp (neg:Bool) (x:X)
 | un (op:UnOp) (x:X)
 | conv (k:IntKind) (x:X)
 | len (x:X)
 | mm (isMax:Bool) (xs:List X)
 | ext (x:X) (i:Nat)
 | slc (n:Nat) (x:X) (lo hi mx:Option X)
 | slcA (n cnt:Nat) (x:X) (lo hi mx:Option X)
 | nilck (x:X)
 | clo (f:Nat) (first cap:List X)
 | mkI (t:TypeId) (x:X)
 | alloc (z:List Value)
 | box (x:X)
 | bsl (n len:Nat) (z:List Value) (parts:List (Nat×X))
 | store (n:Nat) (a x:X)
 | mk (n bytes:Nat) (z:List Value) (l c:X)
 | app (n bytes:Nat) (s x:X)
 | copy (n:Nat) (d s:X)
 | clr (n:Nat) (z:List Value) (x:X)
 | chr (l:List Nat) (i:X)
 | avo (xs:List X) (y:X)
 | call (f:Nat) (xs:List X)
 | zd8 (x:X) (xs:List X)
 | panic (x:X)
 | defer (x:X) (xs:List X)
 | recover
 | bad
 deriving Inhabited
structure O where
 dst:Option Nat
 i:I
 g:Option (Nat×Bool)
 deriving Inhabited
inductive C where
 | skip
 | reg (dr bar:Bool) (ops:List O)
 | seq (a b:C)
 | cond (x:X) (a b:C)
 | block (id:Nat) (c:C)
 | loop (c:C)
 | zey (x:X) (ps:List Nat) (assign body:C)
 | exit (id:Nat)
 | scope (c:C)
 | label (l:Nat)
 | ret
 | bad
 deriving Inhabited
def opX:Operand->X
 | .tmp k=>.s k
 | .const v=>.c v
 | .global g=>.c (.pointer (some ⟨g,0,none⟩))
 | .func f=>.f f
def zgL(P:Program)(t:TypeId):Bool:=
 match P.underlying t with
 | some (.struct _)| some (.array _ _)=>true
 | _=>false
def zdM(P:Program)(t:TypeId):Bool:=(P.info? t).isSome && (P.underlying t).isSome
def zp7(P:Program)(t:TypeId):Option Nat:=bif zgL P t then some (P.cellsOf t)else none
def zgY(P:Program)(t:TypeId):Option (List Value):=((P.info? t).bind (·.zero)).map λv=>v.cells.toList
def zhm:Value->Bool
 | .agg _=>false
 | .tuple _=>false
 | _=>true
def zxk(P:Program)(t:TypeId):Bool:=
 match P.underlying t with
 | some (.int _)=>true
 | _=>false
def zy5(P:Program)(t:TypeId)(fs:Array Field):Bool:=
 fs.toList.all (λf=>!(f.name == "_") && zxk P f.type) && (fs.toList.map (·.offset)== List.range fs.size) && !P.stoodInHeld t && !P.eqGuardType P.depth t
def zj3(P:Program)(c:Call):I:=
 match c.callee with
 | .value (.func f)=>bif (match P.funcs[f]? with | some fn=>!(fn.name == "runtime.NumGoroutine") && fn.body.isSome | none=>false)then .call f (c.args.toList.map opX)else .bad
 | .value (.tmp k)=>.zd8 (.s k) (c.args.toList.map opX)
 | .builtin b=>(match b,c.argTypes.toList,c.args.toList with
  | .len,[t],[x]=>(match P.underlying t with | some (.slice _)=>.len (opX x)| _=>.bad)
  | .min,_,xs=>.mm false (xs.map opX)
  | .max,_,xs=>.mm true (xs.map opX)
  | .append,[t,t'],[x,y]=>(match P.underlying t,P.underlying t' with
   | some (.slice el),some (.slice _)=>bif zdM P el && Nat.blt 0 (P.cellsOf el) && Nat.blt 0 (P.bytesOf el)then(match zgY P el with
    | some z=>bif z.length == P.cellsOf el then .app (P.cellsOf el) (P.bytesOf el) (opX x) (opX y)else .bad
    | none=>.bad)else .bad
   | _,_=>.bad)
  | .copy,[t,t'],[x,y]=>(match P.underlying t,P.underlying t' with
   | some (.slice el),some (.slice _)=>bif zdM P el && Nat.blt 0 (P.cellsOf el)then .copy (P.cellsOf el) (opX x) (opX y)else .bad
   | _,_=>.bad)
  | .clear,[t],[x]=>(match P.underlying t with
   | some (.slice el)=>bif zdM P el && Nat.blt 0 (P.cellsOf el)then(match zgY P el with
    | some z=>bif z.all zhm && (z.length == P.cellsOf el)then .clr (P.cellsOf el) z (opX x)else .bad
    | none=>.bad)else .bad
   | _=>.bad)
  | .recover,_,[]=>.recover
  | _,_,_=>.bad)
 | _=>.bad
def za1(P:Program)(o:Oper):I:=
 match o.op with
 | .move x=>.mov (opX x)
 | .assign x=>.mov (opX x)
 | .pick c a b=>.pick (opX c) (opX a) (opX b)
 | .alloc t=>(match zgY P t with
  | some z=>bif z.all zhm then .alloc z else .bad
  | none=>.bad)
 | .box _ x=>.box (opX x)
 | .build t parts=>(match zgY P t with
  | some z=>bif z.all zhm then(match P.underlying t with
   | some (.struct fs)=>bif fs.all (λf=>zdM P f.type) && parts.all (λix=>Nat.blt ix.1 fs.size)then
     .build z (parts.toList.map λix=>((fs.getD ix.1 default).offset,P.cellsOf (fs.getD ix.1 default).type,opX ix.2))else .bad
   | some (.array _ el)=>bif zdM P el then
     .build z (parts.toList.map λix=>(ix.1 * P.cellsOf el,P.cellsOf el,opX ix.2))else .bad
   | _=>.bad)else .bad
  | none=>.bad)
 | .buildSlice t len parts=>(match P.underlying t with
  | some (.slice el)=>bif zdM P el && Nat.blt 0 (P.cellsOf el) && Nat.ble (len * P.cellsOf el) 16777216 then(match zgY P el with
   | some z=>bif z.all zhm && (z.length == P.cellsOf el)then .bsl (P.cellsOf el) len z (parts.toList.map λix=>(ix.1,opX ix.2))else .bad
   | none=>.bad)else .bad
  | _=>.bad)
 | .load t x=>bif zdM P t then .load (zp7 P t) (opX x)else .bad
 | .store t x y=>bif zdM P t then .store (P.cellsOf t) (opX x) (opX y)else .bad
 | .fieldAddr s x f=>(match P.underlying s with
  | some (.struct fs)=>(match fs[f]? with
   | some fd=>(bif zdM P fd.type && !(P.cellsOf fd.type == 0)then .fld fd.offset (opX x)else .bad)
   | none=>.bad)
  | _=>.bad)
 | .field s x f=>(match P.underlying s with
  | some (.struct fs)=>(match fs[f]? with
   | some fd=>(bif zdM P fd.type then .part (zp7 P fd.type) fd.offset (opX x)else .bad)
   | none=>.bad)
  | _=>.bad)
 | .indexAddr t x i=>(match P.underlying t with
  | some (.slice el)=>bif zdM P el then .idxS (P.cellsOf el) (opX x) (opX i)else .bad
  | some (.array cnt el)=>bif zdM P el && !(P.cellsOf el == 0)then .idxA (P.cellsOf el) cnt (opX x) (opX i)else .bad
  | _=>.bad)
 | .index t x i=>(match P.underlying t with
  | some (.array cnt el)=>bif zdM P el && !(P.cellsOf el == 0) && (zgL P el || (P.cellsOf el == 1))then .idxV (zp7 P el) cnt (opX x) (opX i)else .bad
  | some .string=>(match x with
   | .const (.string s)=>.chr (s.data.toList.map (·.toNat)) (opX i)
   | _=>.bad)
  | _=>.bad)
 | .makeFunc (.func f) first cap=>.clo f (first.toList.map opX) (cap.toList.map opX)
 | .makeInterface t x=>(match P.underlying t with
  | some (.struct _)=>.mkI t (opX x)
  | _=>.bad)
 | .panic x=>.panic (opX x)
 | .binOp op t x y _=>(match P.underlying t with
  | some (.int _)=>.bin op (opX x) (opX y)
  | some .bool=>(match op with
   | .eql=>.eqb false (opX x) (opX y)
   | .neq=>.eqb true (opX x) (opX y)
   | _=>.bad)
  | some (.struct fs)=>bif zy5 P t fs then(match op with
   | .eql=>.eqa fs.size false (opX x) (opX y)
   | .neq=>.eqa fs.size true (opX x) (opX y)
   | _=>.bad)else .bad
  | some (.slice _)=>(match y,op with
   | .const (.slice none 0 0),.eql=>.eqn false (opX x)
   | .const (.slice none 0 0),.neq=>.eqn true (opX x)
   | _,_=>.bad)
  | some (.interface _)=>(match y,op with
   | .const .nilIface,.eql=>.eqi false (opX x)
   | .const .nilIface,.neq=>.eqi true (opX x)
   | _,_=>.bad)
  | some (.pointer _)=>(match y,op with
   | .const (.pointer none),.eql=>.eqp false (opX x)
   | .const (.pointer none),.neq=>.eqp true (opX x)
   | _,_=>.bad)
  | _=>.bad)
 | .unOp op _ x=>.un op (opX x)
 | .convert a b x=>(match P.underlying a,P.underlying b with
  | some (.int _),some (.int k)=>.conv k (opX x)
  | _,_=>.bad)
 | .extract x i=>.ext (opX x) i
 | .makeSlice t l c=>(match P.underlying t with
  | some (.slice el)=>bif zdM P el && Nat.blt 0 (P.cellsOf el) && Nat.blt 0 (P.bytesOf el)then(match zgY P el with
   | some z=>bif z.all zhm && (z.length == P.cellsOf el)then .mk (P.cellsOf el) (P.bytesOf el) z (opX l) (opX c)else .bad
   | none=>.bad)else .bad
  | _=>.bad)
 | .slice t x lo hi mx=>(match P.underlying t with
  | some (.slice el)=>bif zdM P el then .slc (P.cellsOf el) (opX x) (lo.map opX) (hi.map opX) (mx.map opX)else .bad
  | some (.array cnt el)=>bif zdM P el then .slcA (P.cellsOf el) cnt (opX x) (lo.map opX) (hi.map opX) (mx.map opX)else .bad
  | _=>.bad)
 | .nilCheck x=>.nilck (opX x)
 | .call c=>zj3 P c
 | .defer c=>(match c.callee with
  | .value x=>.defer (opX x) (c.args.toList.map opX)
  | _=>.bad)
 | _=>.bad
def zak:I->Bool
 | .mov _ | .pick .. | .build .. | .load .. | .fld .. | .idxS .. | .idxA .. | .idxV .. | .part .. | .bin .. | .eqb .. | .eqa .. | .eqn .. | .eqi .. | .eqp .. | .un .. | .conv .. | .len _ | .mm .. | .ext .. | .slc .. | .slcA .. | .nilck _ | .clo .. | .mkI .. | .avo .. | .chr ..=>true
 | _=>false
def zlm(N:Nat):Option Nat->Bool
 | some d=>Nat.blt d N
 | none=>true
def irO(P:Program)(N:Nat)(ops:Array Oper)(o:Oper):O:=
 {dst:=o.dst
  i:=za1 P o
  g:=match o.guard with
   | none=>none
   | some (j,want)=>some (((ops[j]?).bind (·.dst)).getD N,want) }
def zGP(f:Nat):Bool:=Nat.beq f 109 || Nat.beq f 81
def wrF(f:Nat):Bool:=Nat.beq f 108
def wrI:I->Bool
 | .call f _=>wrF f
 | _=>false
def zrn(bar:Bool)(f:Nat):Bool:=bif zGP f then true else bar
def zgr(bar:Bool):I->Bool
 | .alloc .. | .box .. | .bsl .. | .mk ..=>true
 | .call f _=>zrn bar f
 | .zd8 ..=>bar
 | i=>zak i
def zdl(P:Program)(ops:Array Oper)(i:Nat):I:=match ops[i]? with | some o=>za1 P o | none=>.bad
def zyU(ops:Array Oper)(i:Nat)(acc:List Nat)(k:Nat):Bool:=match ops[k]? with
 | some ok=>ok.after.any λed=>Region.binds .any ed && (ed.on == i || acc.contains ed.on)
 | none=>false
def zwD(ops:Array Oper)(i:Nat):List Nat:=(List.range ops.size).foldl (λacc k=>bif zyU ops i acc k then k :: acc else acc) []
def zit(ops:Array Oper)(n j i:Nat):Bool:=(zwD ops i).contains j
def zGE(o:Oper):Bool:=match o.op with | .load ..=>true | _=>false
def zux(ops:Array Oper)(i:Nat):Bool:=match ops[i]? with | some o=>zGE o | none=>true
def znn(P:Program)(ops:Array Oper):Nat->Array Bool->Option (List Nat)
 | 0,listed=>if(Region.ready .any ops listed).isEmpty then some []else none
 | f+1,listed=>
  match (Region.ready .any ops listed).find? λi=>zak (zdl P ops i) && Region.free .any ops listed i && !zux ops i with
  | some i=>(znn P ops f (listed.setIfInBounds i true)).map (i :: ·)
  | none=>match Region.ready .any ops listed with
   | []=>some []
   | [i]=>(znn P ops f (listed.setIfInBounds i true)).map (i :: ·)
   | _=>none
def zty:I->Option X
 | .store _ x _ | .app _ _ x _ | .copy _ x _ | .clr _ _ x=>some x
 | .call f (x :: _)=>bif wrF f then some x else none
 | _=>none
def zH5(i:I):Bool:=(zty i).isSome
def zpU:I->Bool
 | .store ..=>true
 | _=>false
def ldX(ops:Array Oper)(i:Nat):Option Operand:=match ops[i]? with
 | some o=>(match o.op with | .load _ x=>some x | _=>none)
 | none=>none
def zx0(ops:Array Oper)(j:Nat):List X:=(List.range ops.size).filterMap λi=>bif zit ops ops.size j i || zit ops ops.size i j then none else(ldX ops i).map opX
def zoa(P:Program)(N:Nat)(ops:Array Oper)(i:Nat):List O:=match ops[i]? with
 | some o=>(match zty (za1 P o),zx0 ops i with
  | some x,y :: l=>[{ dst:=none,i:=.avo (y :: l) x,g:=(irO P N ops o).g },irO P N ops o]
  | _,_=>[irO P N ops o])
 | none=>[]
def zrl(bar:Bool)(P:Program)(ops:Array Oper)(listed:Array Bool)(i:Nat):Bool:=
 ((List.range ops.size).all λj=>j == i || zgr bar (zdl P ops j)|| zH5 (zdl P ops j)|| listed.getD j false || zit ops ops.size j i) &&
 (match ldX ops i with
 | some (.tmp k)=>(List.range ops.size).all λj=>listed.getD j false || !(((ops[j]?).bind (·.dst))== some k)
 | _=>true)
def alI:I->Bool
 | .alloc _ | .box _ | .bsl .. | .mk ..=>true
 | _=>false
def zmC:I->Bool
 | .alloc _ | .box _=>true
 | .bsl n len z parts=>(n == 1) && (z.length == 1) && parts.all λix=>Nat.blt ix.1 len && (match ix.2 with | .c v=>zhm v | _=>false)
 | _=>false
def ztq(P:Program)(ops:Array Oper)(i:Nat):Bool:=zpU (zdl P ops i) && (match ops[i]? with | some o=>o.dst.isNone | none=>false)
def okN(bar:Bool)(P:Program)(ops:Array Oper)(listed:Array Bool)(l:List Nat)(n:Nat):Bool:=
 l.contains n && (zgr bar (zdl P ops n)|| ztq P ops n) && (l.all λi=>i == n || (alI (zdl P ops i) && Region.free .any ops listed i)) &&
 (alI (zdl P ops n)|| ztq P ops n || (l.all λi=>i == n || zmC (zdl P ops i))) &&
 ((List.range ops.size).all λk=>listed.getD k true || l.contains k || (match ops[k]? with
  | some o=>o.after.any λe=>Region.binds .any e && !listed.getD e.on false && (e.on == n || !l.contains e.on)
  | none=>true))
def znO(bar:Bool)(P:Program)(ops:Array Oper)(listed:Array Bool)(l:List Nat):Nat:=
 match l.find? λi=>!alI (zdl P ops i)with
 | some i=>i
 | none=>match l.find? λi=>!zmC (zdl P ops i) && okN bar P ops listed l i with
  | some i=>i
  | none=>(l.find? λi=>okN bar P ops listed l i).getD 0
def zsg(ops:Array Oper)(i j:Nat):Bool:=match ops[i]?,ops[j]? with | some oi,some oj=>oi.apart ops oj | _,_=>false
def okF(P:Program)(ops:Array Oper)(l:List Nat)(n:Nat)(r:List Nat):Bool:=
 l.all λi=>i == n || zmC (zdl P ops i)|| ((n :: r.take (r.idxOf i+1)).contains i && (n :: r.take (r.idxOf i+1)).all λj=>(alI (zdl P ops j)|| ztq P ops j) && (j == i || zsg ops i j))
def zgR(bar:Bool)(P:Program)(ops:Array Oper):Nat->Array Bool->Option (List Nat×List Nat)
 | 0,listed=>if(Region.ready .any ops listed).isEmpty then some ([],[])else none
 | f+1,listed=>
  match (Region.ready .any ops listed).find? λi=>zak (zdl P ops i) && Region.free .any ops listed i && (!zux ops i || zrl bar P ops listed i)with
  | some i=>(zgR bar P ops f (listed.setIfInBounds i true)).map λr=>(i :: r.1,r.2)
  | none=>match Region.ready .any ops listed with
   | []=>some ([],[])
   | [i]=>bif zgr bar (zdl P ops i)|| wrI (zdl P ops i)then(zgR bar P ops f (listed.setIfInBounds i true)).map λr=>(i :: r.1,r.2)else(znn P ops (f+1) listed).map λr=>([],r)
   | i :: j :: l=>bif okN bar P ops listed (i :: j :: l) (znO bar P ops listed (i :: j :: l))then
     (match zgR bar P ops f (listed.setIfInBounds (znO bar P ops listed (i :: j :: l)) true)with
     | some r=>bif okF P ops (i :: j :: l) (znO bar P ops listed (i :: j :: l)) r.1 then some (znO bar P ops listed (i :: j :: l):: r.1,r.2)else none
     | none=>none)else none
def zgK(ops:Array Oper):Bool:=ops.all λo=>match o.op with | .defer ..=>false | _=>true
def zr8:I->Bool
 | .recover=>true
 | _=>false
def zDc(P:Program)(ops:Array Oper):Bool:=ops.all λo=>!zr8 (za1 P o)
def zDA(bar:Bool)(P:Program)(ops:Array Oper):Option (List Nat×List Nat):=
 if Region.noSelect ops && zgK ops && zDc P ops then zgR bar P ops ops.size (Array.replicate ops.size false)else none
def comp(P:Program)(N:Nat):Code->C
 | .skip=>.skip
 | .region _ ops false=>bif ops.all (λo=>zlm N o.dst)then .reg false false (ops.toList.map (irO P N ops))else .bad
 | .region _ ops true=>bif ops.all (λo=>zlm N o.dst)then(match zDA false P ops with
  | some (l,l')=>.reg true false ((l ++ l').flatMap (zoa P N ops))
  | none=>(match zDA true P ops with
   | some (l,l')=>.reg true true ((l ++ l').flatMap (zoa P N ops))
   | none=>.bad))else .bad
 | .seq a b=>.seq (comp P N a) (comp P N b)
 | .cond c a b=>.cond (opX c) (comp P N a) (comp P N b)
 | .block id c=>.block id (comp P N c)
 | .loop c=>.loop (comp P N c)
 | .rangeFunc x ps a b=>.zey (opX x) ps.toList (comp P N a) (comp P N b)
 | .exit id=>.exit id
 | .scope c=>.scope (comp P N c)
 | .label l=>.label l
 | .ret=>.ret
 | _=>.bad
inductive RX where
 | tmp (k:Nat)
 | cell (k:Nat) (n:Option Nat)
 deriving Inhabited
structure Fn where
 N:Nat
 c:C
 rs:List RX
 p:Bool
 deriving Inhabited
def zmG(P:Program):ResultVar->RX
 | .tmp t=>.tmp t
 | .cell a t=>.cell a (zp7 P t)
def zp1(P:Program):ResultVar->Bool
 | .tmp _=>true
 | .cell _ t=>zdM P t
def zjG(P:Program)(f:Nat):Option Fn:=
 match P.funcs[f]? with
 | some fn=>(match fn.body with
  | some c=>bif !wrF f && !(fn.name == "runtime.NumGoroutine") && fn.results.toList.all (zp1 P)then some ⟨fn.ntmps,comp P fn.ntmps c,fn.results.toList.map (zmG P),false⟩else none
  | none=>none)
 | none=>none
inductive Jump where
 | ret
 | exit (id:Nat)
 deriving Inhabited
inductive Ob where
 | blk (cs:List V)
 | loop (st:Bool) (pend:Option Jump) (env:List V) (ps:List Nat) (assign body:C)
 | dfr
 | dead
 deriving Inhabited
abbrev zam:=List Ob
inductive Df where
 | coll (d:Nat)
 | fn (f:Nat) (args:List V)
 deriving Inhabited
structure St where
 env:List V
 dfs:List Df
 heap:zam
 deriving Inhabited
inductive Ex where
 | normal
 | exit (id:Nat)
 | ret
 | panic (v:V) (e:Bool)
 deriving Inhabited
inductive CR where
 | ret (v:V)
 | pan (v:V)
 deriving Inhabited
def zbc:V:=.lit (.tuple #[])
def ev(env:List V):X->Option V
 | .c v=>some (.lit v)
 | .s k=>env[k]?
 | .f f=>some (.clo f [] [])
def evs(env:List V):List X->Option (List V)
 | []=>some []
 | x :: r=>match ev env x,evs env r with
  | some v,some vs=>some (v :: vs)
  | _,_=>none
def evI(env:List V)(x:X):Option Int:=
 match ev env x with
 | some (.lit (.int _ n))=>some n
 | _=>none
def evB(env:List V)(x:X):Option Bool:=
 match ev env x with
 | some (.lit (.bool b))=>some b
 | _=>none
def zuf(env:List V):Option X->Option (Option Int)
 | none=>some none
 | some x=>(evI env x).map some
def zax(h:zam)(β:Nat):Option (List V):=
 match h[β]? with
 | some (.blk cs)=>some cs
 | _=>none
def V.cells:V->Option (List V)
 | .lit v=>bif zhm v then some [.lit v]else none
 | .agg vs=>some vs
 | .tup _=>none
 | v=>some [v]
def V.one:V->Bool
 | .lit v=>zhm v
 | .agg _=>false
 | .tup _=>false
 | _=>true
def slot(o n:Nat)(cs:List V):Option (List V):=bif Nat.ble (o+n) cs.length then some ((cs.drop o).take n)else none
def takeN(cs:List V)(o:Nat):Option Nat->Option V
 | none=>cs[o]?
 | some n=>(slot o n cs).map .agg
def zbT(cs:List V)(off:Nat)(ns:List V):List V:=cs.take off ++ ns ++ cs.drop (off+ns.length)
def zgN(env:List V)(cs:List V):List (Nat×Nat×X)->Option (List V)
 | []=>some cs
 |(off,n,x):: r=>match (ev env x).bind V.cells with
  | some l=>bif (l.length == n) && Nat.ble (off+n) cs.length then zgN env (zbT cs off l) r else none
  | none=>none
def zby(op:BinOp)(k:IntKind)(m n:Int):Option Value:=
 match op with
 | .add=>some (.int k (k.wrap (m+n)))
 | .sub=>some (.int k (k.wrap (m - n)))
 | .mul=>some (.int k (k.wrap (m * n)))
 | .quo=>bif n == 0 then none else some (.int k (k.wrap (m.tdiv n)))
 | .rem=>bif n == 0 then none else some (.int k (m.tmod n))
 | .and=>some (.int k (k.wrap (BitVec.ofInt k.bits m &&& BitVec.ofInt k.bits n).toNat))
 | .or=>some (.int k (k.wrap (BitVec.ofInt k.bits m ||| BitVec.ofInt k.bits n).toNat))
 | .xor=>some (.int k (k.wrap (BitVec.ofInt k.bits m ^^^ BitVec.ofInt k.bits n).toNat))
 | .andNot=>some (.int k (k.wrap (BitVec.ofInt k.bits m &&& ~~~ BitVec.ofInt k.bits n).toNat))
 | .eql=>some (.bool (m == n))
 | .neq=>some (.bool (m != n))
 | .lss=>some (.bool (decide (m<n)))
 | .leq=>some (.bool (decide (m<=n)))
 | .gtr=>some (.bool (decide (n<m)))
 | .geq=>some (.bool (decide (n<=m)))
 | .shl | .shr=>none
def zod(op:BinOp):V->V->Option V
 | .lit (.int k m),.lit (.int k' n)=>
  match op with
  | .shl=>bif decide (0<=n)then some (.lit (.int k (k.wrap (m * 2 ^ (min n.toNat k.bits)))))else none
  | .shr=>bif decide (0<=n)then some (.lit (.int k (m.fdiv (2 ^ (min n.toNat k.bits)))))else none
  | op=>bif k == k' then(zby op k m n).map .lit else none
 | _,_=>none
def unV(op:UnOp):V->Option V
 | .lit (.int k m)=>(match op with
  | .neg=>some (.lit (.int k (k.wrap (0 - m))))
  | .xor=>(zby .xor k (if k.signed then -1 else k.max) m).map .lit
  | _=>none)
 | .lit (.bool b)=>(match op with
  | .not=>some (.lit (.bool !b))
  | _=>none)
 | _=>none
def mm2(isMax:Bool):V->V->Option V
 | .lit (.int k m),.lit (.int k' n)=>bif k == k' then some (.lit (.int k (bif isMax then(if n > m then n else m)else(if n<m then n else m))))else none
 | _,_=>none
def mms(isMax:Bool)(x:V):List V->Option V
 | []=>some x
 | y :: r=>match mm2 isMax x y with
  | some z=>mms isMax z r
  | none=>none
def zDs:V->Option V
 | .sl _ _ _ len _=>some (.lit (.int .i64 len))
 | .lit (.slice none 0 0)=>some (.lit (.int .i64 0))
 | _=>none
def ziV(len:Nat):Option Nat->Int
 | some c=>c
 | none=>len
def bounds(len:Nat)(cap:Option Nat)(lo hi mx:Option Int):Option (Nat×Nat×Option Nat):=
 match mx with
 | none=>bif decide (0<=lo.getD 0) && decide (lo.getD 0<=hi.getD len) && decide (hi.getD len<=ziV len cap)then some ((lo.getD 0).toNat,(hi.getD len).toNat,cap.map (· - (lo.getD 0).toNat))else none
 | some m=>bif hi.isSome && decide (0<=lo.getD 0) && decide (lo.getD 0<=hi.getD len) && decide (hi.getD len<=m) && decide (m<=ziV len cap)then some ((lo.getD 0).toNat,(hi.getD len).toNat,some (m.toNat - (lo.getD 0).toNat))else none
def zv3(n:Nat)(lo hi mx:Option Int):V->Option V
 | .sl β o n' len cap=>bif n == n' then(bounds len cap lo hi mx).map λ(l,h,c)=>.sl β (o+l * n) n (h - l) c else none
 | .lit (.slice none 0 0)=>(bounds 0 (some 0) lo hi mx).map λ_=>.lit (.slice none 0 0)
 | _=>none
def zve(blk:Nat->Option (List V))(n:Nat)(lo hi mx:Option Int):V->Option V
 | .sl β o n' len none=>(match mx,hi,blk β with
  | none,some x,some cs=>bif (n == n') && decide (0<=lo.getD 0) && decide (lo.getD 0<=x) && Nat.ble (o+x.toNat * n) cs.length then some (.sl β (o+(lo.getD 0).toNat * n) n (x.toNat - (lo.getD 0).toNat) none)else none
  | _,_,_=>none)
 | _=>none
def zEs(blk:Nat->Option (List V))(n:Nat)(lo hi mx:Option Int)(v:V):Option V:=
 match zv3 n lo hi mx v with
 | some r=>some r
 | none=>zve blk n lo hi mx v
theorem zpI{blk:Nat->Option (List V)}{n:Nat}{lo hi mx:Option Int}{v r:V}(h:zv3 n lo hi mx v=some r):zEs blk n lo hi mx v=some r:=by unfold zEs; rw[h]
def zGX(h:zam)(β n:Nat):Bool:=
 match zax h β with
 | some cs=>Nat.ble n cs.length
 | none=>false
def zum:V->Option Nat
 | .ptr β _=>some β
 | .sl β ..=>some β
 | _=>none
def zDz(h:zam)(env:List V)(β:Nat)(x:X):Bool:=match ev env x with
 | some (.ptr γ _)=>(zax h γ).isSome && !(γ == β)
 | _=>false
def zwv(h:zam)(env:List V)(xs:List X)(y:X):Bool:=match ev env y with
 | some v=>(match zum v with
  | some β=>xs.all (zDz h env β)
  | none=>true)
 | none=>false
def zx3:List V->List V->Option Bool
 | [],[]=>some true
 | .lit (.int k a):: vs,.lit (.int k' b):: ws=>bif k == k' then(match zx3 vs ws with
  | some r=>some ((a == b) && r)
  | none=>none)else none
 | _,_=>none
def q(h:zam)(env:List V):I->Option V
 | .mov x=>ev env x
 | .avo xs y=>bif zwv h env xs y then some zbc else none
 | .pick c a b=>(match evB env c with
  | some true=>ev env a
  | some false=>ev env b
  | none=>none)
 | .build z parts=>(zgN env (z.map .lit) parts).map .agg
 | .load n x=>(match ev env x with
  | some (.ptr β o)=>(zax h β).bind λcs=>takeN cs o n
  | _=>none)
 | .fld off x=>(match ev env x with
  | some (.ptr β o)=>some (.ptr β (o+off))
  | _=>none)
 | .idxS n x i=>(match ev env x,evI env i with
  | some (.sl β o n' len _),some m=>bif (n == n') && decide (0<=m) && decide (m<len)then some (.ptr β (o+m.toNat * n))else none
  | _,_=>none)
 | .idxA n cnt x i=>(match ev env x,evI env i with
  | some (.ptr β o),some m=>bif decide (0<=m) && decide (m<cnt)then some (.ptr β (o+m.toNat * n))else none
  | _,_=>none)
 | .idxV n cnt x i=>(match ev env x,evI env i with
  | some (.agg vs),some m=>bif decide (0<=m) && decide (m<cnt)then takeN vs (m.toNat * n.getD 1) n else none
  | _,_=>none)
 | .part n off x=>(match ev env x with
  | some (.agg vs)=>takeN vs off n
  | _=>none)
 | .bin op x y=>(match ev env x,ev env y with
  | some v,some v'=>zod op v v'
  | _,_=>none)
 | .eqb neg x y=>(match evB env x,evB env y with
  | some a,some b=>some (.lit (.bool (bif neg then !(a == b)else(a == b))))
  | _,_=>none)
 | .eqa n neg x y=>(match ev env x,ev env y with
  | some (.agg vs),some (.agg ws)=>bif Nat.beq vs.length n && Nat.beq ws.length n then(match zx3 vs ws with
   | some b=>some (.lit (.bool (bif neg then !b else b)))
   | none=>none)else none
  | _,_=>none)
 | .eqn neg x=>(match ev env x with
  | some (.lit (.slice none 0 0))=>some (.lit (.bool !neg))
  | some (.sl ..)=>some (.lit (.bool neg))
  | _=>none)
 | .eqi neg x=>(match ev env x with
  | some (.lit .nilIface)=>some (.lit (.bool !neg))
  | some (.ifc ..)=>some (.lit (.bool neg))
  | _=>none)
 | .eqp neg x=>(match ev env x with
  | some (.lit (.pointer none))=>some (.lit (.bool !neg))
  | some (.ptr ..)=>some (.lit (.bool neg))
  | _=>none)
 | .un op x=>(ev env x).bind (unV op)
 | .conv k x=>(match evI env x with
  | some m=>some (.lit (.int k (k.wrap m)))
  | none=>none)
 | .len x=>(ev env x).bind zDs
 | .mm b xs=>(match evs env xs with
  | some (v :: vs)=>mms b v vs
  | _=>none)
 | .ext x i=>(match ev env x with
  | some (.tup vs)=>vs[i]?
  | _=>none)
 | .slc n x lo hi mx=>(match ev env x,zuf env lo,zuf env hi,zuf env mx with
  | some v,some l,some hh,some m=>zEs (zax h) n l hh m v
  | _,_,_,_=>none)
 | .slcA n cnt x lo hi mx=>(match ev env x,zuf env lo,zuf env hi,zuf env mx with
  | some (.ptr β o),some l,some hh,some m=>bif Nat.blt 0 n && Nat.blt cnt (2 ^ 63) && zGX h β (o+cnt * n)then(bounds cnt (some cnt) l hh m).map λ(l,hh,c)=>.sl β (o+l * n) n (hh - l) c else none
  | _,_,_,_=>none)
 | .nilck x=>(match ev env x with
  | some (.ptr β o)=>some (.ptr β o)
  | some (.clo f a b)=>some (.clo f a b)
  | _=>none)
 | .clo f first cap=>(match evs env first,evs env cap with
  | some vs,some vs'=>some (.clo f vs vs')
  | _,_=>none)
 | .mkI t x=>(ev env x).map (.ifc t)
 | .chr l i=>(match evI env i with
  | some m=>bif decide (0<=m)then(l[m.toNat]?).map λb:Nat=>V.lit (.int .u8 (b:Int))else none
  | none=>none)
 | _=>none
def zgj(h:zam)(n:Nat):V->Option (Nat×List V)
 | .lit (.slice none 0 0)=>some (0,[])
 | .sl β o n' len _=>bif n == n' then(bif len == 0 then some (0,[])else((zax h β).bind (slot o (len * n))).map λl=>(len,l))else none
 | _=>none
def zli(env:List V)(n:Nat)(cs:List V):List (Nat×X)->Option (List V)
 | []=>some cs
 |(i,x):: r=>match (ev env x).bind V.cells with
  | some l=>bif (l.length == n) && Nat.ble (i * n+n) cs.length then zli env n (zbT cs (i * n) l) r else none
  | none=>none
def zm7(n:Nat)(z:List V):List V:=(List.replicate n z).flatten
def zah:Nat:=140737488355328
def eff(B:Nat)(h:zam)(env:List V):I->Option (V×zam)
 | .alloc z=>some (.ptr h.length 0,h ++ [.blk (z.map .lit)])
 | .box x=>(match (ev env x).bind V.cells with
  | some l=>some (.ptr h.length 0,h ++ [.blk l])
  | none=>none)
 | .bsl n len z parts=>(match zli env n (zm7 len (z.map .lit)) parts with
  | some cs=>some (.sl h.length 0 n len (some len),h ++ [.blk cs])
  | none=>none)
 | .store n a x=>(match ev env a,(ev env x).bind V.cells with
  | some (.ptr β o),some l=>(match zax h β with
   | some cs=>bif Nat.ble B β && (l.length == n) && Nat.ble (o+n) cs.length then some (zbc,h.set β (.blk (zbT cs o l)))else none
   | none=>none)
  | _,_=>none)
 | .mk n bytes z l c=>(match evI env l,evI env c with
  | some l,some c=>bif decide (0<=l) && decide (l<=c) && decide (c * bytes<=zah)then
    some (.sl h.length 0 n l.toNat (some c.toNat),h ++ [.blk (zm7 c.toNat (z.map .lit))])else none
  | _,_=>none)
 | .app n bytes s x=>(match ev env s,(ev env x).bind (zgj h n)with
  | some (.lit (.slice none 0 0)),some (k,l)=>
   bif k == 0 then some (.lit (.slice none 0 0),h)else
   bif Nat.ble (k * bytes) zah then some (.sl h.length 0 n k none,h ++ [.blk l])else none
  | some (.sl β o n' len cap),some (k,l)=>
   bif !(n == n')then none else
   bif k == 0 then some (.sl β o n len cap,h)else
   (match zax h β,cap with
   | some cs,some c=>
    bif Nat.ble (len+k) c then(bif Nat.ble B β && Nat.ble (o+(len+k)* n) cs.length then some (.sl β o n (len+k) cap,h.set β (.blk (zbT cs (o+len * n) l)))else none)
    else bif Nat.ble (o+len * n) cs.length && Nat.ble ((len+k)* bytes) zah then some (.sl h.length 0 n (len+k) none,h ++ [.blk ((cs.drop o).take (len * n)++ l)])else none
   | some cs,none=>
    bif Nat.ble (o+(len+k)* n) cs.length then(bif Nat.ble B β then some (.sl β o n (len+k) none,h.set β (.blk (zbT cs (o+len * n) l)))else none)
    else bif Nat.ble B β && (o+len * n == cs.length) && Nat.ble ((len+k)* bytes) zah then some (.sl h.length 0 n (len+k) none,h.set β .dead ++ [.blk (cs.drop o ++ l)])else none
   | none,_=>none)
  | _,_=>none)
 | .copy n d s=>(match ev env d,ev env s with
  | some (.sl β o n' len _),some w=>(match zgj h n w with
   | some (k,l)=>(match zax h β with
    | some cs=>bif (n == n') && Nat.ble B β && Nat.ble (o+min k len * n) cs.length then
      some (.lit (.int .i64 (min k len:Nat)),h.set β (.blk (zbT cs o (l.take (min k len * n)))))else none
    | none=>none)
   | none=>none)
  | _,_=>none)
 | .clr n z x=>(match ev env x with
  | some (.lit (.slice none 0 0))=>some (zbc,h)
  | some (.sl β o n' len _)=>bif !(n == n')then none else
   bif len == 0 then some (zbc,h)else
   (match zax h β with
   | some cs=>bif Nat.ble B β && Nat.ble (o+len * n) cs.length then some (zbc,h.set β (.blk (zbT cs o (zm7 len (z.map .lit)))))else none
   | none=>none)
  | _=>none)
 | _=>none
structure Rec where
 code:Nat->Option Nat->C->St->Option (Ex×St)
 call:Nat->Nat->List V->zam->Option (CR×zam)
 dcall:Nat->Nat->List V->Option V->zam->Option (Option V×zam)
def St.put(S:St)(d:Option Nat)(v:V):St:=
 match d with
 | some k=>{ S with env:=S.env.set k v }
 | none=>S
def wanted(env:List V):Option (Nat×Bool)->Bool
 | none=>true
 | some (k,want)=>match env[k]? with
  | some (.lit (.bool b))=>b == want
  | _=>false
def zgd(env:List V):List Nat->List V->Option (List V)
 | [],[]=>some env
 | p :: ps,v :: vs=>zgd (env.set p v) ps vs
 | _,_=>none
def zvE:Jump->Ex
 | .ret=>.ret
 | .exit id=>.exit id
def zeQ(h:zam)(l:Nat)(st:Bool)(pend:Option Jump):Option zam:=
 match h[l]? with
 | some (.loop _ _ env ps asg body)=>some (h.set l (.loop st pend env ps asg body))
 | _=>none
def zco(l:Nat):Option (Ex×St)->Option (CR×zam)
 | some (.normal,⟨_,[],h⟩)=>(zeQ h l true none).map λh'=>(.ret (.lit (.bool true)),h')
 | some (.ret,⟨_,[],h⟩)=>(zeQ h l false (some .ret)).map λh'=>(.ret (.lit (.bool false)),h')
 | some (.exit id,⟨_,[],h⟩)=>(zeQ h l false (some (.exit id))).map λh'=>(.ret (.lit (.bool false)),h')
 | _=>none
def round(r:Rec)(B l:Nat)(vs:List V)(h:zam):Option (CR×zam):=
 match h[l]? with
 | some (.loop true none env ps asg body)=>bif Nat.ble B l then(match zgd env ps vs with
  | some env'=>(match r.code B (some l) asg ⟨env',[],h⟩with
   | some (.normal,⟨env1,[],h1⟩)=>(match h1[l]? with
    | some (.loop true none e1 p1 a1 b1)=>zco l (r.code B (some l) body ⟨env1,[],h1.set l (.loop false none e1 p1 a1 b1)⟩)
    | _=>none)
   | _=>none)
  | none=>none)else none
 | _=>none
def zno(r:Rec)(B:Nat)(v:V)(vs:List V)(h:zam):Option (CR×zam):=
 match v with
 | .clo f first cap=>r.call B f (first ++ vs ++ cap) h
 | .yld l=>round r B l vs h
 | _=>none
def zpM(e:Bool)(o:O)(S:St)(x:Option (CR×zam))(k:St->Option (Ex×St)):Option (Ex×St):=
 match x with
 | some (.ret v,h)=>k ({ S with heap:=h }.put o.dst v)
 | some (.pan v,h)=>some (.panic v e,{ S with heap:=h })
 | none=>none
def zdv(r:Rec)(B:Nat)(bar top e:Bool)(S:St)(o:O)(k:St->Option (Ex×St)):Option (Ex×St):=
 match wanted S.env o.g with
 | false=>k (S.put o.dst zbc)
 | true=>match o.i with
  | .call f xs=>(match evs S.env xs with
   | some vs=>zpM e o S (r.call (bif zrn bar f then S.heap.length else B) f vs S.heap) k
   | none=>none)
  | .zd8 x xs=>(match ev S.env x,evs S.env xs with
   | some v,some vs=>zpM e o S (zno r (bif bar then S.heap.length else B) v vs S.heap) k
   | _,_=>none)
  | .panic x=>(match ev S.env x with
   | some (.ifc t v)=>some (.panic (.ifc t v) e,S)
   | _=>none)
  | .defer x xs=>(match ev S.env x,evs S.env xs with
   | some (.clo f first cap),some vs=>bif top then k ({ S with dfs:=.fn f (first ++ vs ++ cap):: S.dfs }.put o.dst zbc)else none
   | _,_=>none)
  | i=>bif zak i then(match q S.heap S.env i with
    | some v=>k (S.put o.dst v)
    | none=>none)
   else(match eff B S.heap S.env i with
    | some (v,h)=>k ({ S with heap:=h }.put o.dst v)
    | none=>none)
def zbg(r:Rec)(B:Nat)(bar top e:Bool):List O->St->Option (Ex×St)
 | [],S=>some (.normal,S)
 | o :: l,S=>zdv r B bar top e S o (zbg r B bar top e l)
def zuh(rd:Option Nat)(h:zam):Bool:=
 match rd with
 | none=>true
 | some l=>match h[l]? with
  | some (.loop ..)=>true
  | _=>false
def zca(rd:Option Nat)(S:St):zam:=match rd with | none=>S.heap ++ [.dfr] | some _=>S.heap
def zfY(rd:Option Nat)(S:St):List Df:=match rd with | none=>.coll S.heap.length :: S.dfs | some _=>S.dfs
def exec(r:Rec)(B:Nat)(rd:Option Nat):C->St->Option (Ex×St)
 | .skip,S=>some (.normal,S)
 | .label _,S=>some (.normal,S)
 | .reg dr bar os,S=>zbg r B bar rd.isNone (!dr) os S
 | .seq a b,S=>(match exec r B rd a S with
  | some (.normal,S')=>exec r B rd b S'
  | x=>x)
 | .cond x a b,S=>(match evB S.env x with
  | some true=>exec r B rd a S
  | some false=>exec r B rd b S
  | none=>none)
 | .block id c,S=>(match exec r B rd c S with
  | some (.exit id',S')=>bif id' == id then some (.normal,S')else some (.exit id',S')
  | x=>x)
 | .loop c,S=>(match exec r B rd c S with
  | some (.normal,S')=>r.code B rd (.loop c) S'
  | x=>x)
 | .scope c,S=>exec r B rd c S
 | .exit id,S=>some (.exit id,S)
 | .ret,S=>some (.ret,S)
 | .zey x ps asg body,S=>(match ev S.env x with
  | some (.clo gf first cap)=>
   bif !(zuh rd S.heap)then none else
   (match r.call B gf (first ++ [.yld (zca rd S).length]++ cap) (zca rd S ++ [.loop true none S.env ps asg body])with
   | some (.ret _,h)=>(match h[(zca rd S).length]? with
    | some (.loop true none _ _ _ _)=>some (.normal,⟨S.env,zfY rd S,h.set (zca rd S).length .dead⟩)
    | some (.loop false (some j) _ _ _ _)=>some (zvE j,⟨S.env,zfY rd S,h.set (zca rd S).length .dead⟩)
    | _=>none)
   | some (.pan v,h)=>some (.panic v true,⟨S.env,zfY rd S,h⟩)
   | none=>none)
  | _=>none)
 | .bad,_=>none
def zht(h:zam)(env:List V):RX->Option V
 | .tmp k=>env[k]?
 | .cell k n=>(match env[k]? with
  | some (.ptr β o)=>(zax h β).bind λcs=>takeN cs o n
  | _=>none)
def zcL(h:zam)(env:List V):List RX->Option (List V)
 | []=>some []
 | x :: r=>match zht h env x,zcL h env r with
  | some v,some vs=>some (v :: vs)
  | _,_=>none
def zhB:List V->V
 | [v]=>v
 | vs=>.tup vs
def isRec(o:O):Bool:=zr8 o.i
def zqQ(B:Nat):List O->Option V->St->Option (Option V×St)
 | [],pv,S=>some (pv,S)
 | o :: l,pv,S=>match wanted S.env o.g with
  | false=>zqQ B l pv (S.put o.dst zbc)
  | true=>match o.i with
   | .recover=>(match pv with
    | some v=>zqQ B l none (S.put o.dst v)
    | none=>zqQ B l none (S.put o.dst (.lit .nilIface)))
   | i=>bif zak i then(match q S.heap S.env i with
     | some v=>zqQ B l pv (S.put o.dst v)
     | none=>none)
    else(match eff B S.heap S.env i with
     | some (v,h)=>zqQ B l pv ({ S with heap:=h }.put o.dst v)
     | none=>none)
def zgn(r:Rec)(B:Nat):C->Option V->St->Option (Ex×Option V×St)
 | .seq a b,pv,S=>(match zgn r B a pv S with
  | some (.normal,pv',S')=>zgn r B b pv' S'
  | x=>x)
 | .cond x a b,pv,S=>(match evB S.env x with
  | some true=>zgn r B a pv S
  | some false=>zgn r B b pv S
  | none=>none)
 | .reg dr bar os,pv,S=>bif os.any isRec then(bif dr then none else(zqQ B os pv S).map λx=>(.normal,x.1,x.2))else(zbg r B bar true (!dr) os S).map λx=>(x.1,pv,x.2)
 | c,pv,S=>(exec r B none c S).map λx=>(x.1,pv,x.2)
def zm6(r:Rec)(fns:Nat->Option Fn)(B:Nat)(f:Nat)(args:List V)(pv:Option V)(h:zam):Option (Option V×zam):=
 match fns f with
 | some fn=>bif Nat.ble args.length fn.N then
   (match zgn r B fn.c pv ⟨args ++ List.replicate (fn.N - args.length) zbc,[],h⟩with
   | some (.normal,pv',⟨env,[],h'⟩)=>(zcL h' env fn.rs).map λ_=>(pv',h')
   | some (.ret,pv',⟨env,[],h'⟩)=>(zcL h' env fn.rs).map λ_=>(pv',h')
   | _=>none)else none
 | none=>none
def leave(r:Rec)(B:Nat)(pv:Option V):List Df->zam->Option (Option V×zam)
 | [],h=>some (pv,h)
 | .coll d :: ds,h=>(match h[d]? with
  | some .dfr=>bif Nat.ble B d then leave r B pv ds (h.set d .dead)else none
  | _=>none)
 | .fn f args :: ds,h=>(match r.dcall B f args pv h with
  | some (pv',h')=>leave r B pv' ds h'
  | none=>none)
def fin(r:Rec)(B:Nat)(fn:Fn)(pv:Option V)(e:Bool)(S:St):Option (CR×zam):=
 match leave r B pv S.dfs S.heap with
 | some (none,h)=>bif !e then none else(zcL h S.env fn.rs).map λvs=>(.ret (zhB vs),h)
 | some (some v,h)=>some (.pan v,h)
 | none=>none
def body(r:Rec)(fn:Fn)(B:Nat)(args:List V)(h:zam):Option (CR×zam):=
 bif Nat.ble args.length fn.N then
  (match exec r B none fn.c ⟨args ++ List.replicate (fn.N - args.length) zbc,[],h⟩with
  | some (.normal,S)=>fin r B fn none true S
  | some (.ret,S)=>fin r B fn none true S
  | some (.panic v e,S)=>fin r B fn (some v) e S
  | _=>none)else none
def V.lits:List V->Bool
 | []=>true
 | .lit _ :: r=>V.lits r
 | _=>false
def V.plain:V->Bool
 | .lit _=>true
 | .tup vs=>V.lits vs
 | .agg vs=>V.lits vs
 | .ifc _ v=>(match v with | .lit _=>true | .agg vs=>V.lits vs | _=>false)
 | _=>false
def forget(h:zam):Option (CR×zam)->Option (CR×zam)
 | some (.ret v,_)=>bif v.plain then some (.ret v,h)else none
 | some (.pan v,_)=>bif v.plain then some (.pan v,h)else none
 | none=>none
def zi2(r:Rec)(fns:Nat->Option Fn)(B:Nat)(f:Nat)(args:List V)(h:zam):Option (CR×zam):=
 match fns f with
 | some fn=>bif fn.p then(bif Nat.ble B h.length then forget h (body r fn h.length args h)else none)else body r fn B args h
 | none=>none
def Rec.none:Rec:=⟨λ_ _ _ _=>.none,λ_ _ _ _=>.none,λ_ _ _ _ _=>.none⟩
def Rec.step(fns:Nat->Option Fn)(r:Rec):Rec:=⟨exec r,zi2 r fns,zm6 r fns⟩
def run(fns:Nat->Option Fn):Nat->Rec
 | 0=>Rec.none
 | n+1=>Rec.step fns (run fns n)
end Go.Mx
