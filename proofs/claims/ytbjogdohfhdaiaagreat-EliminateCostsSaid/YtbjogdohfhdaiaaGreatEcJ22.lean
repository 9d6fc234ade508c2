/-
 Trees: what an operation that leaves memory alone yields. Conditions: none.
-/
import Derived.Test.YtbjogdohfhdaiaaGreatEcJ21
set_option linter.unusedSimpArgs false
set_option linter.unusedVariables false
namespace Go.Lx
open Go Go.Mx
def evD(E:List (Nat×D)):X->Option D
 | .c v=>some (.lit v)
 | .s k=>lk E k
 | .f f=>some (.clo f [] [])
def zhc(E:List (Nat×D)):List X->Option (List D)
 | []=>some []
 | x :: r=>match evD E x with
  | some v=>(match zhc E r with
   | some vs=>some (v :: vs)
   | none=>none)
  | none=>none
def zo7:Option D->Option Int
 | some (.lit (.int _ n))=>some n
 | _=>none
def zhM:Option D->Option Bool
 | some (.lit (.bool b))=>some b
 | _=>none
def zkX(E:List (Nat×D)):Option X->Option (Option Int)
 | none=>some none
 | some x=>match zo7 (evD E x)with
  | some n=>some (some n)
  | none=>none
def D.cells:D->Option (List D)
 | .lit v=>bif zhi v then some [.lit v]else none
 | .agg ds=>some ds
 | .tup _=>none
 | .any=>none
 | d=>some [d]
def zs4(o n:Nat)(cs:List D):Option (List D):=if o+n<=cs.length then some ((cs.drop o).take n)else none
def ziv(cs:List D)(o:Nat):Option Nat->Option D
 | none=>cs[o]?
 | some n=>match zs4 o n cs with
  | some l=>some (.agg l)
  | none=>none
def zoP(cs:List D)(off:Nat)(ns:List D):List D:=cs.take off ++ ns ++ cs.drop (off+ns.length)
def zc9:Option D->Option (List D)
 | some d=>d.cells
 | none=>none
def znz(E:List (Nat×D))(cs:List D):List (Nat×Nat×X)->Option (List D)
 | []=>some cs
 |(off,n,x):: r=>match zc9 (evD E x)with
  | some l=>if l.length=n/\off+n<=cs.length then znz E (zoP cs off l) r else none
  | none=>none
def zgS(L:List LB)(β n st:Nat):Option (List (List D)):=
 match L[β]? with
 | some (.els n' es)=>if n=n'/\st=es.length then some es else none
 | some (.grow n' es)=>if n=n'/\st=es.length then some es else none
 | _=>none
def zza:Option V->Option D
 | some (.lit v)=>some (.lit v)
 | _=>none
def zzc:Option D->Option V
 | some (.lit v)=>some (.lit v)
 | _=>none
def zCS:List D->List D->Option Bool
 | [],[]=>some true
 | .lit (.int k a):: vs,.lit (.int k' b):: ws=>(match k == k' with
  | true=>(match zCS vs ws with
   | some r=>some ((a == b) && r)
   | none=>none)
  | false=>none)
 | _,_=>none
def zjF:List D->Option (List V)
 | []=>some []
 | .lit v :: r=>match zjF r with
  | some l=>some (.lit v :: l)
  | none=>none
 | _=>none
def zyh(L:List LB):D->Option D
 | .lit (.slice none 0 0)=>some (.lit (.int .i64 0))
 | .sl β s n len cap st=>(match zgS L β n st with
  | some _=>some (.lit (.int .i64 len))
  | none=>none)
 | .fz _ _ els=>some (.lit (.int .i64 els.length))
 | .z0 _ _=>some (.lit (.int .i64 0))
 | _=>none
def zCT(t:Bool)(n:Nat)(els:List (List D))(lo hi mx:Option Int):Option D:=
 if decide (hi.getD els.length<=els.length) && decide (mx.getD els.length<=els.length)then
  match bounds els.length (some els.length) lo hi mx with
  | some (l,h,c)=>if mx.isSome && (c == some 0) && !(els.length == 0)then some (.z0 t n)else some (.fz t n ((els.drop l).take (h - l)))
  | none=>none
 else none
def zt4(L:List LB)(n:Nat)(lo hi mx:Option Int):D->Option D
 | .lit (.slice none 0 0)=>(match bounds 0 (some 0) lo hi mx with
  | some _=>some (.lit (.slice none 0 0))
  | none=>none)
 | .sl β s n' len cap st=>if n=n' then(match zgS L β n st with
  | some _=>(match bounds len cap lo hi mx with
   | some (l,h,c)=>if mx=none then some (.sl β (s+l) n (h - l) c st)else none
   | none=>none)
  | none=>none)else none
 | .fz t n' els=>if n=n' then zCT t n els lo hi mx else none
 | _=>none
def zmt(L:List LB)(n:Option Nat):D->Option D
 | .ptr β o=>(match L[β]? with
  | some (.cells ds)=>ziv ds o n
  | _=>none)
 | .eptr β n' i off st=>(match zgS L β n' st with
  | some es=>(match es[i]? with
   | some cells=>ziv cells off n
   | none=>none)
  | none=>none)
 | .fptr t ds=>ziv ds 0 n
 | _=>none
def ztX(L:List LB)(off:Nat):D->Option D
 | .ptr β o=>some (.ptr β (o+off))
 | .eptr β n i o st=>(match zgS L β n st with
  | some _=>some (.eptr β n i (o+off) st)
  | none=>none)
 | .fptr t ds=>if off<=ds.length then some (.fptr t (ds.drop off))else none
 | _=>none
def zzx(L:List LB)(n:Nat)(m:Int):D->Option D
 | .sl β s n' len cap st=>if n=n'/\0<=m/\m<len then(match zgS L β n st with
  | some _=>some (.eptr β n (s+m.toNat) 0 st)
  | none=>none)else none
 | .fz t n' els=>if n=n'/\0<=m then(match els[m.toNat]? with
  | some cells=>some (.fptr t cells)
  | none=>none)else none
 | _=>none
def yB(L:List LB):D->Option (Option Nat)
 | .lit (.slice none 0 0)=>some none
 | .ptr β _=>some (some β)
 | .eptr β n _ _ st=>match zgS L β n st with
  | some _=>some (some β)
  | none=>none
 | .sl β _ n _ _ st=>match zgS L β n st with
  | some _=>some (some β)
  | none=>none
 | _=>none
def xB(L:List LB)(β:Nat):D->Bool
 | .fptr _ _=>true
 | .ptr γ _=>match L[γ]? with
  | some (.cells _)=>!(γ == β)
  | _=>false
 | .eptr γ n _ _ st=>match zgS L γ n st with
  | some _=>!(γ == β)
  | none=>false
 | _=>false
def xBs(L:List LB)(β:Nat):List D->Bool
 | []=>true
 | d :: r=>match xB L β d with
  | true=>xBs L β r
  | false=>false
def qL(L:List LB)(E:List (Nat×D)):I->Option D
 | .mov x=>evD E x
 | .avo xs y=>(match evD E y with
  | some d=>(match yB L d with
   | some none=>some (.lit (.tuple #[]))
   | some (some β)=>(match zhc E xs with
    | some ds=>(match xBs L β ds with
     | true=>some (.lit (.tuple #[]))
     | false=>none)
    | none=>none)
   | none=>none)
  | none=>none)
 | .pick c a b=>(match zhM (evD E c)with
  | some true=>evD E a
  | some false=>evD E b
  | none=>none)
 | .build z parts=>(match znz E (z.map .lit) parts with
  | some l=>some (.agg l)
  | none=>none)
 | .load n x=>(match evD E x with
  | some d=>zmt L n d
  | none=>none)
 | .fld off x=>(match evD E x with
  | some d=>ztX L off d
  | none=>none)
 | .idxS n x i=>(match evD E x with
  | some d=>(match zo7 (evD E i)with
   | some m=>zzx L n m d
   | none=>none)
  | none=>none)
 | .idxA n cnt x i=>(match evD E x with
  | some d=>(match zo7 (evD E i)with
   | some m=>if 0<=m/\m<cnt then ztX L (m.toNat * n) d else none
   | none=>none)
  | none=>none)
 | .idxV n cnt x i=>(match evD E x with
  | some (.agg ds)=>(match zo7 (evD E i)with
   | some m=>if 0<=m/\m<cnt then ziv ds (m.toNat * n.getD 1) n else none
   | none=>none)
  | _=>none)
 | .part n off x=>(match evD E x with
  | some (.agg ds)=>ziv ds off n
  | _=>none)
 | .bin op x y=>(match zzc (evD E x)with
  | some u=>(match zzc (evD E y)with
   | some u'=>zza (zos op u u')
   | none=>none)
  | none=>none)
 | .eqb neg x y=>(match zhM (evD E x)with
  | some a=>(match zhM (evD E y)with
   | some b=>some (.lit (.bool (bif neg then !(a == b)else(a == b))))
   | none=>none)
  | none=>none)
 | .eqa n neg x y=>(match evD E x with
  | some (.agg ds)=>(match evD E y with
   | some (.agg es)=>(match Nat.beq ds.length n && Nat.beq es.length n with
    | true=>(match zCS ds es with
     | some b=>some (.lit (.bool (bif neg then !b else b)))
     | none=>none)
    | false=>none)
   | _=>none)
  | _=>none)
 | .eqn neg x=>(match evD E x with
  | some (.lit (.slice none 0 0))=>some (.lit (.bool !neg))
  | some (.sl β s n len cap st)=>(match zgS L β n st with
   | some es=>if es.length=0 then none else some (.lit (.bool neg))
   | none=>none)
  | some (.fz t n els)=>if els.length=0 then none else some (.lit (.bool neg))
  | _=>none)
 | .eqi neg x=>(match evD E x with
  | some (.lit .nilIface)=>some (.lit (.bool !neg))
  | some (.ifc ..)=>some (.lit (.bool neg))
  | _=>none)
 | .eqp neg x=>(match evD E x with
  | some (.lit (.pointer none))=>some (.lit (.bool !neg))
  | some (.ptr ..)=>some (.lit (.bool neg))
  | some (.fptr ..)=>some (.lit (.bool neg))
  | _=>none)
 | .un op x=>(match zzc (evD E x)with
  | some u=>zza (unV op u)
  | none=>none)
 | .conv k x=>(match zo7 (evD E x)with
  | some m=>some (.lit (.int k (k.wrap m)))
  | none=>none)
 | .len x=>(match evD E x with
  | some d=>zyh L d
  | none=>none)
 | .mm b xs=>(match zhc E xs with
  | some l=>(match zjF l with
   | some (v :: vs)=>zza (mms b v vs)
   | _=>none)
  | _=>none)
 | .ext x i=>(match evD E x with
  | some (.tup vs)=>vs[i]?
  | _=>none)
 | .slc n x lo hi mx=>(match evD E x with
  | some d=>(match zkX E lo with
   | some l=>(match zkX E hi with
    | some h=>(match zkX E mx with
     | some m=>zt4 L n l h m d
     | none=>none)
    | none=>none)
   | none=>none)
  | none=>none)
 | .nilck x=>(match evD E x with
  | some (.ptr β o)=>some (.ptr β o)
  | some (.fptr t ds)=>some (.fptr t ds)
  | some (.clo f a b)=>some (.clo f a b)
  | some (.eptr β n i off st)=>(match zgS L β n st with
   | some _=>some (.eptr β n i off st)
   | none=>none)
  | _=>none)
 | .clo f first cap=>(match zhc E first with
  | some vs=>(match zhc E cap with
   | some vs'=>some (.clo f vs vs')
   | none=>none)
  | none=>none)
 | .mkI t x=>(match evD E x with
  | some d=>some (.ifc t d)
  | none=>none)
 | _=>none
section
variable {c:Cx} {S:LSt} {M:St} {L:List LB} {H:zam}
variable{x:X}{d:D}
theorem zae(h:Rel c S M)(he:evD S.env x=some d):∃ v,ev M.env x=some v/\R c d v:=by
 cases x with
 | s k=>exact h.env k d he
 | c v=>cases he; exact⟨_,rfl,.lit v⟩
 | f f=>cases he; exact⟨_,rfl,.clo rfl rfl (by simp) (by simp)⟩
theorem zcM(h:Rel c S M):∀ {xs:List X} {ds:List D},zhc S.env xs=some ds->∃ vs,evs M.env xs=some vs/\Rs c ds vs
 | [],ds,he=>by cases he; exact⟨[],rfl,Rs.nil c⟩
 | x :: r,ds,he=>by
  simp only[zhc]at he;cases h1:evD S.env x with
  | none=>rw[h1]at he; cases he
  | some d=>
   cases h2:zhc S.env r with
   | none=>rw[h1,h2]at he; cases he
   | some ds'=>
    rw[h1,h2]at he;cases he;obtain⟨v,g1,g2⟩:=zae h h1;obtain⟨vs,g3,g4⟩:=zcM h h2
    grind [evs,Rs.cons]
theorem zpy{d:V}{v:Value}(hr:R c (.lit v) d):d=.lit v:=by cases hr; rfl
theorem zfO(h:Rel c S M){n:Int}(he:zo7 (evD S.env x)=some n):evI M.env x=some n:=by
 cases h1:evD S.env x with
 | none=>rw[h1]at he; cases he
 | some d=>
  rw[h1]at he;obtain⟨v,g1,g2⟩:=zae h h1;unfold zo7 at he
  grind [evI,Go.Lx.R]
theorem zgZ(h:Rel c S M){b:Bool}(he:zhM (evD S.env x)=some b):evB M.env x=some b:=by
 cases h1:evD S.env x with
 | none=>rw[h1]at he; cases he
 | some d=>
  rw[h1]at he;obtain⟨v,g1,g2⟩:=zae h h1;unfold zhM at he
  grind [evB,Go.Lx.R]
theorem zye(h:Rel c S M){x:Option X}{n:Option Int}(he:zkX S.env x=some n):ztY M.env x=some n:=by
 cases x<;>grind [zkX,ztY,zfO]
theorem zpb(h:Rel c S M){u:V}(he:zzc (evD S.env x)=some u):ev M.env x=some u:=by
 cases h1:evD S.env x with
 | none=>rw[h1]at he; cases he
 | some d=>
  rw[h1]at he;obtain⟨v,g1,g2⟩:=zae h h1;unfold zzc at he
  grind [zpy]
theorem zlo:∀ {ds es:List D} {vs ws:List V} {b:Bool},zCS ds es=some b->Rs c ds vs->Rs c es ws->zxI vs ws=some b
 | [],es,vs,ws,b,he,h1,h2=>by
  grind [zCS,Go.Mx.zxI,Go.Lx.Rs]
 | d :: ds,es,vs,ws,b,he,h1,h2=>by
  cases es with
  | nil=>simp[zCS]at he
  | cons e es=>
  obtain⟨v,vs',rfl,r1,t1⟩:=h1.inv;obtain⟨w,ws',rfl,r2,t2⟩:=h2.inv;unfold zCS at he;split at he
  .simp_all
  .rename_i k x ds' k' y es' a1 a2;cases a1;cases a2;split at he
   .rename_i hk;split at he
    .rename_i r hr;cases zpy r1;cases zpy r2;unfold zxI;simp only[hk,qdt,zlo hr t1 t2];exact he
    cases he
   cases he
  cases he
variable{ds:List D}{vs:List V}
theorem zs9{us:List V}(he:zjF ds=some us)(hr:Rs c ds vs):vs=us:=by
 induction ds generalizing us vs with
 | nil=>grind [zjF,Go.Lx.Rs]
 | cons d ds ih=>
  obtain⟨v,vs',rfl,h1,h2⟩:=hr.inv;unfold zjF at he
  grind [zpy]
theorem zpI{o:Option V}(h:zza o=some d):∃ v,o=some (.lit v)/\d=.lit v:=by
 unfold zza at h
 grind
variable{v:V}
theorem zfF(h:v.one=true):v.cells=some [v]:=by
 cases v<;>simp_all [V.one,V.cells]
variable{l:List D}
theorem zqh(hr:R c d v)(hl:d.cells=some l):∃ l',v.cells=some l'/\Rs c l l':=by
 have one:∀ {d:D} {v:V},R c d v->v.one=true->∃ l',v.cells=some l'/\Rs c [d] l':=λh h1=>⟨_,zfF h1,(Rs.nil c).cons h⟩
 cases hr with
 | any v=>cases hl
 | lit v=>
  cases hv:zhi v with
  | false=>simp[D.cells,hv]at hl
  | true=>simp[D.cells,hv]at hl; subst hl; exact one (.lit v) hv
 | ptr h1=>cases hl; exact one (.ptr h1) rfl
 | eptr h1 h2=>
  cases hl;refine one (.eptr h1 h2) ?_
  grind [Go.Mx.V.one]
 | sl h1 h2=>
  cases hl;refine one (.sl h1 h2) ?_
  grind [Go.Mx.V.one]
 | slg h1=>cases hl; exact one (.slg h1) rfl
 | fz h1 h2 h3 h4 h5 h6=>cases hl; exact one (.fz h1 h2 h3 h4 h5 h6) rfl
 | fz0=>cases hl; exact one .fz0 rfl
 | fzn=>cases hl; exact one .fzn rfl
 | z0 h1 h2=>cases hl; exact one (.z0 h1 h2) rfl
 | z0n=>cases hl; exact one .z0n rfl
 | fptr h1 h2 h3=>cases hl; exact one (.fptr h1 h2 h3) rfl
 | clo h1 h2 h3 h4=>cases hl; exact one (.clo h1 h2 h3 h4) rfl
 | yld h1=>cases hl; exact one (.yld h1) rfl
 | ifc h1=>cases hl; exact one (.ifc h1) rfl
 | agg h1 h2=>cases hl; exact⟨_,rfl,h1,h2⟩
 | tup h1 h2=>cases hl
theorem zfu(h:Rel c S M)(he:zc9 (evD S.env x)=some l):∃ l',(ev M.env x).bind V.cells=some l'/\Rs c l l':=by
 cases h1:evD S.env x<;>grind [zae,zqh,zc9]
variable{o n:Nat}
theorem ztB(hr:Rs c ds vs)(hs:zs4 o n ds=some l):∃ l',slot o n vs=some l'/\Rs c l l':=by
 unfold zs4 at hs;split at hs
 .rename_i hle;cases hs;refine⟨_,?_,(hr.drop o).take n⟩
  grind [slot,qaw,Go.Lx.Rs]
 cases hs
theorem zdU(hr:Rs c ds vs){n:Option Nat}(ht:ziv ds o n=some d):∃ v,takeN vs o n=some v/\R c d v:=by
 cases n with
 | none=>exact hr.get ht
 | some n=>
  simp only[ziv]at ht;cases hs:zs4 o n ds with
  | none=>rw[hs]at ht; cases ht
  | some l=>
   rw[hs]at ht;cases ht;obtain⟨l',g1,g2⟩:=ztB hr hs;exact⟨.agg l',by simp[takeN,g1],.agg g2.1 g2.2⟩
theorem znT{a m:Nat}{n:Option Nat}(ha:a<=vs.length)(ht:takeN ((vs.drop a).take m) o n=some v):takeN vs (a+o) n=some v:=by
 cases n<;>grind [takeN,slot,qad,qaw,List.drop_take,List.drop_drop]
theorem zju{n:Nat}:∀ {es:List (List D)},(∀ cells,cells∈es->cells.length=n)->es.flatten.length=es.length * n
 | [],_=>by simp
 | e :: es,h=>by
  rw[qbp,qax,zju λx hx=>h x (qag _ hx),h e (by simp),qaC,qcs];omega
theorem zpw{n:Nat}:∀ {es:List (List D)} (s:Nat),(∀ cells,cells∈es->cells.length=n)->es.flatten.drop (s * n)=(es.drop s).flatten
 | es,0,_=>by simp
 | [],s+1,_=>by simp
 | e :: es,s+1,h=>by
  have he:=h e (by simp);rw[qbp,List.drop_succ_cons,<- zpw s λx hx=>h x (qag _ hx),qcs,List.drop_append,he,qcn (by omega),qaP];congr 1
  omega
theorem zoE{n:Nat}:∀ {es:List (List D)} (s:Nat),(∀ cells,cells∈es->cells.length=n)->es.flatten.take (s * n)=(es.take s).flatten
 | es,0,_=>by simp
 | [],s+1,_=>by simp
 | e :: es,s+1,h=>by
  have he:=h e (by simp);rw[qbp,qci,qbp,<- zoE s λx hx=>h x (qag _ hx),qcs,List.take_append,he,qaM (by omega)];congr 2
  omega
theorem Els.znK{es:List (List D)}(h:Els c n es vs):vs.length=es.length * n:=by rw[<- h.rel.1,zju h.len]
theorem znq{α:Type}{l:List α}{x:α}{a b:Nat}(h:x∈(l.drop a).take b):x∈l:=qcA (List.mem_of_mem_take h)
theorem Els.sub{es:List (List D)}(h:Els c n es vs)(s len:Nat):Els c n ((es.drop s).take len) ((vs.drop (s * n)).take (len * n)):=by
 refine⟨λx hx=>h.len x (znq hx),?_⟩;rw[<- zoE len λx hx=>h.len x (qcA hx),<- zpw s h.len];exact(h.rel.drop _).take _
theorem Els.append{n:Nat}{es es':List (List D)}{vs vs':List V}(h:Els c n es vs)(h':Els c n es' vs'):Els c n (es ++ es') (vs ++ vs'):=by
 grind [Rs.append,Go.Lx.Els]
theorem Els.one{cells:List D}(h:Rs c cells vs):Els c cells.length [cells] vs:=⟨by simp,by simpa using h⟩
theorem Els.nil(n:Nat):Els c n [] []:=⟨by simp,Rs.nil c⟩
theorem Els.at_{es:List (List D)}(h:Els c n es vs){i:Nat}{cells:List D}(hi:es[i]? = some cells):Rs c cells ((vs.drop (i * n)).take n):=by
 have h1:=(h.sub i 1).rel
 grind [qas]
theorem Els.take{es:List (List D)}(h:Els c n es vs)(k:Nat):Els c n (es.take k) (vs.take (k * n)):=by
 have:=h.sub 0 k;simpa using this
theorem Els.drop{es:List (List D)}(h:Els c n es vs)(k:Nat):Els c n (es.drop k) (vs.drop (k * n)):=by
 have:=h.sub k es.length
 grind [qaM,Els.znK]
theorem zdT(h:Rel c S M):∀(parts:List (Nat×Nat×X)) {cs l:List D} {vs:List V},znz S.env cs parts=some l->Rs c cs vs->∃ l',zgt M.env vs parts=some l'/\Rs c l l'
 | [],cs,l,vs,he,hr=>by cases he; exact⟨vs,rfl,hr⟩
 |(off,n,x):: r,cs,l,vs,he,hr=>by
  simp only[znz]at he;cases h1:zc9 (evD S.env x)with
  | none=>rw[h1]at he; cases he
  | some k=>
   rw[h1]at he;simp only at he;split at he
   .rename_i hc;obtain⟨k',g1,g2⟩:=zfu h h1;have hp:Rs c (zoP cs off k) (zbQ vs off k'):=by
     grind [zoP,zbQ,Go.Lx.Rs]
    obtain⟨l',g3,g4⟩:=zdT h r he hp
    grind [zgt,qaw,Go.Lx.Rs]
   cases he
variable{β st:Nat}
theorem ze8(h:RelH c L H){es:List (List D)}(he:zgS L β n st=some es):
  0<n/\st=es.length/\(L[β]? = some (.els n es)\/L[β]? = some (.grow n es))/\((es=[]/\c.ρ β=some .ghost)\/∃ b vs,c.ρ β=some (.list b st)/\H[b]? = some (.blk vs)/\Els c n es vs):=by
 unfold zgS at he;split at he
 .rename_i n' es' heq;split at he
  .rename_i hc;cases he;obtain⟨rfl,hc⟩:=hc;obtain⟨g0,g1 | ⟨b,vs,g1,g2,g3⟩⟩:=h.obj β _ heq
   .simp_all
   simp_all
  cases he
 .rename_i n' es' heq;split at he
  .rename_i hc;cases he;obtain⟨rfl,hc⟩:=hc;obtain⟨g0,g1 | ⟨g,b,vs,g1,g2,g3⟩⟩:=h.obj β _ heq
   .simp_all
   simp_all
  cases he
 cases he
theorem slR(h:RelH c L H){s len:Nat}{cap:Option Nat}{es:List (List D)}(he:zgS L β n st=some es)(hr:R c (.sl β s n len cap st) v):
  (∃ b vs,c.ρ β=some (.list b st)/\v=.sl b (s * n) n len cap/\H[b]? = some (.blk vs)/\Els c n es vs)\/(v=.lit (.slice none 0 0)/\s=0/\len=0/\cap=none/\st=0/\es=[]/\c.ρ β=some .ghost):=by
 obtain⟨h1,h2,h3,h4⟩:=ze8 h he
 grind [Go.Lx.R]
theorem ztJ(h:RelH c L H){i off:Nat}{es:List (List D)}(he:zgS L β n st=some es)(hr:R c (.eptr β n i off st) v):∃ b vs,c.ρ β=some (.list b st)/\v=.ptr b (i * n+off)/\H[b]? = some (.blk vs)/\Els c n es vs:=by
 obtain⟨h1,h2,h3,h4⟩:=ze8 h he
 grind [Go.Lx.R]
end
section
variable {c:Cx} {S:LSt} {M:St} {L:List LB} {H:zam}
theorem zbR{β:Nat}{cs:List V}(hh:H[β]? = some (.blk cs)):zaG H β=some cs:=by simp[zaG,hh]
theorem zCf(h:RelH c L H){t:Bool}{ds:List D}{b o:Nat}{cs:List V}(h1:c.look t b=some cs)(h2:o+ds.length<=cs.length)(h3:∀(k:Nat) d v,ds[k]? = some d->cs[o+k]? = some v->R (c.frz t) d v):
  Rs c ds ((cs.drop o).take ds.length):=by
 grind [R.zwb,Go.Lx.Rs,Go.Lx.RelH]
variable{d d':D}{v:V}
theorem zlA(h:RelH c L H){n:Option Nat}(hr:R c d v)(hl:zmt L n d=some d'):∃ v',(match v with | .ptr β o=>(zaG H β).bind λcs=>takeN cs o n | _=>none)=some v'/\R c d' v':=by
 cases d with
 | ptr β o=>
  cases hr with
  | ptr g1=>
   simp only[zmt]at hl;split at hl
   .rename_i ds heq;obtain⟨b,vs,k1,k2,k3⟩:=h.obj β _ heq
    grind [zdU,Go.Mx.zaG]
   .cases hl
 | eptr β n' i off st=>
  simp only[zmt]at hl;cases he:zgS L β n' st with
  | none=>rw[he]at hl; cases hl
  | some es=>
   rw[he]at hl;simp only at hl;obtain⟨b,vs,k1,rfl,k3,k6⟩:=ztJ h he hr;cases hi:es[i]? with
   | none=>rw[hi]at hl; cases hl
   | some cells=>
    rw[hi]at hl;obtain⟨v',e1,e2⟩:=zdU (k6.at_ hi) hl;refine⟨v',?_,e2⟩;simp only[zbR k3,qaa];have hil:i<es.length:=(qab.1 hi).1;have h1:i * n'<=es.length * n':=qau n' (by omega);exact znT (by rw[k6.znK]; exact h1) e1
 | fptr t ds=>
  cases hr with
  | fptr h1 h2 h3=>
   simp only[zmt]at hl;obtain⟨v',e1,e2⟩:=zdU (zCf h h1 h2 h3) hl;refine⟨v',?_,e2⟩;simp only[zbR (h.look h1),qaa];have:=znT (by omega) e1;omega
 | _=>cases hl
theorem zpt(h:RelH c L H){off:Nat}(hr:R c d v)(hl:ztX L off d=some d'):∃ b o,v=.ptr b o/\R c d' (.ptr b (o+off)):=by
 grind [ztX,ztJ,Go.Lx.R]
variable{n:Nat}
theorem zvh(h:RelH c L H){m:Int}(hr:R c d v)(hl:zzx L n m d=some d'):
  ∃ v',(match v with | .sl β o n' len _=>bif (n == n') && decide (0<=m) && decide (m<len)then some (V.ptr β (o+m.toNat * n))else none | _=>none)=some v'/\R c d' v':=by
 cases d with
 | sl β s n' len cap st=>
  simp only[zzx]at hl;split at hl
  .rename_i hc;obtain⟨rfl,hc1,hc2⟩:=hc;cases he:zgS L β n st with
   | none=>rw[he]at hl; cases hl
   | some es=>
    rw[he]at hl;cases hl;rcases slR h he hr with⟨b',vs,q1,rfl,_⟩| ⟨rfl,_,rfl,_⟩
    rotate_left
    .omega
    refine⟨_,by simp[hc1,hc2]; rfl,.eptr q1 (.inr ⟨rfl,by rw[qbM,qaQ]⟩)⟩
  .cases hl
 | fz t n' els=>
  simp only[zzx]at hl;split at hl
  .rename_i hc;obtain⟨rfl,hc1⟩:=hc;cases hi:els[m.toNat]? with
   | none=>rw[hi]at hl; cases hl
   | some cells=>
    rw[hi]at hl;cases hl;have hil:=(qab.1 hi).1;cases hr with
    | fz h1 h2 h3 h4 h5 h6=>
     have h7:=h5 _ _ hi;have h8:m.toNat * n+n<=els.length * n:=by
      have:=qau n hil
      grind
     refine⟨_,?_,.fptr h1 (o:=_) ?_ λk d v g1 g2=>h6 _ _ k d v hi g1 g2⟩<;> grind
    | fz0=>simp at hil
    | fzn=>simp at hil
  .cases hl
 | _=>cases hl
theorem zvT(h:RelH c L H)(hr:R c d v)(hl:zyh L d=some d'):∃ v',zC7 v=some v'/\R c d' v':=by
 grind [zyh,slR,Go.Mx.zC7,Go.Lx.R]
theorem zoz{cap:Option Nat}(hcap:∀ k,cap=some k->n<=k){lo hi mx:Option Int}(hh:hi.getD n<=n)(hm:mx.getD n<=n){l h:Nat}{cc:Option Nat}(hb:bounds n (some n) lo hi mx=some (l,h,cc)):
  l<=h/\h<=n/\∃ c',bounds n cap lo hi mx=some (l,h,c')/\(∀ k,c'=some k->h - l<=k)/\(mx.isSome=true->c'=cc):=by
 have ht:(n:Int)<=ziO n cap:=by
  cases cap<;>grind [ziO]
 cases mx with
 | none=>
  simp only[bounds]at hb ⊢;cases hc:(decide (0<=lo.getD 0) && decide (lo.getD 0<=hi.getD n) && decide (hi.getD n<=ziO n (some n)))with
  | false=>rw[hc]at hb; cases hb
  | true=>
   rw[hc]at hb;simp only[qah,decide_eq_true_eq]at hc;cases hb;have e1:(decide (0<=lo.getD 0) && decide (lo.getD 0<=hi.getD n) && decide (hi.getD n<=ziO n cap))=true:=by
    grind
   rw[e1];refine⟨by omega,by omega,_,rfl,λk hk=>?_,λh0=>by cases h0⟩;cases cap<;>grind
 | some m=>
  grind [bounds]
theorem zus(h:RelH c L H){lo hi mx:Option Int}(hr:R c d v)(hl:zt4 L n lo hi mx d=some d'):∃ v',zvu n lo hi mx v=some v'/\R c d' v':=by
 cases d with
 | lit u=>
  grind [zpy,zt4,zvu]
 | sl β s n' len cap st=>
  simp only[zt4]at hl;split at hl
  .rename_i hn;subst hn;cases he:zgS L β n st with
   | none=>rw[he]at hl; cases hl
   | some es=>
    rw[he]at hl;cases hb:bounds len cap lo hi mx with
    | none=>rw[hb]at hl; cases hl
    | some x=>
     obtain⟨l,hh,cc⟩:=x;rw[hb]at hl;simp only at hl;split at hl
     .rename_i hmx;subst hmx;cases hl;rcases slR h he hr with⟨b',vs,q1,rfl,_⟩| ⟨rfl,rfl,rfl,rfl,rfl,_,q1⟩
      .exact⟨_,by simp[zvu,hb]; rfl,.sl q1 (.inr ⟨rfl,by rw[qaQ]⟩)⟩
      have hb':bounds 0 (some 0) lo hi none=some (l,hh,some (0 - l))/\l=0/\hh=0/\cc=none:=by
       simp only[bounds]at hb ⊢
       grind [ziO]
      grind [zvu]
     cases hl
  .cases hl
 | fz t n' els=>
  simp only[zt4]at hl;split at hl
  .rename_i hn;subst hn;unfold zCT at hl;split at hl
   .rename_i hc;simp only[qah,decide_eq_true_eq]at hc;cases hb:bounds els.length (some els.length) lo hi mx with
    | none=>rw[hb]at hl; cases hl
    | some x=>
     obtain⟨l,hh,cc⟩:=x;rw[hb]at hl;simp only at hl;cases hr with
     | fz h1 h2 h3 h4 h5 h6=>
      rename_i b o cap cs;obtain⟨e1,e2,c',e3,e4,e5⟩:=zoz h3 hc.1 hc.2 hb;refine⟨.sl b (o+l * n) n (hh - l) c',by simp[zvu,e3],?_⟩;split at hl
      .rename_i hz;simp only[qah,qdx]at hz;obtain⟨hz,_⟩:=hz;cases hl;have h0:=e5 hz.1;rw[hz.2]at h0;subst h0;have:=e4 0 rfl;have h9:hh - l=0:=by omega
       rw[h9];refine .z0 h1 ?_;have:l * n<=els.length * n:=qau n (by omega);omega
      .cases hl;have hlen:((els.drop l).take (hh - l)).length=hh - l:=by simp; omega
       rw[show V.sl b (o+l * n) n (hh - l) c'=V.sl b (o+l * n) n ((els.drop l).take (hh - l)).length c' by rw[hlen]];refine .fz h1 h2 (by rw[hlen]; exact e4) ?_ (λi cells hi=>?_) λi cells k d v g1 g2 g3=>?_
       .rw[hlen];have:l * n+(hh - l)* n<=els.length * n:=by rw[<- qaQ]; exact qau n (by omega)
        omega
       .grind
       .grind
     | fz0=>
      rename_i b o cap;simp only[qaU]at hc hb hl;have hcz:∀ k,cap=some k->0<=k:=λ_ _=>qar _
      obtain⟨e1,e2,c',e3,e4,e5⟩:=zoz hcz hc.1 hc.2 hb;refine⟨.sl b (o+l * n) n (hh - l) c',by simp[zvu,e3],?_⟩;have hl0:l=0:=by omega
      have hh0:hh=0:=by omega
      subst hl0
      grind [Go.Lx.R]
     | fzn=>
      simp only[qaU]at hc hb hl;refine⟨.lit (.slice none 0 0),by simp[zvu,hb],?_⟩
      grind [Go.Lx.R]
   cases hl
  .cases hl
 | _=>cases hl
theorem zzf(h:RelH c L H){o:Option Nat}(hr:R c d v)(hy:yB L d=some o):match o with
  | none=>ztZ v=none
  | some β=>ztZ v=none\/∃ b x,ztZ v=some b/\c.ρ β=some x/\x.blk=some b:=by
 grind [yB,ztJ,slR,Go.Mx.ztZ,Go.Lx.Lc.blk,Go.Lx.R]
theorem zxM(h:RelH c L H){β b:Nat}{x:Lc}(hr:R c d v)(hx:xB L β d=true)(hb:c.ρ β=some x)(hxb:x.blk=some b):∃ γ o,v=.ptr γ o/\(zaG H γ).isSome=true/\(γ == b)=false:=by
 cases d with
 | fptr t ds=>
  grind [Cx.look,Go.Mx.zaG,Go.Lx.RelH,Go.Lx.R]
 | ptr γ o=>
  simp only[xB]at hx;split at hx
  .rename_i ds heq;cases hr with
   | ptr g1=>
    obtain⟨b',vs,k1,k2,k3⟩:=h.obj γ _ heq
    grind [Go.Mx.zaG,Go.Lx.RelH,Go.Lx.Lc.blk]
  .cases hx
 | eptr γ n i off st=>
  grind [xB,ztJ,Go.Mx.zaG,Go.Lx.RelH,Go.Lx.Lc.blk]
 | _=>cases hx
theorem zoZ(h:Rel c S M){β b:Nat}{x:Lc}(hb:c.ρ β=some x)(hxb:x.blk=some b):∀ {xs:List X} {ds:List D},zhc S.env xs=some ds->xBs S.heap β ds=true->xs.all (zC1 M.heap M.env b)=true
 | [],ds,he,hx=>rfl
 | y :: r,ds,he,hx=>by
  simp only[zhc]at he;cases h1:evD S.env y with
  | none=>rw[h1]at he; cases he
  | some d=>
   cases h2:zhc S.env r with
   | none=>rw[h1,h2]at he; cases he
   | some ds'=>
    rw[h1,h2]at he;cases he;simp only[xBs]at hx;cases h3:xB S.heap β d with
    | false=>rw[h3]at hx; cases hx
    | true=>
     rw[h3]at hx;obtain⟨v,g1,g2⟩:=zae h h1;obtain⟨γ,o,rfl,g3,g4⟩:=zxM h.heap g2 h3 hb hxb;rw[qdl,zoZ h hb hxb h2 hx];simp[zC1,g1,g3,g4]
theorem zx5(h:Rel c S M){i:I}(hq:qL S.heap S.env i=some d):∃ v,q M.heap M.env i=some v/\R c d v:=by
 cases i with
 | mov x=>exact zae h hq
 | avo xs y=>
  simp only[qL]at hq;cases hy:evD S.env y with
  | none=>rw[hy]at hq; cases hq
  | some e=>
   rw[hy]at hq;obtain⟨v,g1,g2⟩:=zae h hy;simp only at hq;have fin:zva M.heap M.env xs y=true->∃ v,q M.heap M.env (.avo xs y)=some v/\R c (.lit (.tuple #[])) v:=λha=>⟨zbg,by simp[q,ha],.lit _⟩
   cases hb:yB S.heap e with
   | none=>rw[hb]at hq; cases hq
   | some o=>
    have hs:=zzf h.heap g2 hb;rw[hb]at hq;cases o with
    | none=>
     grind [zva]
    | some β=>
     simp only at hq;cases hx:zhc S.env xs with
     | none=>rw[hx]at hq; cases hq
     | some ds=>
      rw[hx]at hq;simp only at hq;cases hxb:xBs S.heap β ds with
      | false=>rw[hxb]at hq; cases hq
      | true=>
       rw[hxb]at hq;cases hq;refine fin ?_;rcases hs with hs | ⟨b,x,hs,k1,k2⟩
       .simp[zva,g1,hs]
       .simp only[zva,g1,hs]; exact zoZ h k1 k2 hx hxb
 | pick x a b=>
  grind [qL,zgZ,zae,Go.Mx.q]
 | build z parts=>
  simp only[qL]at hq;cases hf:znz S.env (z.map .lit) parts with
  | none=>rw[hf]at hq; cases hq
  | some l=>
   rw[hf]at hq;cases hq;obtain⟨l',g1,g2⟩:=zdT h parts hf (Rs.lits z);exact⟨.agg l',by simp[q,g1],.agg g2.1 g2.2⟩
 | load n x=>
  grind [qL,zae,zlA,Go.Mx.q,Go.Lx.Rel]
 | fld off x=>
  grind [qL,zae,zpt,Go.Mx.q,Go.Lx.Rel]
 | idxS n x j=>
  grind [qL,zae,zvh,zfO,Go.Mx.q,Go.Lx.Rel]
 | idxA n cnt x j=>
  grind [qL,zae,zpt,zfO,Go.Mx.q,Go.Lx.Rel]
 | idxV n cnt x j=>
  simp only[qL]at hq;split at hq
  .rename_i ds hx;cases hj:zo7 (evD S.env j)with
   | none=>rw[hj]at hq; cases hq
   | some m=>
    rw[hj]at hq;simp only at hq;split at hq
    .rename_i hm;obtain⟨v,g1,g2⟩:=zae h hx;cases g2 with
     | agg k1 k2=>
      obtain⟨v',e1,e2⟩:=zdU ⟨k1,k2⟩ hq
      grind [zfO,Go.Mx.q]
    cases hq
  .cases hq
 | part n off x=>
  simp only[qL]at hq;split at hq
  .rename_i ds hx;obtain⟨v,g1,g2⟩:=zae h hx;cases g2 with
   | agg k1 k2=>
    obtain⟨v',e1,e2⟩:=zdU ⟨k1,k2⟩ hq
    grind [Go.Mx.q]
  .cases hq
 | bin op x y=>
  grind [qL,zpI,zpb,Go.Mx.q,Go.Lx.R]
 | eqb neg x y=>
  simp only[qL]at hq;cases hx:zhM (evD S.env x)with
  | none=>rw[hx]at hq; cases hq
  | some u=>
   rw[hx]at hq;cases hy:zhM (evD S.env y)with
   | none=>rw[hy]at hq; cases hq
   | some u'=>
    rw[hy]at hq;cases hq;exact⟨_,by simp only[q,zgZ h hx,zgZ h hy],.lit _⟩
 | eqa n neg x y=>
  simp only[qL]at hq;split at hq
  .rename_i ds hx;split at hq
   .rename_i es hy;split at hq
    .rename_i hl;split at hq
     .rename_i b hb;cases hq;obtain⟨v,g1,g2⟩:=zae h hx;obtain⟨v',g1',g2'⟩:=zae h hy;cases g2 with
      | agg k1 k2=>
      cases g2' with
      | agg k1' k2'=>
      exact⟨_,by simp only[q,g1,g1',<- k1,<- k1',hl,qdt,zlo hb ⟨k1,k2⟩ ⟨k1',k2'⟩],.lit _⟩
     cases hq
    cases hq
   cases hq
  .cases hq
 | eqn neg x=>
  grind [qL,zae,slR,Go.Mx.q,Go.Lx.R,Go.Lx.Rel]
 | eqi neg x=>
  grind [qL,zae,Go.Mx.q,Go.Lx.R]
 | eqp neg x=>
  grind [qL,zae,Go.Mx.q,Go.Lx.R]
 | un op x=>
  grind [qL,zpI,zpb,Go.Mx.q,Go.Lx.R]
 | conv k x=>
  simp only[qL]at hq;cases hx:zo7 (evD S.env x)with
  | none=>rw[hx]at hq; cases hq
  | some u=>rw[hx]at hq; cases hq; exact⟨_,by simp only[q,zfO h hx],.lit _⟩
 | len x=>
  grind [qL,zae,zvT,Go.Mx.q,Go.Lx.Rel]
 | mm b xs=>
  simp only[qL]at hq
  grind [zcM,zpI,zs9,Go.Mx.q,Go.Lx.R]
 | ext x j=>
  grind [qL,zae,Go.Mx.q,Go.Lx.R]
 | slc n x lo hi mx=>
  simp only[qL]at hq;cases hx:evD S.env x with
  | none=>rw[hx]at hq; cases hq
  | some e=>
   rw[hx]at hq;cases h1:zkX S.env lo with
   | none=>rw[h1]at hq; cases hq
   | some l=>
    grind [zae,zus,zye,zoJ,Go.Mx.q,Go.Lx.Rel]
 | nilck x=>
  grind [qL,zae,ztJ,Go.Mx.q,Go.Lx.R,Go.Lx.Rel]
 | clo f xs ys=>
  simp only[qL]at hq;cases hx:zhc S.env xs with
  | none=>rw[hx]at hq; cases hq
  | some l=>
   rw[hx]at hq;cases hy:zhc S.env ys with
   | none=>rw[hy]at hq; cases hq
   | some l'=>
    rw[hy]at hq;cases hq;obtain⟨vs,g1,g2⟩:=zcM h hx;obtain⟨us,g3,g4⟩:=zcM h hy;exact⟨_,by simp only[q,g1,g3],.clo g2.1 g4.1 g2.2 g4.2⟩
 | mkI t x=>
  grind [qL,zae,Go.Mx.q,Go.Lx.R]
 | _=>cases hq
end
end Go.Lx
