/-
 Trees: what an operation that leaves memory alone yields. Conditions: none.
-/
import Derived.Test.YtbjogdohfhdaiaaGreatErJ24
set_option linter.unusedSimpArgs false
set_option linter.unusedVariables false
namespace Go.Lx
open Go Go.Mx
def evD(E:List (Nat×D)):X->Option D
 | .c v=>some (.lit v)
 | .s k=>lk E k
 | .f f=>some (.clo f [] [])
def zhj(E:List (Nat×D)):List X->Option (List D)
 | []=>some []
 | x :: r=>match evD E x with
  | some v=>(match zhj E r with
   | some vs=>some (v :: vs)
   | none=>none)
  | none=>none
def zot:Option D->Option Int
 | some (.lit (.int _ n))=>some n
 | _=>none
def zil:Option D->Option Bool
 | some (.lit (.bool b))=>some b
 | _=>none
def zln(E:List (Nat×D)):Option X->Option (Option Int)
 | none=>some none
 | some x=>match zot (evD E x)with
  | some n=>some (some n)
  | none=>none
def D.cells:D->Option (List D)
 | .lit v=>bif zhm v then some [.lit v]else none
 | .agg ds=>some ds
 | .tup _=>none
 | .any=>none
 | d=>some [d]
def ztn(o n:Nat)(cs:List D):Option (List D):=if o+n<=cs.length then some ((cs.drop o).take n)else none
def ziJ(cs:List D)(o:Nat):Option Nat->Option D
 | none=>cs[o]?
 | some n=>match ztn o n cs with
  | some l=>some (.agg l)
  | none=>none
def zpa(cs:List D)(off:Nat)(ns:List D):List D:=cs.take off ++ ns ++ cs.drop (off+ns.length)
def zc9:Option D->Option (List D)
 | some d=>d.cells
 | none=>none
def znT(E:List (Nat×D))(cs:List D):List (Nat×Nat×X)->Option (List D)
 | []=>some cs
 |(off,n,x):: r=>match zc9 (evD E x)with
  | some l=>if l.length=n/\off+n<=cs.length then znT E (zpa cs off l) r else none
  | none=>none
def zgP(L:List LB)(β n st:Nat):Option (List (List D)):=
 match L[β]? with
 | some (.els n' es)=>if n=n'/\st=es.length then some es else none
 | some (.grow n' es)=>if n=n'/\st=es.length then some es else none
 | _=>none
def zzF:Option V->Option D
 | some (.lit v)=>some (.lit v)
 | _=>none
def zzB:Option D->Option V
 | some (.lit v)=>some (.lit v)
 | _=>none
def zCV:List D->List D->Option Bool
 | [],[]=>some true
 | .lit (.int k a):: vs,.lit (.int k' b):: ws=>(match k == k' with
  | true=>(match zCV vs ws with
   | some r=>some ((a == b) && r)
   | none=>none)
  | false=>none)
 | _,_=>none
def zk9:List D->Option (List V)
 | []=>some []
 | .lit v :: r=>match zk9 r with
  | some l=>some (.lit v :: l)
  | none=>none
 | _=>none
def zy8(L:List LB):D->Option D
 | .lit (.slice none 0 0)=>some (.lit (.int .i64 0))
 | .sl β s n len cap st=>(match zgP L β n st with
  | some _=>some (.lit (.int .i64 len))
  | none=>none)
 | .fz _ _ els=>some (.lit (.int .i64 els.length))
 | .z0 _ _=>some (.lit (.int .i64 0))
 | _=>none
def zDC(t:Bool)(n:Nat)(els:List (List D))(lo hi mx:Option Int):Option D:=
 if decide (hi.getD els.length<=els.length) && decide (mx.getD els.length<=els.length)then
  match bounds els.length (some els.length) lo hi mx with
  | some (l,h,c)=>if mx.isSome && (c == some 0) && !(els.length == 0)then some (.z0 t n)else some (.fz t n ((els.drop l).take (h - l)))
  | none=>none
 else none
def zul(L:List LB)(n:Nat)(lo hi mx:Option Int):D->Option D
 | .lit (.slice none 0 0)=>(match bounds 0 (some 0) lo hi mx with
  | some _=>some (.lit (.slice none 0 0))
  | none=>none)
 | .sl β s n' len cap st=>if n=n' then(match zgP L β n st with
  | some _=>(match bounds len cap lo hi mx with
   | some (l,h,c)=>if mx=none then some (.sl β (s+l) n (h - l) c st)else none
   | none=>none)
  | none=>none)else none
 | .fz t n' els=>if n=n' then zDC t n els lo hi mx else none
 | _=>none
def zmn(L:List LB)(n:Option Nat):D->Option D
 | .ptr β o=>(match L[β]? with
  | some (.cells ds)=>ziJ ds o n
  | _=>none)
 | .eptr β n' i off st=>(match zgP L β n' st with
  | some es=>(match es[i]? with
   | some cells=>ziJ cells off n
   | none=>none)
  | none=>none)
 | .fptr t ds=>ziJ ds 0 n
 | _=>none
def zue(L:List LB)(off:Nat):D->Option D
 | .ptr β o=>some (.ptr β (o+off))
 | .eptr β n i o st=>(match zgP L β n st with
  | some _=>some (.eptr β n i (o+off) st)
  | none=>none)
 | .fptr t ds=>if off<=ds.length then some (.fptr t (ds.drop off))else none
 | _=>none
def zy6(L:List LB)(n:Nat)(m:Int):D->Option D
 | .sl β s n' len cap st=>if n=n'/\0<=m/\m<len then(match zgP L β n st with
  | some _=>some (.eptr β n (s+m.toNat) 0 st)
  | none=>none)else none
 | .fz t n' els=>if n=n'/\0<=m then(match els[m.toNat]? with
  | some cells=>some (.fptr t cells)
  | none=>none)else none
 | _=>none
def yB(L:List LB):D->Option (Option Nat)
 | .lit (.slice none 0 0)=>some none
 | .ptr β _=>some (some β)
 | .eptr β n _ _ st=>match zgP L β n st with
  | some _=>some (some β)
  | none=>none
 | .sl β _ n _ _ st=>match zgP L β n st with
  | some _=>some (some β)
  | none=>none
 | _=>none
def xB(L:List LB)(β:Nat):D->Bool
 | .fptr _ _=>true
 | .ptr γ _=>match L[γ]? with
  | some (.cells _)=>!(γ == β)
  | _=>false
 | .eptr γ n _ _ st=>match zgP L γ n st with
  | some _=>!(γ == β)
  | none=>false
 | _=>false
def xBs(L:List LB)(β:Nat):List D->Bool
 | []=>true
 | d :: r=>match xB L β d with
  | true=>xBs L β r
  | false=>false
def qL(L:List LB)(E:List (Nat×D)):I->Option D
 | .mov x=>evD E x
 | .avo xs y=>(match evD E y with
  | some d=>(match yB L d with
   | some none=>some (.lit (.tuple #[]))
   | some (some β)=>(match zhj E xs with
    | some ds=>(match xBs L β ds with
     | true=>some (.lit (.tuple #[]))
     | false=>none)
    | none=>none)
   | none=>none)
  | none=>none)
 | .pick c a b=>(match zil (evD E c)with
  | some true=>evD E a
  | some false=>evD E b
  | none=>none)
 | .build z parts=>(match znT E (z.map .lit) parts with
  | some l=>some (.agg l)
  | none=>none)
 | .load n x=>(match evD E x with
  | some d=>zmn L n d
  | none=>none)
 | .fld off x=>(match evD E x with
  | some d=>zue L off d
  | none=>none)
 | .idxS n x i=>(match evD E x with
  | some d=>(match zot (evD E i)with
   | some m=>zy6 L n m d
   | none=>none)
  | none=>none)
 | .idxA n cnt x i=>(match evD E x with
  | some d=>(match zot (evD E i)with
   | some m=>if 0<=m/\m<cnt then zue L (m.toNat * n) d else none
   | none=>none)
  | none=>none)
 | .idxV n cnt x i=>(match evD E x with
  | some (.agg ds)=>(match zot (evD E i)with
   | some m=>if 0<=m/\m<cnt then ziJ ds (m.toNat * n.getD 1) n else none
   | none=>none)
  | _=>none)
 | .part n off x=>(match evD E x with
  | some (.agg ds)=>ziJ ds off n
  | _=>none)
 | .bin op x y=>(match zzB (evD E x)with
  | some u=>(match zzB (evD E y)with
   | some u'=>zzF (zod op u u')
   | none=>none)
  | none=>none)
 | .eqb neg x y=>(match zil (evD E x)with
  | some a=>(match zil (evD E y)with
   | some b=>some (.lit (.bool (bif neg then !(a == b)else(a == b))))
   | none=>none)
  | none=>none)
 | .eqa n neg x y=>(match evD E x with
  | some (.agg ds)=>(match evD E y with
   | some (.agg es)=>(match Nat.beq ds.length n && Nat.beq es.length n with
    | true=>(match zCV ds es with
     | some b=>some (.lit (.bool (bif neg then !b else b)))
     | none=>none)
    | false=>none)
   | _=>none)
  | _=>none)
 | .eqn neg x=>(match evD E x with
  | some (.lit (.slice none 0 0))=>some (.lit (.bool !neg))
  | some (.sl β s n len cap st)=>(match zgP L β n st with
   | some es=>if es.length=0 then none else some (.lit (.bool neg))
   | none=>none)
  | some (.fz t n els)=>if els.length=0 then none else some (.lit (.bool neg))
  | _=>none)
 | .eqi neg x=>(match evD E x with
  | some (.lit .nilIface)=>some (.lit (.bool !neg))
  | some (.ifc ..)=>some (.lit (.bool neg))
  | _=>none)
 | .eqp neg x=>(match evD E x with
  | some (.lit (.pointer none))=>some (.lit (.bool !neg))
  | some (.ptr ..)=>some (.lit (.bool neg))
  | some (.fptr ..)=>some (.lit (.bool neg))
  | _=>none)
 | .un op x=>(match zzB (evD E x)with
  | some u=>zzF (unV op u)
  | none=>none)
 | .conv k x=>(match zot (evD E x)with
  | some m=>some (.lit (.int k (k.wrap m)))
  | none=>none)
 | .len x=>(match evD E x with
  | some d=>zy8 L d
  | none=>none)
 | .mm b xs=>(match zhj E xs with
  | some l=>(match zk9 l with
   | some (v :: vs)=>zzF (mms b v vs)
   | _=>none)
  | _=>none)
 | .ext x i=>(match evD E x with
  | some (.tup vs)=>vs[i]?
  | _=>none)
 | .slc n x lo hi mx=>(match evD E x with
  | some d=>(match zln E lo with
   | some l=>(match zln E hi with
    | some h=>(match zln E mx with
     | some m=>zul L n l h m d
     | none=>none)
    | none=>none)
   | none=>none)
  | none=>none)
 | .nilck x=>(match evD E x with
  | some (.ptr β o)=>some (.ptr β o)
  | some (.fptr t ds)=>some (.fptr t ds)
  | some (.clo f a b)=>some (.clo f a b)
  | some (.eptr β n i off st)=>(match zgP L β n st with
   | some _=>some (.eptr β n i off st)
   | none=>none)
  | _=>none)
 | .clo f first cap=>(match zhj E first with
  | some vs=>(match zhj E cap with
   | some vs'=>some (.clo f vs vs')
   | none=>none)
  | none=>none)
 | .mkI t x=>(match evD E x with
  | some d=>some (.ifc t d)
  | none=>none)
 | _=>none
section
variable {c:Cx} {S:LSt} {M:St} {L:List LB} {H:zam}
variable{d:D}
theorem zae(h:Rel c S M){x:X}(he:evD S.env x=some d):∃ v,ev M.env x=some v/\R c d v:=by
 cases x with
 | s k=>exact h.env k d he
 | c v=>cases he; exact⟨_,rfl,.lit v⟩
 | f f=>cases he; exact⟨_,rfl,.clo rfl rfl (by simp) (by simp)⟩
theorem zcJ(h:Rel c S M):∀ {xs:List X} {ds:List D},zhj S.env xs=some ds->∃ vs,evs M.env xs=some vs/\Rs c ds vs
 | [],ds,he=>by cases he; exact⟨[],rfl,Rs.nil c⟩
 | x :: r,ds,he=>by
  simp only[zhj]at he;cases h1:evD S.env x with
  | none=>rw[h1]at he; cases he
  | some d=>
   cases h2:zhj S.env r with
   | none=>rw[h1,h2]at he; cases he
   | some ds'=>
    rw[h1,h2]at he;cases he;obtain⟨v,g1,g2⟩:=zae h h1;obtain⟨vs,g3,g4⟩:=zcJ h h2
    grind [evs,Rs.cons]
theorem zob{d:V}{v:Value}(hr:R c (.lit v) d):d=.lit v:=by cases hr; rfl
theorem zfK(h:Rel c S M){x:X}{n:Int}(he:zot (evD S.env x)=some n):evI M.env x=some n:=by
 cases h1:evD S.env x with
 | none=>rw[h1]at he; cases he
 | some d=>
  rw[h1]at he;obtain⟨v,g1,g2⟩:=zae h h1;unfold zot at he
  grind [evI,Go.Lx.R]
theorem zg0(h:Rel c S M){x:X}{b:Bool}(he:zil (evD S.env x)=some b):evB M.env x=some b:=by
 cases h1:evD S.env x with
 | none=>rw[h1]at he; cases he
 | some d=>
  rw[h1]at he;obtain⟨v,g1,g2⟩:=zae h h1;unfold zil at he
  grind [evB,Go.Lx.R]
theorem zyx(h:Rel c S M){x:Option X}{n:Option Int}(he:zln S.env x=some n):zuf M.env x=some n:=by
 cases x<;>grind [zln,zuf,zfK]
theorem zo1(h:Rel c S M){x:X}{u:V}(he:zzB (evD S.env x)=some u):ev M.env x=some u:=by
 cases h1:evD S.env x with
 | none=>rw[h1]at he; cases he
 | some d=>
  rw[h1]at he;obtain⟨v,g1,g2⟩:=zae h h1;unfold zzB at he
  grind [zob]
theorem zlL:∀ {ds es:List D} {vs ws:List V} {b:Bool},zCV ds es=some b->Rs c ds vs->Rs c es ws->zx3 vs ws=some b
 | [],es,vs,ws,b,he,h1,h2=>by
  grind [zCV,Go.Mx.zx3,Go.Lx.Rs]
 | d :: ds,es,vs,ws,b,he,h1,h2=>by
  cases es with
  | nil=>simp[zCV]at he
  | cons e es=>
  obtain⟨v,vs',rfl,r1,t1⟩:=h1.inv;obtain⟨w,ws',rfl,r2,t2⟩:=h2.inv;unfold zCV at he;split at he
  .simp_all
  .rename_i k x ds' k' y es' a1 a2;cases a1;cases a2;split at he
   .rename_i hk;split at he
    .rename_i r hr;cases zob r1;cases zob r2;unfold zx3;simp only[hk,qdt,zlL hr t1 t2];exact he
    cases he
   cases he
  cases he
variable{ds:List D}{vs:List V}
theorem ztE{us:List V}(he:zk9 ds=some us)(hr:Rs c ds vs):vs=us:=by
 induction ds generalizing us vs with
 | nil=>grind [zk9,Go.Lx.Rs]
 | cons d ds ih=>
  obtain⟨v,vs',rfl,h1,h2⟩:=hr.inv;unfold zk9 at he
  grind [zob]
theorem zrc{o:Option V}(h:zzF o=some d):∃ v,o=some (.lit v)/\d=.lit v:=by
 unfold zzF at h
 grind
variable{v:V}
theorem zfR(h:v.one=true):v.cells=some [v]:=by
 cases v<;>simp_all [V.one,V.cells]
variable{l:List D}
theorem zqp(hr:R c d v)(hl:d.cells=some l):∃ l',v.cells=some l'/\Rs c l l':=by
 have one:∀ {d:D} {v:V},R c d v->v.one=true->∃ l',v.cells=some l'/\Rs c [d] l':=λh h1=>⟨_,zfR h1,(Rs.nil c).cons h⟩
 cases hr with
 | any v=>cases hl
 | lit v=>
  cases hv:zhm v with
  | false=>simp[D.cells,hv]at hl
  | true=>simp[D.cells,hv]at hl; subst hl; exact one (.lit v) hv
 | ptr h1=>cases hl; exact one (.ptr h1) rfl
 | eptr h1 h2=>
  cases hl;refine one (.eptr h1 h2) ?_
  grind [Go.Mx.V.one]
 | sl h1 h2=>
  cases hl;refine one (.sl h1 h2) ?_
  grind [Go.Mx.V.one]
 | slg h1=>cases hl; exact one (.slg h1) rfl
 | fz h1 h2 h3 h4 h5 h6=>cases hl; exact one (.fz h1 h2 h3 h4 h5 h6) rfl
 | fz0=>cases hl; exact one .fz0 rfl
 | fzn=>cases hl; exact one .fzn rfl
 | z0 h1 h2=>cases hl; exact one (.z0 h1 h2) rfl
 | z0n=>cases hl; exact one .z0n rfl
 | fptr h1 h2 h3=>cases hl; exact one (.fptr h1 h2 h3) rfl
 | clo h1 h2 h3 h4=>cases hl; exact one (.clo h1 h2 h3 h4) rfl
 | yld h1=>cases hl; exact one (.yld h1) rfl
 | ifc h1=>cases hl; exact one (.ifc h1) rfl
 | agg h1 h2=>cases hl; exact⟨_,rfl,h1,h2⟩
 | tup h1 h2=>cases hl
theorem zfq(h:Rel c S M){x:X}(he:zc9 (evD S.env x)=some l):∃ l',(ev M.env x).bind V.cells=some l'/\Rs c l l':=by
 cases h1:evD S.env x<;>grind [zae,zqp,zc9]
variable{o n:Nat}
theorem zth(hr:Rs c ds vs)(hs:ztn o n ds=some l):∃ l',slot o n vs=some l'/\Rs c l l':=by
 unfold ztn at hs;split at hs
 .rename_i hle;cases hs;refine⟨_,?_,(hr.drop o).take n⟩
  grind [slot,qat,Go.Lx.Rs]
 cases hs
theorem zdK(hr:Rs c ds vs){n:Option Nat}(ht:ziJ ds o n=some d):∃ v,takeN vs o n=some v/\R c d v:=by
 cases n with
 | none=>exact hr.get ht
 | some n=>
  simp only[ziJ]at ht;cases hs:ztn o n ds with
  | none=>rw[hs]at ht; cases ht
  | some l=>
   rw[hs]at ht;cases ht;obtain⟨l',g1,g2⟩:=zth hr hs;exact⟨.agg l',by simp[takeN,g1],.agg g2.1 g2.2⟩
theorem zo9{a m:Nat}{n:Option Nat}(ha:a<=vs.length)(ht:takeN ((vs.drop a).take m) o n=some v):takeN vs (a+o) n=some v:=by
 cases n<;>grind [takeN,slot,qad,qat,List.drop_take,List.drop_drop]
theorem zjY{n:Nat}:∀ {es:List (List D)},(∀ cells,cells∈es->cells.length=n)->es.flatten.length=es.length * n
 | [],_=>by simp
 | e :: es,h=>by
  rw[qbl,qaz,zjY λx hx=>h x (qah _ hx),h e (by simp),qaB,qcu];omega
theorem zpD{n:Nat}:∀ {es:List (List D)} (s:Nat),(∀ cells,cells∈es->cells.length=n)->es.flatten.drop (s * n)=(es.drop s).flatten
 | es,0,_=>by simp
 | [],s+1,_=>by simp
 | e :: es,s+1,h=>by
  have he:=h e (by simp);rw[qbl,List.drop_succ_cons,<- zpD s λx hx=>h x (qah _ hx),qcu,List.drop_append,he,qcq (by omega),qaU];congr 1
  omega
theorem zoR{n:Nat}:∀ {es:List (List D)} (s:Nat),(∀ cells,cells∈es->cells.length=n)->es.flatten.take (s * n)=(es.take s).flatten
 | es,0,_=>by simp
 | [],s+1,_=>by simp
 | e :: es,s+1,h=>by
  have he:=h e (by simp);rw[qbl,qcl,qbl,<- zoR s λx hx=>h x (qah _ hx),qcu,List.take_append,he,qaM (by omega)];congr 2
  omega
theorem Els.zn9{es:List (List D)}(h:Els c n es vs):vs.length=es.length * n:=by rw[<- h.rel.1,zjY h.len]
theorem zmP{α:Type}{l:List α}{x:α}{a b:Nat}(h:x∈(l.drop a).take b):x∈l:=qcB (List.mem_of_mem_take h)
theorem Els.sub{es:List (List D)}(h:Els c n es vs)(s len:Nat):Els c n ((es.drop s).take len) ((vs.drop (s * n)).take (len * n)):=by
 refine⟨λx hx=>h.len x (zmP hx),?_⟩;rw[<- zoR len λx hx=>h.len x (qcB hx),<- zpD s h.len];exact(h.rel.drop _).take _
theorem Els.append{n:Nat}{es es':List (List D)}{vs vs':List V}(h:Els c n es vs)(h':Els c n es' vs'):Els c n (es ++ es') (vs ++ vs'):=by
 grind [Rs.append,Go.Lx.Els]
theorem Els.one{cells:List D}(h:Rs c cells vs):Els c cells.length [cells] vs:=⟨by simp,by simpa using h⟩
theorem Els.nil(n:Nat):Els c n [] []:=⟨by simp,Rs.nil c⟩
theorem Els.at_{es:List (List D)}(h:Els c n es vs){i:Nat}{cells:List D}(hi:es[i]? = some cells):Rs c cells ((vs.drop (i * n)).take n):=by
 have h1:=(h.sub i 1).rel
 grind [qay]
theorem Els.take{es:List (List D)}(h:Els c n es vs)(k:Nat):Els c n (es.take k) (vs.take (k * n)):=by
 have:=h.sub 0 k;simpa using this
theorem Els.drop{es:List (List D)}(h:Els c n es vs)(k:Nat):Els c n (es.drop k) (vs.drop (k * n)):=by
 have:=h.sub k es.length
 grind [qaM,Els.zn9]
theorem zdI(h:Rel c S M):∀(parts:List (Nat×Nat×X)) {cs l:List D} {vs:List V},znT S.env cs parts=some l->Rs c cs vs->∃ l',zgN M.env vs parts=some l'/\Rs c l l'
 | [],cs,l,vs,he,hr=>by cases he; exact⟨vs,rfl,hr⟩
 |(off,n,x):: r,cs,l,vs,he,hr=>by
  simp only[znT]at he;cases h1:zc9 (evD S.env x)with
  | none=>rw[h1]at he; cases he
  | some k=>
   rw[h1]at he;simp only at he;split at he
   .rename_i hc;obtain⟨k',g1,g2⟩:=zfq h h1;have hp:Rs c (zpa cs off k) (zbT vs off k'):=by
     grind [zpa,zbT,Go.Lx.Rs]
    obtain⟨l',g3,g4⟩:=zdI h r he hp
    grind [zgN,qat,Go.Lx.Rs]
   cases he
variable{β st:Nat}
theorem ze3(h:RelH c L H){es:List (List D)}(he:zgP L β n st=some es):
  0<n/\st=es.length/\(L[β]? = some (.els n es)\/L[β]? = some (.grow n es))/\((es=[]/\c.ρ β=some .ghost)\/∃ b vs,c.ρ β=some (.list b st)/\H[b]? = some (.blk vs)/\Els c n es vs):=by
 unfold zgP at he;split at he
 .rename_i n' es' heq;split at he
  .rename_i hc;cases he;obtain⟨rfl,hc⟩:=hc;obtain⟨g0,g1 | ⟨b,vs,g1,g2,g3⟩⟩:=h.obj β _ heq
   .simp_all
   simp_all
  cases he
 .rename_i n' es' heq;split at he
  .rename_i hc;cases he;obtain⟨rfl,hc⟩:=hc;obtain⟨g0,g1 | ⟨g,b,vs,g1,g2,g3⟩⟩:=h.obj β _ heq
   .simp_all
   simp_all
  cases he
 cases he
theorem slR(h:RelH c L H){s len:Nat}{cap:Option Nat}{es:List (List D)}(he:zgP L β n st=some es)(hr:R c (.sl β s n len cap st) v):
  (∃ b vs,c.ρ β=some (.list b st)/\v=.sl b (s * n) n len cap/\H[b]? = some (.blk vs)/\Els c n es vs)\/(v=.lit (.slice none 0 0)/\s=0/\len=0/\cap=none/\st=0/\es=[]/\c.ρ β=some .ghost):=by
 obtain⟨h1,h2,h3,h4⟩:=ze3 h he
 grind [Go.Lx.R]
theorem zto(h:RelH c L H){i off:Nat}{es:List (List D)}(he:zgP L β n st=some es)(hr:R c (.eptr β n i off st) v):∃ b vs,c.ρ β=some (.list b st)/\v=.ptr b (i * n+off)/\H[b]? = some (.blk vs)/\Els c n es vs:=by
 obtain⟨h1,h2,h3,h4⟩:=ze3 h he
 grind [Go.Lx.R]
end
section
variable {c:Cx} {S:LSt} {M:St} {L:List LB} {H:zam}
theorem zbW{β:Nat}{cs:List V}(hh:H[β]? = some (.blk cs)):zax H β=some cs:=by simp[zax,hh]
theorem zCS(h:RelH c L H){t:Bool}{ds:List D}{b o:Nat}{cs:List V}(h1:c.look t b=some cs)(h2:o+ds.length<=cs.length)(h3:∀(k:Nat) d v,ds[k]? = some d->cs[o+k]? = some v->R (c.frz t) d v):
  Rs c ds ((cs.drop o).take ds.length):=by
 grind [R.zu7,Go.Lx.Rs,Go.Lx.RelH]
variable{d d':D}{v:V}
theorem zlO(h:RelH c L H){n:Option Nat}(hr:R c d v)(hl:zmn L n d=some d'):∃ v',(match v with | .ptr β o=>(zax H β).bind λcs=>takeN cs o n | _=>none)=some v'/\R c d' v':=by
 cases d with
 | ptr β o=>
  cases hr with
  | ptr g1=>
   simp only[zmn]at hl;split at hl
   .rename_i ds heq;obtain⟨b,vs,k1,k2,k3⟩:=h.obj β _ heq
    grind [zdK,Go.Mx.zax]
   .cases hl
 | eptr β n' i off st=>
  simp only[zmn]at hl;cases he:zgP L β n' st with
  | none=>rw[he]at hl; cases hl
  | some es=>
   rw[he]at hl;simp only at hl;obtain⟨b,vs,k1,rfl,k3,k6⟩:=zto h he hr;cases hi:es[i]? with
   | none=>rw[hi]at hl; cases hl
   | some cells=>
    rw[hi]at hl;obtain⟨v',e1,e2⟩:=zdK (k6.at_ hi) hl;refine⟨v',?_,e2⟩;simp only[zbW k3,qaa];have hil:i<es.length:=(qab.1 hi).1;have h1:i * n'<=es.length * n':=qas n' (by omega);exact zo9 (by rw[k6.zn9]; exact h1) e1
 | fptr t ds=>
  cases hr with
  | fptr h1 h2 h3=>
   simp only[zmn]at hl;obtain⟨v',e1,e2⟩:=zdK (zCS h h1 h2 h3) hl;refine⟨v',?_,e2⟩;simp only[zbW (h.look h1),qaa];have:=zo9 (by omega) e1;omega
 | _=>cases hl
theorem zox(h:RelH c L H){off:Nat}(hr:R c d v)(hl:zue L off d=some d'):∃ b o,v=.ptr b o/\R c d' (.ptr b (o+off)):=by
 grind [zue,zto,Go.Lx.R]
variable{n:Nat}
theorem zvZ(h:RelH c L H){m:Int}(hr:R c d v)(hl:zy6 L n m d=some d'):
  ∃ v',(match v with | .sl β o n' len _=>bif (n == n') && decide (0<=m) && decide (m<len)then some (V.ptr β (o+m.toNat * n))else none | _=>none)=some v'/\R c d' v':=by
 cases d with
 | sl β s n' len cap st=>
  simp only[zy6]at hl;split at hl
  .rename_i hc;obtain⟨rfl,hc1,hc2⟩:=hc;cases he:zgP L β n st with
   | none=>rw[he]at hl; cases hl
   | some es=>
    rw[he]at hl;cases hl;rcases slR h he hr with⟨b',vs,q1,rfl,_⟩| ⟨rfl,_,rfl,_⟩
    rotate_left
    .omega
    refine⟨_,by simp[hc1,hc2]; rfl,.eptr q1 (.inr ⟨rfl,by rw[qbH,qaQ]⟩)⟩
  .cases hl
 | fz t n' els=>
  simp only[zy6]at hl;split at hl
  .rename_i hc;obtain⟨rfl,hc1⟩:=hc;cases hi:els[m.toNat]? with
   | none=>rw[hi]at hl; cases hl
   | some cells=>
    rw[hi]at hl;cases hl;have hil:=(qab.1 hi).1;cases hr with
    | fz h1 h2 h3 h4 h5 h6=>
     have h7:=h5 _ _ hi;have h8:m.toNat * n+n<=els.length * n:=by
      have:=qas n hil
      grind
     refine⟨_,?_,.fptr h1 (o:=_) ?_ λk d v g1 g2=>h6 _ _ k d v hi g1 g2⟩<;> grind
    | fz0=>simp at hil
    | fzn=>simp at hil
  .cases hl
 | _=>cases hl
theorem zuZ(h:RelH c L H)(hr:R c d v)(hl:zy8 L d=some d'):∃ v',zDs v=some v'/\R c d' v':=by
 grind [zy8,slR,Go.Mx.zDs,Go.Lx.R]
theorem zpT{cap:Option Nat}(hcap:∀ k,cap=some k->n<=k){lo hi mx:Option Int}(hh:hi.getD n<=n)(hm:mx.getD n<=n){l h:Nat}{cc:Option Nat}(hb:bounds n (some n) lo hi mx=some (l,h,cc)):
  l<=h/\h<=n/\∃ c',bounds n cap lo hi mx=some (l,h,c')/\(∀ k,c'=some k->h - l<=k)/\(mx.isSome=true->c'=cc):=by
 have ht:(n:Int)<=ziV n cap:=by
  cases cap<;>grind [ziV]
 cases mx with
 | none=>
  simp only[bounds]at hb ⊢;cases hc:(decide (0<=lo.getD 0) && decide (lo.getD 0<=hi.getD n) && decide (hi.getD n<=ziV n (some n)))with
  | false=>rw[hc]at hb; cases hb
  | true=>
   rw[hc]at hb;simp only[qai,decide_eq_true_eq]at hc;cases hb;have e1:(decide (0<=lo.getD 0) && decide (lo.getD 0<=hi.getD n) && decide (hi.getD n<=ziV n cap))=true:=by
    grind
   rw[e1];refine⟨by omega,by omega,_,rfl,λk hk=>?_,λh0=>by cases h0⟩;cases cap<;>grind
 | some m=>
  grind [bounds]
theorem zxO(h:RelH c L H){lo hi mx:Option Int}(hr:R c d v)(hl:zul L n lo hi mx d=some d'):∃ v',zv3 n lo hi mx v=some v'/\R c d' v':=by
 cases d with
 | lit u=>
  grind [zob,zul,zv3]
 | sl β s n' len cap st=>
  simp only[zul]at hl;split at hl
  .rename_i hn;subst hn;cases he:zgP L β n st with
   | none=>rw[he]at hl; cases hl
   | some es=>
    rw[he]at hl;cases hb:bounds len cap lo hi mx with
    | none=>rw[hb]at hl; cases hl
    | some x=>
     obtain⟨l,hh,cc⟩:=x;rw[hb]at hl;simp only at hl;split at hl
     .rename_i hmx;subst hmx;cases hl;rcases slR h he hr with⟨b',vs,q1,rfl,_⟩| ⟨rfl,rfl,rfl,rfl,rfl,_,q1⟩
      .exact⟨_,by simp[zv3,hb]; rfl,.sl q1 (.inr ⟨rfl,by rw[qaQ]⟩)⟩
      have hb':bounds 0 (some 0) lo hi none=some (l,hh,some (0 - l))/\l=0/\hh=0/\cc=none:=by
       simp only[bounds]at hb ⊢
       grind [ziV]
      grind [zv3]
     cases hl
  .cases hl
 | fz t n' els=>
  simp only[zul]at hl;split at hl
  .rename_i hn;subst hn;unfold zDC at hl;split at hl
   .rename_i hc;simp only[qai,decide_eq_true_eq]at hc;cases hb:bounds els.length (some els.length) lo hi mx with
    | none=>rw[hb]at hl; cases hl
    | some x=>
     obtain⟨l,hh,cc⟩:=x;rw[hb]at hl;simp only at hl;cases hr with
     | fz h1 h2 h3 h4 h5 h6=>
      rename_i b o cap cs;obtain⟨e1,e2,c',e3,e4,e5⟩:=zpT h3 hc.1 hc.2 hb;refine⟨.sl b (o+l * n) n (hh - l) c',by simp[zv3,e3],?_⟩;split at hl
      .rename_i hz;simp only[qai,qdz]at hz;obtain⟨hz,_⟩:=hz;cases hl;have h0:=e5 hz.1;rw[hz.2]at h0;subst h0;have:=e4 0 rfl;have h9:hh - l=0:=by omega
       rw[h9];refine .z0 h1 ?_;have:l * n<=els.length * n:=qas n (by omega);omega
      .cases hl;have hlen:((els.drop l).take (hh - l)).length=hh - l:=by simp; omega
       rw[show V.sl b (o+l * n) n (hh - l) c'=V.sl b (o+l * n) n ((els.drop l).take (hh - l)).length c' by rw[hlen]];refine .fz h1 h2 (by rw[hlen]; exact e4) ?_ (λi cells hi=>?_) λi cells k d v g1 g2 g3=>?_
       .rw[hlen];have:l * n+(hh - l)* n<=els.length * n:=by rw[<- qaQ]; exact qas n (by omega)
        omega
       .grind
       .grind
     | fz0=>
      rename_i b o cap;simp only[qa8]at hc hb hl;have hcz:∀ k,cap=some k->0<=k:=λ_ _=>qau _
      obtain⟨e1,e2,c',e3,e4,e5⟩:=zpT hcz hc.1 hc.2 hb;refine⟨.sl b (o+l * n) n (hh - l) c',by simp[zv3,e3],?_⟩;have hl0:l=0:=by omega
      have hh0:hh=0:=by omega
      subst hl0
      grind [Go.Lx.R]
     | fzn=>
      simp only[qa8]at hc hb hl;refine⟨.lit (.slice none 0 0),by simp[zv3,hb],?_⟩
      grind [Go.Lx.R]
   cases hl
  .cases hl
 | _=>cases hl
theorem zyc(h:RelH c L H){o:Option Nat}(hr:R c d v)(hy:yB L d=some o):match o with
  | none=>zum v=none
  | some β=>zum v=none\/∃ b x,zum v=some b/\c.ρ β=some x/\x.blk=some b:=by
 grind [yB,zto,slR,Go.Mx.zum,Go.Lx.Lc.blk,Go.Lx.R]
theorem zza(h:RelH c L H){β b:Nat}{x:Lc}(hr:R c d v)(hx:xB L β d=true)(hb:c.ρ β=some x)(hxb:x.blk=some b):∃ γ o,v=.ptr γ o/\(zax H γ).isSome=true/\(γ == b)=false:=by
 cases d with
 | fptr t ds=>
  grind [Cx.look,Go.Mx.zax,Go.Lx.RelH,Go.Lx.R]
 | ptr γ o=>
  simp only[xB]at hx;split at hx
  .rename_i ds heq;cases hr with
   | ptr g1=>
    obtain⟨b',vs,k1,k2,k3⟩:=h.obj γ _ heq
    grind [Go.Mx.zax,Go.Lx.RelH,Go.Lx.Lc.blk]
  .cases hx
 | eptr γ n i off st=>
  grind [xB,zto,Go.Mx.zax,Go.Lx.RelH,Go.Lx.Lc.blk]
 | _=>cases hx
theorem zpH(h:Rel c S M){β b:Nat}{x:Lc}(hb:c.ρ β=some x)(hxb:x.blk=some b):∀ {xs:List X} {ds:List D},zhj S.env xs=some ds->xBs S.heap β ds=true->xs.all (zDz M.heap M.env b)=true
 | [],ds,he,hx=>rfl
 | y :: r,ds,he,hx=>by
  simp only[zhj]at he;cases h1:evD S.env y with
  | none=>rw[h1]at he; cases he
  | some d=>
   cases h2:zhj S.env r with
   | none=>rw[h1,h2]at he; cases he
   | some ds'=>
    rw[h1,h2]at he;cases he;simp only[xBs]at hx;cases h3:xB S.heap β d with
    | false=>rw[h3]at hx; cases hx
    | true=>
     rw[h3]at hx;obtain⟨v,g1,g2⟩:=zae h h1;obtain⟨γ,o,rfl,g3,g4⟩:=zza h.heap g2 h3 hb hxb;rw[qdn,zpH h hb hxb h2 hx];simp[zDz,g1,g3,g4]
theorem zyy(h:Rel c S M){i:I}(hq:qL S.heap S.env i=some d):∃ v,q M.heap M.env i=some v/\R c d v:=by
 cases i with
 | mov x=>exact zae h hq
 | avo xs y=>
  simp only[qL]at hq;cases hy:evD S.env y with
  | none=>rw[hy]at hq; cases hq
  | some e=>
   rw[hy]at hq;obtain⟨v,g1,g2⟩:=zae h hy;simp only at hq;have fin:zwv M.heap M.env xs y=true->∃ v,q M.heap M.env (.avo xs y)=some v/\R c (.lit (.tuple #[])) v:=λha=>⟨zbc,by simp[q,ha],.lit _⟩
   cases hb:yB S.heap e with
   | none=>rw[hb]at hq; cases hq
   | some o=>
    have hs:=zyc h.heap g2 hb;rw[hb]at hq;cases o with
    | none=>
     grind [zwv]
    | some β=>
     simp only at hq;cases hx:zhj S.env xs with
     | none=>rw[hx]at hq; cases hq
     | some ds=>
      rw[hx]at hq;simp only at hq;cases hxb:xBs S.heap β ds with
      | false=>rw[hxb]at hq; cases hq
      | true=>
       rw[hxb]at hq;cases hq;refine fin ?_;rcases hs with hs | ⟨b,x,hs,k1,k2⟩
       .simp[zwv,g1,hs]
       .simp only[zwv,g1,hs]; exact zpH h k1 k2 hx hxb
 | pick x a b=>
  grind [qL,zg0,zae,Go.Mx.q]
 | build z parts=>
  simp only[qL]at hq;cases hf:znT S.env (z.map .lit) parts with
  | none=>rw[hf]at hq; cases hq
  | some l=>
   rw[hf]at hq;cases hq;obtain⟨l',g1,g2⟩:=zdI h parts hf (Rs.lits z);exact⟨.agg l',by simp[q,g1],.agg g2.1 g2.2⟩
 | load n x=>
  grind [qL,zae,zlO,Go.Mx.q,Go.Lx.Rel]
 | fld off x=>
  grind [qL,zae,zox,Go.Mx.q,Go.Lx.Rel]
 | idxS n x j=>
  grind [qL,zae,zvZ,zfK,Go.Mx.q,Go.Lx.Rel]
 | idxA n cnt x j=>
  grind [qL,zae,zox,zfK,Go.Mx.q,Go.Lx.Rel]
 | idxV n cnt x j=>
  simp only[qL]at hq;split at hq
  .rename_i ds hx;cases hj:zot (evD S.env j)with
   | none=>rw[hj]at hq; cases hq
   | some m=>
    rw[hj]at hq;simp only at hq;split at hq
    .rename_i hm;obtain⟨v,g1,g2⟩:=zae h hx;cases g2 with
     | agg k1 k2=>
      obtain⟨v',e1,e2⟩:=zdK ⟨k1,k2⟩ hq
      grind [zfK,Go.Mx.q]
    cases hq
  .cases hq
 | part n off x=>
  simp only[qL]at hq;split at hq
  .rename_i ds hx;obtain⟨v,g1,g2⟩:=zae h hx;cases g2 with
   | agg k1 k2=>
    obtain⟨v',e1,e2⟩:=zdK ⟨k1,k2⟩ hq
    grind [Go.Mx.q]
  .cases hq
 | bin op x y=>
  grind [qL,zrc,zo1,Go.Mx.q,Go.Lx.R]
 | eqb neg x y=>
  simp only[qL]at hq;cases hx:zil (evD S.env x)with
  | none=>rw[hx]at hq; cases hq
  | some u=>
   rw[hx]at hq;cases hy:zil (evD S.env y)with
   | none=>rw[hy]at hq; cases hq
   | some u'=>
    rw[hy]at hq;cases hq;exact⟨_,by simp only[q,zg0 h hx,zg0 h hy],.lit _⟩
 | eqa n neg x y=>
  simp only[qL]at hq;split at hq
  .rename_i ds hx;split at hq
   .rename_i es hy;split at hq
    .rename_i hl;split at hq
     .rename_i b hb;cases hq;obtain⟨v,g1,g2⟩:=zae h hx;obtain⟨v',g1',g2'⟩:=zae h hy;cases g2 with
      | agg k1 k2=>
      cases g2' with
      | agg k1' k2'=>
      exact⟨_,by simp only[q,g1,g1',<- k1,<- k1',hl,qdt,zlL hb ⟨k1,k2⟩ ⟨k1',k2'⟩],.lit _⟩
     cases hq
    cases hq
   cases hq
  .cases hq
 | eqn neg x=>
  grind [qL,zae,slR,Go.Mx.q,Go.Lx.R,Go.Lx.Rel]
 | eqi neg x=>
  grind [qL,zae,Go.Mx.q,Go.Lx.R]
 | eqp neg x=>
  grind [qL,zae,Go.Mx.q,Go.Lx.R]
 | un op x=>
  grind [qL,zrc,zo1,Go.Mx.q,Go.Lx.R]
 | conv k x=>
  simp only[qL]at hq;cases hx:zot (evD S.env x)with
  | none=>rw[hx]at hq; cases hq
  | some u=>rw[hx]at hq; cases hq; exact⟨_,by simp only[q,zfK h hx],.lit _⟩
 | len x=>
  grind [qL,zae,zuZ,Go.Mx.q,Go.Lx.Rel]
 | mm b xs=>
  simp only[qL]at hq
  grind [zcJ,zrc,ztE,Go.Mx.q,Go.Lx.R]
 | ext x j=>
  grind [qL,zae,Go.Mx.q,Go.Lx.R]
 | slc n x lo hi mx=>
  simp only[qL]at hq;cases hx:evD S.env x with
  | none=>rw[hx]at hq; cases hq
  | some e=>
   rw[hx]at hq;cases h1:zln S.env lo with
   | none=>rw[h1]at hq; cases hq
   | some l=>
    grind [zae,zxO,zyx,zpI,Go.Mx.q,Go.Lx.Rel]
 | nilck x=>
  grind [qL,zae,zto,Go.Mx.q,Go.Lx.R,Go.Lx.Rel]
 | clo f xs ys=>
  simp only[qL]at hq;cases hx:zhj S.env xs with
  | none=>rw[hx]at hq; cases hq
  | some l=>
   rw[hx]at hq;cases hy:zhj S.env ys with
   | none=>rw[hy]at hq; cases hq
   | some l'=>
    rw[hy]at hq;cases hq;obtain⟨vs,g1,g2⟩:=zcJ h hx;obtain⟨us,g3,g4⟩:=zcJ h hy;exact⟨_,by simp only[q,g1,g3],.clo g2.1 g4.1 g2.2 g4.2⟩
 | mkI t x=>
  grind [qL,zae,Go.Mx.q,Go.Lx.R]
 | _=>cases hq
end
end Go.Lx
