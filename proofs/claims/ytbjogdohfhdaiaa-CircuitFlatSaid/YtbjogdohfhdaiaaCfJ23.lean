/-
 Trees: what an operation that leaves memory alone yields. Conditions: none.
-/
import Derived.Test.YtbjogdohfhdaiaaCfJ22
set_option linter.unusedSimpArgs false
set_option linter.unusedVariables false
namespace Go.Lx
open Go Go.Mx
def evD(E:List (Nat×D)):X->Option D
 | .c v=>some (.lit v)
 | .s k=>lk E k
 | .f f=>some (.clo f [] [])
def zhi(E:List (Nat×D)):List X->Option (List D)
 | []=>some []
 | x :: r=>match evD E x with
  | some v=>(match zhi E r with
   | some vs=>some (v :: vs)
   | none=>none)
  | none=>none
def zjB:Option D->Option Int
 | some (.lit (.int _ n))=>some n
 | _=>none
def zf2:Option D->Option Bool
 | some (.lit (.bool b))=>some b
 | _=>none
def zhK(E:List (Nat×D)):Option X->Option (Option Int)
 | none=>some none
 | some x=>match zjB (evD E x)with
  | some n=>some (some n)
  | none=>none
def D.cells:D->Option (List D)
 | .lit v=>bif zfg v then some [.lit v]else none
 | .agg ds=>some ds
 | .tup _=>none
 | .any=>none
 | d=>some [d]
def zqH(o n:Nat)(cs:List D):Option (List D):=if o+n<=cs.length then some ((cs.drop o).take n)else none
def zgx(cs:List D)(o:Nat):Option Nat->Option D
 | none=>cs[o]?
 | some n=>match zqH o n cs with
  | some l=>some (.agg l)
  | none=>none
def zox(cs:List D)(off:Nat)(ns:List D):List D:=cs.take off ++ ns ++ cs.drop (off+ns.length)
def zcl:Option D->Option (List D)
 | some d=>d.cells
 | none=>none
def zk0(E:List (Nat×D))(cs:List D):List (Nat×Nat×X)->Option (List D)
 | []=>some cs
 |(off,n,x):: r=>match zcl (evD E x)with
  | some l=>if l.length=n/\off+n<=cs.length then zk0 E (zox cs off l) r else none
  | none=>none
def zeg(L:List LB)(β n st:Nat):Option (List (List D)):=
 match L[β]? with
 | some (.els n' es)=>if n=n'/\st=es.length then some es else none
 | some (.grow n' es)=>if n=n'/\st=es.length then some es else none
 | _=>none
def zv3:Option V->Option D
 | some (.lit v)=>some (.lit v)
 | _=>none
def zro:Option D->Option V
 | some (.lit v)=>some (.lit v)
 | _=>none
def zBj:List D->List D->Option Bool
 | [],[]=>some true
 | .lit (.int k a):: vs,.lit (.int k' b):: ws=>(match k == k' with
  | true=>(match zBj vs ws with
   | some r=>some ((a == b) && r)
   | none=>none)
  | false=>none)
 | _,_=>none
def zib:List D->Option (List V)
 | []=>some []
 | .lit v :: r=>match zib r with
  | some l=>some (.lit v :: l)
  | none=>none
 | _=>none
def zrp(L:List LB):D->Option D
 | .lit (.slice none 0 0)=>some (.lit (.int .i64 0))
 | .sl β s n len cap st=>(match zeg L β n st with
  | some _=>some (.lit (.int .i64 len))
  | none=>none)
 | .fz _ _ els=>some (.lit (.int .i64 els.length))
 | .z0 _ _=>some (.lit (.int .i64 0))
 | _=>none
def zzz(t:Bool)(n:Nat)(els:List (List D))(lo hi mx:Option Int):Option D:=
 if decide (hi.getD els.length<=els.length) && decide (mx.getD els.length<=els.length)then
  match bounds els.length (some els.length) lo hi mx with
  | some (l,h,c)=>if mx.isSome && (c == some 0) && !(els.length == 0)then some (.z0 t n)else some (.fz t n ((els.drop l).take (h - l)))
  | none=>none
 else none
def zrn(L:List LB)(n:Nat)(lo hi mx:Option Int):D->Option D
 | .lit (.slice none 0 0)=>(match bounds 0 (some 0) lo hi mx with
  | some _=>some (.lit (.slice none 0 0))
  | none=>none)
 | .sl β s n' len cap st=>if n=n' then(match zeg L β n st with
  | some _=>(match bounds len cap lo hi mx with
   | some (l,h,c)=>if mx=none then some (.sl β (s+l) n (h - l) c st)else none
   | none=>none)
  | none=>none)else none
 | .fz t n' els=>if n=n' then zzz t n els lo hi mx else none
 | _=>none
def zkI(L:List LB)(n:Option Nat):D->Option D
 | .ptr β o=>(match L[β]? with
  | some (.cells ds)=>zgx ds o n
  | _=>none)
 | .eptr β n' i off st=>(match zeg L β n' st with
  | some es=>(match es[i]? with
   | some cells=>zgx cells off n
   | none=>none)
  | none=>none)
 | .fptr t ds=>zgx ds 0 n
 | _=>none
def zq9(L:List LB)(off:Nat):D->Option D
 | .ptr β o=>some (.ptr β (o+off))
 | .eptr β n i o st=>(match zeg L β n st with
  | some _=>some (.eptr β n i (o+off) st)
  | none=>none)
 | .fptr t ds=>if off<=ds.length then some (.fptr t (ds.drop off))else none
 | _=>none
def zvv(L:List LB)(n:Nat)(m:Int):D->Option D
 | .sl β s n' len cap st=>if n=n'/\0<=m/\m<len then(match zeg L β n st with
  | some _=>some (.eptr β n (s+m.toNat) 0 st)
  | none=>none)else none
 | .fz t n' els=>if n=n'/\0<=m then(match els[m.toNat]? with
  | some cells=>some (.fptr t cells)
  | none=>none)else none
 | _=>none
def yB(L:List LB):D->Option (Option Nat)
 | .lit (.slice none 0 0)=>some none
 | .ptr β _=>some (some β)
 | .eptr β n _ _ st=>match zeg L β n st with
  | some _=>some (some β)
  | none=>none
 | .sl β _ n _ _ st=>match zeg L β n st with
  | some _=>some (some β)
  | none=>none
 | _=>none
def xB(L:List LB)(β:Nat):D->Bool
 | .fptr _ _=>true
 | .ptr γ _=>match L[γ]? with
  | some (.cells _)=>!(γ == β)
  | _=>false
 | .eptr γ n _ _ st=>match zeg L γ n st with
  | some _=>!(γ == β)
  | none=>false
 | _=>false
def xBs(L:List LB)(β:Nat):List D->Bool
 | []=>true
 | d :: r=>match xB L β d with
  | true=>xBs L β r
  | false=>false
def qL(L:List LB)(E:List (Nat×D)):I->Option D
 | .mov x=>evD E x
 | .avo xs y=>(match evD E y with
  | some d=>(match yB L d with
   | some none=>some (.lit (.tuple #[]))
   | some (some β)=>(match zhi E xs with
    | some ds=>(match xBs L β ds with
     | true=>some (.lit (.tuple #[]))
     | false=>none)
    | none=>none)
   | none=>none)
  | none=>none)
 | .pick c a b=>(match zf2 (evD E c)with
  | some true=>evD E a
  | some false=>evD E b
  | none=>none)
 | .build z parts=>(match zk0 E (z.map .lit) parts with
  | some l=>some (.agg l)
  | none=>none)
 | .load n x=>(match evD E x with
  | some d=>zkI L n d
  | none=>none)
 | .fld off x=>(match evD E x with
  | some d=>zq9 L off d
  | none=>none)
 | .idxS n x i=>(match evD E x with
  | some d=>(match zjB (evD E i)with
   | some m=>zvv L n m d
   | none=>none)
  | none=>none)
 | .idxA n cnt x i=>(match evD E x with
  | some d=>(match zjB (evD E i)with
   | some m=>if 0<=m/\m<cnt then zq9 L (m.toNat * n) d else none
   | none=>none)
  | none=>none)
 | .idxV n cnt x i=>(match evD E x with
  | some (.agg ds)=>(match zjB (evD E i)with
   | some m=>if 0<=m/\m<cnt then zgx ds (m.toNat * n.getD 1) n else none
   | none=>none)
  | _=>none)
 | .part n off x=>(match evD E x with
  | some (.agg ds)=>zgx ds off n
  | _=>none)
 | .bin op x y=>(match zro (evD E x)with
  | some u=>(match zro (evD E y)with
   | some u'=>zv3 (zmR op u u')
   | none=>none)
  | none=>none)
 | .eqb neg x y=>(match zf2 (evD E x)with
  | some a=>(match zf2 (evD E y)with
   | some b=>some (.lit (.bool (bif neg then !(a == b)else(a == b))))
   | none=>none)
  | none=>none)
 | .eqa n neg x y=>(match evD E x with
  | some (.agg ds)=>(match evD E y with
   | some (.agg es)=>(match Nat.beq ds.length n && Nat.beq es.length n with
    | true=>(match zBj ds es with
     | some b=>some (.lit (.bool (bif neg then !b else b)))
     | none=>none)
    | false=>none)
   | _=>none)
  | _=>none)
 | .eqn neg x=>(match evD E x with
  | some (.lit (.slice none 0 0))=>some (.lit (.bool !neg))
  | some (.sl β s n len cap st)=>(match zeg L β n st with
   | some es=>if es.length=0 then none else some (.lit (.bool neg))
   | none=>none)
  | some (.fz t n els)=>if els.length=0 then none else some (.lit (.bool neg))
  | _=>none)
 | .eqi neg x=>(match evD E x with
  | some (.lit .nilIface)=>some (.lit (.bool !neg))
  | some (.ifc ..)=>some (.lit (.bool neg))
  | _=>none)
 | .eqp neg x=>(match evD E x with
  | some (.lit (.pointer none))=>some (.lit (.bool !neg))
  | some (.ptr ..)=>some (.lit (.bool neg))
  | some (.fptr ..)=>some (.lit (.bool neg))
  | _=>none)
 | .un op x=>(match zro (evD E x)with
  | some u=>zv3 (unV op u)
  | none=>none)
 | .conv k x=>(match zjB (evD E x)with
  | some m=>some (.lit (.int k (k.wrap m)))
  | none=>none)
 | .len x=>(match evD E x with
  | some d=>zrp L d
  | none=>none)
 | .mm b xs=>(match zhi E xs with
  | some l=>(match zib l with
   | some (v :: vs)=>zv3 (mms b v vs)
   | _=>none)
  | _=>none)
 | .ext x i=>(match evD E x with
  | some (.tup vs)=>vs[i]?
  | _=>none)
 | .slc n x lo hi mx=>(match evD E x with
  | some d=>(match zhK E lo with
   | some l=>(match zhK E hi with
    | some h=>(match zhK E mx with
     | some m=>zrn L n l h m d
     | none=>none)
    | none=>none)
   | none=>none)
  | none=>none)
 | .nilck x=>(match evD E x with
  | some (.ptr β o)=>some (.ptr β o)
  | some (.fptr t ds)=>some (.fptr t ds)
  | some (.clo f a b)=>some (.clo f a b)
  | some (.eptr β n i off st)=>(match zeg L β n st with
   | some _=>some (.eptr β n i off st)
   | none=>none)
  | _=>none)
 | .clo f first cap=>(match zhi E first with
  | some vs=>(match zhi E cap with
   | some vs'=>some (.clo f vs vs')
   | none=>none)
  | none=>none)
 | .mkI t x=>(match evD E x with
  | some d=>some (.ifc t d)
  | none=>none)
 | _=>none
section
variable {c:Cx} {S:LSt} {M:St} {L:List LB} {H:zaj}
variable{x:X}{d:D}
theorem zac(h:Rel c S M)(he:evD S.env x=some d):∃ v,ev M.env x=some v/\R c d v:=by
 cases x with
 | s k=>exact h.env k d he
 | c v=>cases he; exact⟨_,rfl,.lit v⟩
 | f f=>cases he; exact⟨_,rfl,.clo rfl rfl (by simp) (by simp)⟩
theorem zb7(h:Rel c S M):∀ {xs:List X} {ds:List D},zhi S.env xs=some ds->∃ vs,evs M.env xs=some vs/\Rs c ds vs
 | [],ds,he=>by cases he; exact⟨[],rfl,Rs.nil c⟩
 | x :: r,ds,he=>by
  simp only[zhi]at he;cases h1:evD S.env x with
  | none=>rw[h1]at he; cases he
  | some d=>
   cases h2:zhi S.env r with
   | none=>rw[h1,h2]at he; cases he
   | some ds'=>
    rw[h1,h2]at he;cases he;obtain⟨v,g1,g2⟩:=zac h h1;obtain⟨vs,g3,g4⟩:=zb7 h h2;exact⟨v :: vs,by simp only[evs,g1,g3],g4.cons g2⟩
theorem zhJ{d:V}{v:Value}(hr:R c (.lit v) d):d=.lit v:=by cases hr; rfl
theorem zdM(h:Rel c S M){n:Int}(he:zjB (evD S.env x)=some n):evI M.env x=some n:=by
 cases h1:evD S.env x with
 | none=>rw[h1]at he; cases he
 | some d=>
  rw[h1]at he;obtain⟨v,g1,g2⟩:=zac h h1;unfold zjB at he;split at he
  .rename_i heq; cases heq; cases he; cases zhJ g2; simp[evI,g1]
  cases he
theorem zfD(h:Rel c S M){b:Bool}(he:zf2 (evD S.env x)=some b):evB M.env x=some b:=by
 cases h1:evD S.env x with
 | none=>rw[h1]at he; cases he
 | some d=>
  rw[h1]at he;obtain⟨v,g1,g2⟩:=zac h h1;unfold zf2 at he;split at he
  .rename_i heq; cases heq; cases he; cases zhJ g2; simp[evB,g1]
  cases he
theorem zkx(h:Rel c S M){x:Option X}{n:Option Int}(he:zhK S.env x=some n):zqr M.env x=some n:=by
 cases x with
 | none=>cases he; rfl
 | some x=>
  simp only[zhK]at he;cases h1:zjB (evD S.env x)with
  | none=>rw[h1]at he; cases he
  | some m=>rw[h1]at he; cases he; simp[zqr,zdM h h1]
theorem zih(h:Rel c S M){u:V}(he:zro (evD S.env x)=some u):ev M.env x=some u:=by
 cases h1:evD S.env x with
 | none=>rw[h1]at he; cases he
 | some d=>
  rw[h1]at he;obtain⟨v,g1,g2⟩:=zac h h1;unfold zro at he;split at he
  .rename_i heq; cases heq; cases he; cases zhJ g2; exact g1
  cases he
theorem zjD:∀ {ds es:List D} {vs ws:List V} {b:Bool},zBj ds es=some b->Rs c ds vs->Rs c es ws->zvM vs ws=some b
 | [],es,vs,ws,b,he,h1,h2=>by
  cases es with
  | nil=>
   cases vs with
   | nil=>cases ws with
    | nil=>exact he
    | cons=>have:=h2.1; simp at this
   | cons=>have:=h1.1; simp at this
  | cons=>cases he
 | d :: ds,es,vs,ws,b,he,h1,h2=>by
  cases es with
  | nil=>simp[zBj]at he
  | cons e es=>
  obtain⟨v,vs',rfl,r1,t1⟩:=h1.inv;obtain⟨w,ws',rfl,r2,t2⟩:=h2.inv;unfold zBj at he;split at he
  .rename_i a1 a2; cases a1
  .rename_i k x ds' k' y es' a1 a2;cases a1;cases a2;split at he
   .rename_i hk;split at he
    .rename_i r hr;cases zhJ r1;cases zhJ r2;unfold zvM;simp only[hk,qdl,zjD hr t1 t2];exact he
    cases he
   cases he
  cases he
variable{ds:List D}{vs:List V}
theorem zqQ{us:List V}(he:zib ds=some us)(hr:Rs c ds vs):vs=us:=by
 induction ds generalizing us vs with
 | nil=>cases he; have:=hr.1; cases vs with | nil=>rfl | cons _ _=>simp at this
 | cons d ds ih=>
  obtain⟨v,vs',rfl,h1,h2⟩:=hr.inv;unfold zib at he;split at he
  .rename_i heq; cases heq
  .rename_i u r heq;cases heq;cases h3:zib ds with
   | none=>rw[h3]at he; cases he
   | some l=>rw[h3]at he; cases he; rw[ih h3 h2,zhJ h1]
  cases he
theorem zoj{o:Option V}(h:zv3 o=some d):∃ v,o=some (.lit v)/\d=.lit v:=by
 unfold zv3 at h;split at h
 .cases h; exact⟨_,rfl,rfl⟩
 cases h
variable{v:V}
theorem zem(h:v.one=true):v.cells=some [v]:=by
 cases v<;>simp_all [V.one,V.cells]
variable{l:List D}
theorem zoI(hr:R c d v)(hl:d.cells=some l):∃ l',v.cells=some l'/\Rs c l l':=by
 have one:∀ {d:D} {v:V},R c d v->v.one=true->∃ l',v.cells=some l'/\Rs c [d] l':=λh h1=>⟨_,zem h1,(Rs.nil c).cons h⟩
 cases hr with
 | any v=>cases hl
 | lit v=>
  cases hv:zfg v with
  | false=>simp[D.cells,hv]at hl
  | true=>simp[D.cells,hv]at hl; subst hl; exact one (.lit v) hv
 | ptr h1=>cases hl; exact one (.ptr h1) rfl
 | eptr h1 h2=>
  cases hl;refine one (.eptr h1 h2) ?_;rcases h2 with⟨_,h2⟩| ⟨_,rfl⟩
  .exact h2
  .rfl
 | sl h1 h2=>
  cases hl;refine one (.sl h1 h2) ?_;rcases h2 with⟨_,h2⟩| ⟨_,rfl⟩
  .exact h2
  .rfl
 | slg h1=>cases hl; exact one (.slg h1) rfl
 | fz h1 h2 h3 h4 h5 h6=>cases hl; exact one (.fz h1 h2 h3 h4 h5 h6) rfl
 | fz0=>cases hl; exact one .fz0 rfl
 | fzn=>cases hl; exact one .fzn rfl
 | z0 h1 h2=>cases hl; exact one (.z0 h1 h2) rfl
 | z0n=>cases hl; exact one .z0n rfl
 | fptr h1 h2 h3=>cases hl; exact one (.fptr h1 h2 h3) rfl
 | clo h1 h2 h3 h4=>cases hl; exact one (.clo h1 h2 h3 h4) rfl
 | yld h1=>cases hl; exact one (.yld h1) rfl
 | ifc h1=>cases hl; exact one (.ifc h1) rfl
 | agg h1 h2=>cases hl; exact⟨_,rfl,h1,h2⟩
 | tup h1 h2=>cases hl
theorem zd6(h:Rel c S M)(he:zcl (evD S.env x)=some l):∃ l',(ev M.env x).bind V.cells=some l'/\Rs c l l':=by
 cases h1:evD S.env x with
 | none=>rw[h1]at he; cases he
 | some d=>
  rw[h1]at he;obtain⟨v,g1,g2⟩:=zac h h1;obtain⟨l',g3,g4⟩:=zoI g2 he;exact⟨l',by rw[g1]; exact g3,g4⟩
variable{o n:Nat}
theorem zqP(hr:Rs c ds vs)(hs:zqH o n ds=some l):∃ l',slot o n vs=some l'/\Rs c l l':=by
 unfold zqH at hs;split at hs
 .rename_i hle;cases hs;refine⟨_,?_,(hr.drop o).take n⟩;unfold slot;rw[qau (by rw[<- hr.1]; exact hle),qdl]
 cases hs
theorem zcF(hr:Rs c ds vs){n:Option Nat}(ht:zgx ds o n=some d):∃ v,takeN vs o n=some v/\R c d v:=by
 cases n with
 | none=>exact hr.get ht
 | some n=>
  simp only[zgx]at ht;cases hs:zqH o n ds with
  | none=>rw[hs]at ht; cases ht
  | some l=>
   rw[hs]at ht;cases ht;obtain⟨l',g1,g2⟩:=zqP hr hs;exact⟨.agg l',by simp[takeN,g1],.agg g2.1 g2.2⟩
theorem zl6{a m:Nat}{n:Option Nat}(ha:a<=vs.length)(ht:takeN ((vs.drop a).take m) o n=some v):takeN vs (a+o) n=some v:=by
 cases n with
 | none=>
  simp only[takeN,qaA,qaB]at ht ⊢;split at ht
  .exact ht
  .cases ht
 | some n=>
  simp only[takeN,slot]at ht ⊢;cases hb:Nat.ble (o+n) ((vs.drop a).take m).length with
  | false=>rw[hb]at ht; cases ht
  | true=>
   rw[hb]at ht;have hle:=qah hb;simp only[qbh,qca]at hle;rw[qau (by omega:a+o+n<=vs.length)];simp only[qdl,qaM,qad]at ht ⊢;rw[<- ht,List.drop_take,List.drop_drop,List.take_take,qbd (by omega)]
theorem zhU{n:Nat}:∀ {es:List (List D)},(∀ cells,cells∈es->cells.length=n)->es.flatten.length=es.length * n
 | [],_=>by simp
 | e :: es,h=>by
  rw[qbn,qav,zhU λx hx=>h x (qai _ hx),h e (by simp),qaH,qb7];omega
theorem zmi{n:Nat}:∀ {es:List (List D)} (s:Nat),(∀ cells,cells∈es->cells.length=n)->es.flatten.drop (s * n)=(es.drop s).flatten
 | es,0,_=>by simp
 | [],s+1,_=>by simp
 | e :: es,s+1,h=>by
  have he:=h e (by simp);rw[qbn,qc0,<- zmi s λx hx=>h x (qai _ hx),qb7,List.drop_append,he,qb0 (by omega),qbe];congr 1
  omega
theorem zlZ{n:Nat}:∀ {es:List (List D)} (s:Nat),(∀ cells,cells∈es->cells.length=n)->es.flatten.take (s * n)=(es.take s).flatten
 | es,0,_=>by simp
 | [],s+1,_=>by simp
 | e :: es,s+1,h=>by
  have he:=h e (by simp);rw[qbn,qb2,qbn,<- zlZ s λx hx=>h x (qai _ hx),qb7,List.take_append,he,qaV (by omega)];congr 2
  omega
theorem Els.zlE{es:List (List D)}(h:Els c n es vs):vs.length=es.length * n:=by rw[<- h.rel.1,zhU h.len]
theorem zlh{α:Type}{l:List α}{x:α}{a b:Nat}(h:x∈(l.drop a).take b):x∈l:=qcc (List.mem_of_mem_take h)
theorem Els.sub{es:List (List D)}(h:Els c n es vs)(s len:Nat):Els c n ((es.drop s).take len) ((vs.drop (s * n)).take (len * n)):=by
 refine⟨λx hx=>h.len x (zlh hx),?_⟩;rw[<- zlZ len λx hx=>h.len x (qcc hx),<- zmi s h.len];exact(h.rel.drop _).take _
theorem Els.append{n:Nat}{es es':List (List D)}{vs vs':List V}(h:Els c n es vs)(h':Els c n es' vs'):Els c n (es ++ es') (vs ++ vs'):=by
 refine⟨λx hx=>?_,by rw[List.flatten_append]; exact h.rel.append h'.rel⟩;rcases qbv.1 hx with hx | hx
 .exact h.len x hx
 exact h'.len x hx
theorem Els.one{cells:List D}(h:Rs c cells vs):Els c cells.length [cells] vs:=⟨by simp,by simpa using h⟩
theorem Els.nil(n:Nat):Els c n [] []:=⟨by simp,Rs.nil c⟩
theorem Els.at_{es:List (List D)}(h:Els c n es vs){i:Nat}{cells:List D}(hi:es[i]? = some cells):Rs c cells ((vs.drop (i * n)).take n):=by
 have h1:=(h.sub i 1).rel;have h2:(es.drop i).take 1=[cells]:=by
  have hil:=(qab.1 hi);obtain⟨hl,hil⟩:=hil;rw[qat hl,qb2,qcD,hil]
 rw[h2,qbS]at h1;simpa using h1
theorem Els.take{es:List (List D)}(h:Els c n es vs)(k:Nat):Els c n (es.take k) (vs.take (k * n)):=by
 have:=h.sub 0 k;simpa using this
theorem Els.drop{es:List (List D)}(h:Els c n es vs)(k:Nat):Els c n (es.drop k) (vs.drop (k * n)):=by
 have:=h.sub k es.length;rw[qaV (by simp),qaV (by rw[qca,h.zlE]; omega)]at this;exact this
theorem zcD(h:Rel c S M):∀(parts:List (Nat×Nat×X)) {cs l:List D} {vs:List V},zk0 S.env cs parts=some l->Rs c cs vs->∃ l',ze5 M.env vs parts=some l'/\Rs c l l'
 | [],cs,l,vs,he,hr=>by cases he; exact⟨vs,rfl,hr⟩
 |(off,n,x):: r,cs,l,vs,he,hr=>by
  simp only[zk0]at he;cases h1:zcl (evD S.env x)with
  | none=>rw[h1]at he; cases he
  | some k=>
   rw[h1]at he;simp only at he;split at he
   .rename_i hc;obtain⟨k',g1,g2⟩:=zd6 h h1;have hp:Rs c (zox cs off k) (za7 vs off k'):=by
     unfold zox za7;rw[<- g2.1];exact((hr.take off).append g2).append (hr.drop _)
    obtain⟨l',g3,g4⟩:=zcD h r he hp;refine⟨l',?_,g4⟩;rw[ze5,g1];have e1:(k'.length == n)=true:=by rw[<- g2.1,hc.1]; simp
    have e2:Nat.ble (off+n) vs.length=true:=qau (by rw[<- hr.1]; exact hc.2);simp only[e1,e2,qcn,qdl];exact g3
   cases he
variable{β st:Nat}
theorem zdF(h:RelH c L H){es:List (List D)}(he:zeg L β n st=some es):
  0<n/\st=es.length/\(L[β]? = some (.els n es)\/L[β]? = some (.grow n es))/\((es=[]/\c.ρ β=some .ghost)\/∃ b vs,c.ρ β=some (.list b st)/\H[b]? = some (.blk vs)/\Els c n es vs):=by
 unfold zeg at he;split at he
 .rename_i n' es' heq;split at he
  .rename_i hc;cases he;obtain⟨rfl,hc⟩:=hc;obtain⟨g0,g1 | ⟨b,vs,g1,g2,g3⟩⟩:=h.obj β _ heq
   .exact⟨g0,hc,.inl heq,.inl g1⟩
   exact⟨g0,hc,.inl heq,.inr ⟨b,vs,by rw[hc]; exact g1,g2,g3⟩⟩
  cases he
 .rename_i n' es' heq;split at he
  .rename_i hc;cases he;obtain⟨rfl,hc⟩:=hc;obtain⟨g0,g1 | ⟨g,b,vs,g1,g2,g3⟩⟩:=h.obj β _ heq
   .exact⟨g0,hc,.inr heq,.inl g1⟩
   exact⟨g0,hc,.inr heq,.inr ⟨b,vs,by rw[hc]; exact g1,g2,g3⟩⟩
  cases he
 cases he
theorem slR(h:RelH c L H){s len:Nat}{cap:Option Nat}{es:List (List D)}(he:zeg L β n st=some es)(hr:R c (.sl β s n len cap st) v):
  (∃ b vs,c.ρ β=some (.list b st)/\v=.sl b (s * n) n len cap/\H[b]? = some (.blk vs)/\Els c n es vs)\/(v=.lit (.slice none 0 0)/\s=0/\len=0/\cap=none/\st=0/\es=[]/\c.ρ β=some .ghost):=by
 obtain⟨h1,h2,h3,h4⟩:=zdF h he;rcases h4 with⟨k1,k2⟩| ⟨b,vs,k1,k2,k3⟩
 .cases hr with
  | sl g1 g2=>rw[k2]at g1; cases g1
  | slg g1=>exact .inr ⟨rfl,rfl,rfl,rfl,rfl,k1,k2⟩
 cases hr with
 | sl g1 g2=>
  rw[k1]at g1;cases g1;rcases g2 with⟨g2,_⟩| ⟨_,g2⟩
  .omega
  .exact .inl ⟨b,vs,k1,g2,k2,k3⟩
 | slg g1=>rw[k1]at g1; cases g1
theorem zq6(h:RelH c L H){i off:Nat}{es:List (List D)}(he:zeg L β n st=some es)(hr:R c (.eptr β n i off st) v):∃ b vs,c.ρ β=some (.list b st)/\v=.ptr b (i * n+off)/\H[b]? = some (.blk vs)/\Els c n es vs:=by
 obtain⟨h1,h2,h3,h4⟩:=zdF h he;cases hr with
 | eptr g1 g2=>
  rcases h4 with⟨k1,k2⟩| ⟨b,vs,k1,k2,k3⟩
  .rw[k2]at g1; cases g1
  rw[k1]at g1;injection g1 with g1
  injection g1 with g1 g1'
  subst g1;subst g1';rcases g2 with⟨g2,_⟩| ⟨_,g2⟩
  .omega
  exact⟨b,vs,k1,g2,k2,k3⟩
end
section
variable {c:Cx} {S:LSt} {M:St} {L:List LB} {H:zaj}
theorem zbt{β:Nat}{cs:List V}(hh:H[β]? = some (.blk cs)):zas H β=some cs:=by simp[zas,hh]
theorem zyM(h:RelH c L H){t:Bool}{ds:List D}{b o:Nat}{cs:List V}(h1:c.look t b=some cs)(h2:o+ds.length<=cs.length)(h3:∀(k:Nat) d v,ds[k]? = some d->cs[o+k]? = some v->R (c.frz t) d v):
  Rs c ds ((cs.drop o).take ds.length):=by
 refine⟨by simp; omega,λk d v g1 g2=>?_⟩;simp only[qaA,qaB]at g2;split at g2
 .exact(h3 k d v g1 g2).zwM h.apart
 cases g2
variable{d d':D}{v:V}
theorem zjy(h:RelH c L H){n:Option Nat}(hr:R c d v)(hl:zkI L n d=some d'):∃ v',(match v with | .ptr β o=>(zas H β).bind λcs=>takeN cs o n | _=>none)=some v'/\R c d' v':=by
 cases d with
 | ptr β o=>
  cases hr with
  | ptr g1=>
   simp only[zkI]at hl;split at hl
   .rename_i ds heq;obtain⟨b,vs,k1,k2,k3⟩:=h.obj β _ heq;rw[g1]at k1;cases k1;obtain⟨v',e1,e2⟩:=zcF k3 hl;exact⟨v',by simp only[zbt k2,qaa]; exact e1,e2⟩
   .cases hl
 | eptr β n' i off st=>
  simp only[zkI]at hl;cases he:zeg L β n' st with
  | none=>rw[he]at hl; cases hl
  | some es=>
   rw[he]at hl;simp only at hl;obtain⟨b,vs,k1,rfl,k3,k6⟩:=zq6 h he hr;cases hi:es[i]? with
   | none=>rw[hi]at hl; cases hl
   | some cells=>
    rw[hi]at hl;obtain⟨v',e1,e2⟩:=zcF (k6.at_ hi) hl;refine⟨v',?_,e2⟩;simp only[zbt k3,qaa];have hil:i<es.length:=(qab.1 hi).1;have h1:i * n'<=es.length * n':=qaE n' (by omega);exact zl6 (by rw[k6.zlE]; exact h1) e1
 | fptr t ds=>
  cases hr with
  | fptr h1 h2 h3=>
   simp only[zkI]at hl;obtain⟨v',e1,e2⟩:=zcF (zyM h h1 h2 h3) hl;refine⟨v',?_,e2⟩;simp only[zbt (h.look h1),qaa];have:=zl6 (by omega) e1
   rwa [qbo]at this
 | _=>cases hl
theorem zmp(h:RelH c L H){off:Nat}(hr:R c d v)(hl:zq9 L off d=some d'):∃ b o,v=.ptr b o/\R c d' (.ptr b (o+off)):=by
 cases d with
 | ptr β o=>
  cases hr with
  | ptr g1=>cases hl; exact⟨_,_,rfl,.ptr g1⟩
 | eptr β n' i o st=>
  simp only[zq9]at hl;cases he:zeg L β n' st with
  | none=>rw[he]at hl; cases hl
  | some es=>
   rw[he]at hl;cases hl;obtain⟨b',vs,q1,rfl,_⟩:=zq6 h he hr;exact⟨_,_,rfl,.eptr q1 (.inr ⟨rfl,by rw[qbi]⟩)⟩
 | fptr t ds=>
  cases hr with
  | fptr h1 h2 h3=>
   simp only[zq9]at hl;split at hl
   .rename_i ho;cases hl;refine⟨_,_,rfl,.fptr h1 (by simp; omega) λk d v g1 g2=>?_⟩;rw[qaB]at g1;rw[qbi]at g2;exact h3 _ d v g1 g2
   .cases hl
 | _=>cases hl
variable{n:Nat}
theorem ztC(h:RelH c L H){m:Int}(hr:R c d v)(hl:zvv L n m d=some d'):
  ∃ v',(match v with | .sl β o n' len _=>bif (n == n') && decide (0<=m) && decide (m<len)then some (V.ptr β (o+m.toNat * n))else none | _=>none)=some v'/\R c d' v':=by
 cases d with
 | sl β s n' len cap st=>
  simp only[zvv]at hl;split at hl
  .rename_i hc;obtain⟨rfl,hc1,hc2⟩:=hc;cases he:zeg L β n st with
   | none=>rw[he]at hl; cases hl
   | some es=>
    rw[he]at hl;cases hl;rcases slR h he hr with⟨b',vs,q1,rfl,_⟩| ⟨rfl,_,rfl,_⟩
    rotate_left
    .omega
    refine⟨_,by simp[hc1,hc2]; rfl,.eptr q1 (.inr ⟨rfl,by rw[qbo,qaT]⟩)⟩
  .cases hl
 | fz t n' els=>
  simp only[zvv]at hl;split at hl
  .rename_i hc;obtain⟨rfl,hc1⟩:=hc;cases hi:els[m.toNat]? with
   | none=>rw[hi]at hl; cases hl
   | some cells=>
    rw[hi]at hl;cases hl;have hil:=(qab.1 hi).1;cases hr with
    | fz h1 h2 h3 h4 h5 h6=>
     have h7:=h5 _ _ hi;have h8:m.toNat * n+n<=els.length * n:=by
      have:=qaE n hil;rw[qb7]at this;exact this
     refine⟨_,?_,.fptr h1 (o:=_) ?_ λk d v g1 g2=>h6 _ _ k d v hi g1 g2⟩
     .have:m<els.length:=by omega
      simp[hc1,this]
     .omega
    | fz0=>simp at hil
    | fzn=>simp at hil
  .cases hl
 | _=>cases hl
theorem zt3(h:RelH c L H)(hr:R c d v)(hl:zrp L d=some d'):∃ v',zzO v=some v'/\R c d' v':=by
 cases d with
 | lit u=>
  cases zhJ hr;unfold zrp at hl;split at hl<;>first | (cases hl; done)| skip
  .rename_i heq; cases heq; cases hl; exact⟨_,rfl,.lit _⟩
  all_goals (rename_i heq; cases heq)
 | sl β s n len cap st=>
  simp only[zrp]at hl;cases he:zeg L β n st with
  | some es=>
   rw[he]at hl;cases hl;rcases slR h he hr with⟨b',vs,q1,rfl,_⟩| ⟨rfl,_,rfl,_⟩
   .exact⟨_,rfl,.lit _⟩
   .exact⟨_,rfl,.lit _⟩
  | none=>rw[he]at hl; cases hl
 | fz t n els=>
  simp only[zrp]at hl;cases hl;cases hr with
  | fz h1 h2 h3 h4 h5 h6=>exact⟨_,rfl,.lit _⟩
  | fz0=>exact⟨_,rfl,.lit _⟩
  | fzn=>exact⟨_,rfl,.lit _⟩
 | z0 t n=>
  simp only[zrp]at hl;cases hl;cases hr with
  | z0 h1 h2=>exact⟨_,rfl,.lit _⟩
  | z0n=>exact⟨_,rfl,.lit _⟩
 | _=>cases hl
variable{lo hi mx:Option Int}
theorem znb{cap:Option Nat}(hcap:∀ k,cap=some k->n<=k)(hh:hi.getD n<=n)(hm:mx.getD n<=n){l h:Nat}{cc:Option Nat}(hb:bounds n (some n) lo hi mx=some (l,h,cc)):
  l<=h/\h<=n/\∃ c',bounds n cap lo hi mx=some (l,h,c')/\(∀ k,c'=some k->h - l<=k)/\(mx.isSome=true->c'=cc):=by
 have ht:(n:Int)<=zeS n cap:=by
  cases cap with
  | none=>exact qbC _
  | some k=>have:=hcap k rfl; simp only[zeS]; omega
 cases mx with
 | none=>
  simp only[bounds]at hb ⊢;cases hc:(decide (0<=lo.getD 0) && decide (lo.getD 0<=hi.getD n) && decide (hi.getD n<=zeS n (some n)))with
  | false=>rw[hc]at hb; cases hb
  | true=>
   rw[hc]at hb;simp only[qae,decide_eq_true_eq]at hc;cases hb;have e1:(decide (0<=lo.getD 0) && decide (lo.getD 0<=hi.getD n) && decide (hi.getD n<=zeS n cap))=true:=by
    simp only[qae,decide_eq_true_eq]; exact⟨hc.1,by omega⟩
   rw[e1];refine⟨by omega,by omega,_,rfl,λk hk=>?_,λh0=>by cases h0⟩;cases cap with
   | none=>cases hk
   | some q=>have:=hcap q rfl; simp only[qaM,qad]at hk; omega
 | some m=>
  simp only[bounds]at hb ⊢;simp only[qbP]at hm;cases hc:(hi.isSome && decide (0<=lo.getD 0) && decide (lo.getD 0<=hi.getD n) && decide (hi.getD n<=m) && decide (m<=zeS n (some n)))with
  | false=>rw[hc]at hb; cases hb
  | true=>
   rw[hc]at hb;simp only[qae,decide_eq_true_eq]at hc;cases hb;have e1:(hi.isSome && decide (0<=lo.getD 0) && decide (lo.getD 0<=hi.getD n) && decide (hi.getD n<=m) && decide (m<=zeS n cap))=true:=by
    simp only[qae,decide_eq_true_eq]; exact⟨hc.1,by omega⟩
   rw[e1];exact⟨by omega,by omega,_,rfl,λk hk=>by simp only[qad]at hk; omega,λ_=>rfl⟩
theorem zuQ(h:RelH c L H)(hr:R c d v)(hl:zrn L n lo hi mx d=some d'):∃ v',ztz n lo hi mx v=some v'/\R c d' v':=by
 cases d with
 | lit u=>
  cases zhJ hr;unfold zrn at hl;split at hl<;>first | (cases hl; done)| skip
  .rename_i heq;cases heq;split at hl
   .rename_i x hb; cases hl; exact⟨_,by simp[ztz,hb],.lit _⟩
   cases hl
  all_goals (rename_i heq; cases heq)
 | sl β s n' len cap st=>
  simp only[zrn]at hl;split at hl
  .rename_i hn;subst hn;cases he:zeg L β n st with
   | none=>rw[he]at hl; cases hl
   | some es=>
    rw[he]at hl;cases hb:bounds len cap lo hi mx with
    | none=>rw[hb]at hl; cases hl
    | some x=>
     obtain⟨l,hh,cc⟩:=x;rw[hb]at hl;simp only at hl;split at hl
     .rename_i hmx;subst hmx;cases hl;rcases slR h he hr with⟨b',vs,q1,rfl,_⟩| ⟨rfl,rfl,rfl,rfl,rfl,_,q1⟩
      .exact⟨_,by simp[ztz,hb]; rfl,.sl q1 (.inr ⟨rfl,by rw[qaT]⟩)⟩
      have hb':bounds 0 (some 0) lo hi none=some (l,hh,some (0 - l))/\l=0/\hh=0/\cc=none:=by
       simp only[bounds]at hb ⊢;cases hc:(decide (0<=lo.getD 0) && decide (lo.getD 0<=hi.getD ((0:Nat):Int)) && decide (hi.getD ((0:Nat):Int)<=zeS 0 none))with
       | false=>rw[hc]at hb; cases hb
       | true=>
        rw[hc]at hb;simp only[qae,decide_eq_true_eq,zeS]at hc;cases hb;have e1:(decide (0<=lo.getD 0) && decide (lo.getD 0<=hi.getD ((0:Nat):Int)) && decide (hi.getD ((0:Nat):Int)<=zeS 0 (some 0)))=true:=by
         simp only[qae,decide_eq_true_eq,zeS]; exact hc
        rw[e1];have hc3:hi.getD ((0:Nat):Int)<=0:=qds hc.2;have hc1:=hc.1.1;have hc2:=hc.1.2;exact⟨rfl,by omega,by omega,rfl⟩
      obtain⟨e1,rfl,rfl,rfl⟩:=hb';exact⟨_,by simp[ztz,e1],.slg q1⟩
     cases hl
  .cases hl
 | fz t n' els=>
  simp only[zrn]at hl;split at hl
  .rename_i hn;subst hn;unfold zzz at hl;split at hl
   .rename_i hc;simp only[qae,decide_eq_true_eq]at hc;cases hb:bounds els.length (some els.length) lo hi mx with
    | none=>rw[hb]at hl; cases hl
    | some x=>
     obtain⟨l,hh,cc⟩:=x;rw[hb]at hl;simp only at hl;cases hr with
     | fz h1 h2 h3 h4 h5 h6=>
      rename_i b o cap cs;obtain⟨e1,e2,c',e3,e4,e5⟩:=znb h3 hc.1 hc.2 hb;refine⟨.sl b (o+l * n) n (hh - l) c',by simp[ztz,e3],?_⟩;split at hl
      .rename_i hz;simp only[qae,qdp]at hz;obtain⟨hz,_⟩:=hz;cases hl;have h0:=e5 hz.1;rw[hz.2]at h0;subst h0;have:=e4 0 rfl;have h9:hh - l=0:=by omega
       rw[h9];refine .z0 h1 ?_;have:l * n<=els.length * n:=qaE n (by omega);omega
      .cases hl;have hlen:((els.drop l).take (hh - l)).length=hh - l:=by simp; omega
       rw[show V.sl b (o+l * n) n (hh - l) c'=V.sl b (o+l * n) n ((els.drop l).take (hh - l)).length c' by rw[hlen]];refine .fz h1 h2 (by rw[hlen]; exact e4) ?_ (λi cells hi=>?_) λi cells k d v g1 g2 g3=>?_
       .rw[hlen];have:l * n+(hh - l)* n<=els.length * n:=by rw[<- qaT]; exact qaE n (by omega)
        omega
       .simp only[qaA,qaB]at hi;split at hi
        .exact h5 _ _ hi
        cases hi
       .simp only[qaA,qaB]at g1;split at g1
        .refine h6 (l+i) cells k d v g1 g2 ?_;rw[<- g3,qaT];congr 1
         omega
        .cases g1
     | fz0=>
      rename_i b o cap;simp only[qaN]at hc hb hl;have hcz:∀ k,cap=some k->0<=k:=λ_ _=>qaw _
      obtain⟨e1,e2,c',e3,e4,e5⟩:=znb hcz hc.1 hc.2 hb;refine⟨.sl b (o+l * n) n (hh - l) c',by simp[ztz,e3],?_⟩;have hl0:l=0:=by omega
      have hh0:hh=0:=by omega
      subst hl0;subst hh0;simp at hl;subst hl;exact .fz0
     | fzn=>
      simp only[qaN]at hc hb hl;refine⟨.lit (.slice none 0 0),by simp[ztz,hb],?_⟩;split at hl
      .rename_i hz; simp at hz
      cases hl; simp; exact .fzn
   cases hl
  .cases hl
 | _=>cases hl
theorem zwj(h:RelH c L H){o:Option Nat}(hr:R c d v)(hy:yB L d=some o):match o with
  | none=>zrt v=none
  | some β=>zrt v=none\/∃ b x,zrt v=some b/\c.ρ β=some x/\x.blk=some b:=by
 cases d with
 | lit u=>
  cases zhJ hr;unfold yB at hy;split at hy<;>first | (cases hy; rfl)| (rename_i he; cases he)| (cases hy)
 | ptr β o'=>
  cases hy;cases hr with
  | ptr g1=>exact .inr ⟨_,_,rfl,g1,rfl⟩
 | eptr β n i off st=>
  simp only[yB]at hy;cases he:zeg L β n st with
  | none=>rw[he]at hy; cases hy
  | some es=>
   rw[he]at hy;cases hy;obtain⟨b,vs,k1,rfl,k3,k6⟩:=zq6 h he hr;exact .inr ⟨_,_,rfl,k1,rfl⟩
 | sl β s n len cap st=>
  simp only[yB]at hy;cases he:zeg L β n st with
  | none=>rw[he]at hy; cases hy
  | some es=>
   rw[he]at hy;cases hy;rcases slR h he hr with⟨b,vs,q1,rfl,q2,q3⟩| ⟨rfl,rfl,h0,_,_,rfl,_⟩
   .exact .inr ⟨_,_,rfl,q1,rfl⟩
   .exact .inl rfl
 | _=>cases hy
theorem zvw(h:RelH c L H){β b:Nat}{x:Lc}(hr:R c d v)(hx:xB L β d=true)(hb:c.ρ β=some x)(hxb:x.blk=some b):∃ γ o,v=.ptr γ o/\(zas H γ).isSome=true/\(γ == b)=false:=by
 cases d with
 | fptr t ds=>
  cases hr with
  | fptr g1 g2 g3=>
   rename_i b' o cs;refine⟨b',o,rfl,by rw[zbt (h.look g1)]; rfl,?_⟩;rw[qdt];rintro rfl;obtain⟨o1,o2,o3⟩:=h.own β x b' hb hxb;unfold Cx.look at g1;rw[o3]at g1;cases t with
   | true=>simp at g1
   | false=>
    simp only[qaQ,if_false]at g1;have:=(h.za b' cs g1).1;omega
 | ptr γ o=>
  simp only[xB]at hx;split at hx
  .rename_i ds heq;cases hr with
   | ptr g1=>
    obtain⟨b',vs,k1,k2,k3⟩:=h.obj γ _ heq;rw[g1]at k1;cases k1;refine⟨_,_,rfl,by rw[zbt k2]; rfl,?_⟩;rw[qdt];rintro rfl;have:=h.inj γ β _ x _ g1 hb rfl hxb;subst this;simp at hx
  .cases hx
 | eptr γ n i off st=>
  simp only[xB]at hx;cases he:zeg L γ n st with
  | none=>rw[he]at hx; cases hx
  | some es=>
   rw[he]at hx;obtain⟨b',vs,k1,rfl,k3,k6⟩:=zq6 h he hr;refine⟨_,_,rfl,by rw[zbt k3]; rfl,?_⟩;rw[qdt];rintro rfl;have:=h.inj γ β _ x _ k1 hb rfl hxb;subst this;simp at hx
 | _=>cases hx
theorem zm0(h:Rel c S M){β b:Nat}{x:Lc}(hb:c.ρ β=some x)(hxb:x.blk=some b):∀ {xs:List X} {ds:List D},zhi S.env xs=some ds->xBs S.heap β ds=true->xs.all (zyH M.heap M.env b)=true
 | [],ds,he,hx=>rfl
 | y :: r,ds,he,hx=>by
  simp only[zhi]at he;cases h1:evD S.env y with
  | none=>rw[h1]at he; cases he
  | some d=>
   cases h2:zhi S.env r with
   | none=>rw[h1,h2]at he; cases he
   | some ds'=>
    rw[h1,h2]at he;cases he;simp only[xBs]at hx;cases h3:xB S.heap β d with
    | false=>rw[h3]at hx; cases hx
    | true=>
     rw[h3]at hx;obtain⟨v,g1,g2⟩:=zac h h1;obtain⟨γ,o,rfl,g3,g4⟩:=zvw h.heap g2 h3 hb hxb;rw[qb5,zm0 h hb hxb h2 hx];simp[zyH,g1,g3,g4]
theorem zve(h:Rel c S M){i:I}(hq:qL S.heap S.env i=some d):∃ v,q M.heap M.env i=some v/\R c d v:=by
 cases i with
 | mov x=>exact zac h hq
 | avo xs y=>
  simp only[qL]at hq;cases hy:evD S.env y with
  | none=>rw[hy]at hq; cases hq
  | some e=>
   rw[hy]at hq;obtain⟨v,g1,g2⟩:=zac h hy;simp only at hq;have fin:zrm M.heap M.env xs y=true->∃ v,q M.heap M.env (.avo xs y)=some v/\R c (.lit (.tuple #[])) v:=λha=>⟨zaG,by simp[q,ha],.lit _⟩
   cases hb:yB S.heap e with
   | none=>rw[hb]at hq; cases hq
   | some o=>
    have hs:=zwj h.heap g2 hb;rw[hb]at hq;cases o with
    | none=>
     cases hq;exact fin (by simp only at hs; simp[zrm,g1,hs])
    | some β=>
     simp only at hq;cases hx:zhi S.env xs with
     | none=>rw[hx]at hq; cases hq
     | some ds=>
      rw[hx]at hq;simp only at hq;cases hxb:xBs S.heap β ds with
      | false=>rw[hxb]at hq; cases hq
      | true=>
       rw[hxb]at hq;cases hq;refine fin ?_;rcases hs with hs | ⟨b,x,hs,k1,k2⟩
       .simp[zrm,g1,hs]
       .simp only[zrm,g1,hs]; exact zm0 h k1 k2 hx hxb
 | pick x a b=>
  simp only[qL]at hq;cases hb:zf2 (evD S.env x)with
  | none=>rw[hb]at hq; cases hq
  | some t=>
   rw[hb]at hq;simp only[q,zfD h hb];cases t
   .exact zac h hq
   .exact zac h hq
 | build z parts=>
  simp only[qL]at hq;cases hf:zk0 S.env (z.map .lit) parts with
  | none=>rw[hf]at hq; cases hq
  | some l=>
   rw[hf]at hq;cases hq;obtain⟨l',g1,g2⟩:=zcD h parts hf (Rs.lits z);exact⟨.agg l',by simp[q,g1],.agg g2.1 g2.2⟩
 | load n x=>
  simp only[qL]at hq;cases hx:evD S.env x with
  | none=>rw[hx]at hq; cases hq
  | some e=>
   rw[hx]at hq;obtain⟨v,g1,g2⟩:=zac h hx;obtain⟨v',g3,g4⟩:=zjy h.heap g2 hq;refine⟨v',?_,g4⟩;simp only[q,g1];split at g3
   .exact g3
   .cases g3
 | fld off x=>
  simp only[qL]at hq;cases hx:evD S.env x with
  | none=>rw[hx]at hq; cases hq
  | some e=>
   rw[hx]at hq;obtain⟨v,g1,g2⟩:=zac h hx;obtain⟨b,o,rfl,g4⟩:=zmp h.heap g2 hq;exact⟨_,by simp only[q,g1],g4⟩
 | idxS n x j=>
  simp only[qL]at hq;cases hx:evD S.env x with
  | none=>rw[hx]at hq; cases hq
  | some e=>
   rw[hx]at hq;cases hj:zjB (evD S.env j)with
   | none=>rw[hj]at hq; cases hq
   | some m=>
    rw[hj]at hq;obtain⟨v,g1,g2⟩:=zac h hx;obtain⟨v',g3,g4⟩:=ztC h.heap g2 hq;refine⟨v',?_,g4⟩;simp only[q,g1,zdM h hj];split at g3
    .exact g3
    .cases g3
 | idxA n cnt x j=>
  simp only[qL]at hq;cases hx:evD S.env x with
  | none=>rw[hx]at hq; cases hq
  | some e=>
   rw[hx]at hq;cases hj:zjB (evD S.env j)with
   | none=>rw[hj]at hq; cases hq
   | some m=>
    rw[hj]at hq;simp only at hq;split at hq
    .rename_i hm;obtain⟨v,g1,g2⟩:=zac h hx;obtain⟨b,o,rfl,g4⟩:=zmp h.heap g2 hq;exact⟨_,by simp[q,g1,zdM h hj,hm.1,hm.2],g4⟩
    .cases hq
 | idxV n cnt x j=>
  simp only[qL]at hq;split at hq
  .rename_i ds hx;cases hj:zjB (evD S.env j)with
   | none=>rw[hj]at hq; cases hq
   | some m=>
    rw[hj]at hq;simp only at hq;split at hq
    .rename_i hm;obtain⟨v,g1,g2⟩:=zac h hx;cases g2 with
     | agg k1 k2=>
      obtain⟨v',e1,e2⟩:=zcF ⟨k1,k2⟩ hq;exact⟨v',by simp[q,g1,zdM h hj,hm.1,hm.2,e1],e2⟩
    cases hq
  .cases hq
 | part n off x=>
  simp only[qL]at hq;split at hq
  .rename_i ds hx;obtain⟨v,g1,g2⟩:=zac h hx;cases g2 with
   | agg k1 k2=>
    obtain⟨v',e1,e2⟩:=zcF ⟨k1,k2⟩ hq;exact⟨v',by simp[q,g1,e1],e2⟩
  .cases hq
 | bin op x y=>
  simp only[qL]at hq;cases hx:zro (evD S.env x)with
  | none=>rw[hx]at hq; cases hq
  | some u=>
   rw[hx]at hq;cases hy:zro (evD S.env y)with
   | none=>rw[hy]at hq; cases hq
   | some u'=>
    rw[hy]at hq;obtain⟨w,g1,rfl⟩:=zoj hq;exact⟨_,by simp only[q,zih h hx,zih h hy,g1],.lit _⟩
 | eqb neg x y=>
  simp only[qL]at hq;cases hx:zf2 (evD S.env x)with
  | none=>rw[hx]at hq; cases hq
  | some u=>
   rw[hx]at hq;cases hy:zf2 (evD S.env y)with
   | none=>rw[hy]at hq; cases hq
   | some u'=>
    rw[hy]at hq;cases hq;exact⟨_,by simp only[q,zfD h hx,zfD h hy],.lit _⟩
 | eqa n neg x y=>
  simp only[qL]at hq;split at hq
  .rename_i ds hx;split at hq
   .rename_i es hy;split at hq
    .rename_i hl;split at hq
     .rename_i b hb;cases hq;obtain⟨v,g1,g2⟩:=zac h hx;obtain⟨v',g1',g2'⟩:=zac h hy;cases g2 with
      | agg k1 k2=>
      cases g2' with
      | agg k1' k2'=>
      exact⟨_,by simp only[q,g1,g1',<- k1,<- k1',hl,qdl,zjD hb ⟨k1,k2⟩ ⟨k1',k2'⟩],.lit _⟩
     cases hq
    cases hq
   cases hq
  .cases hq
 | eqn neg x=>
  simp only[qL]at hq;split at hq
  .rename_i hx;obtain⟨v,g1,g2⟩:=zac h hx;cases hq;cases zhJ g2;exact⟨_,by simp only[q,g1],.lit _⟩
  .rename_i β s n len cap st hx;obtain⟨v,g1,g2⟩:=zac h hx;cases he:zeg S.heap β n st with
   | some es=>
    rw[he]at hq;simp only at hq;split at hq
    .cases hq
    .rename_i hne;cases hq;rcases slR h.heap he g2 with⟨b',vs,q1,rfl,_⟩| ⟨_,_,_,_,_,rfl,_⟩
     .exact⟨_,by simp only[q,g1],.lit _⟩
     .simp at hne
   | none=>rw[he]at hq; cases hq
  .rename_i t n els hx;obtain⟨v,g1,g2⟩:=zac h hx;split at hq
   .cases hq
   rename_i hne;cases hq;cases g2 with
   | fz _ _ _ _ _ _=>exact⟨_,by simp only[q,g1],.lit _⟩
   | fz0=>simp at hne
   | fzn=>simp at hne
  .cases hq
 | eqi neg x=>
  simp only[qL]at hq;split at hq
  .rename_i hx;obtain⟨v,g1,g2⟩:=zac h hx;cases hq;cases zhJ g2;exact⟨_,by simp only[q,g1],.lit _⟩
  .rename_i t d hx;obtain⟨v,g1,g2⟩:=zac h hx;cases hq;cases g2;exact⟨_,by simp only[q,g1],.lit _⟩
  .cases hq
 | eqp neg x=>
  simp only[qL]at hq;split at hq
  .rename_i hx;obtain⟨v,g1,g2⟩:=zac h hx;cases hq;cases zhJ g2;exact⟨_,by simp only[q,g1],.lit _⟩
  .rename_i hx;obtain⟨v,g1,g2⟩:=zac h hx;cases hq;cases g2;exact⟨_,by simp only[q,g1],.lit _⟩
  .rename_i hx;obtain⟨v,g1,g2⟩:=zac h hx;cases hq;cases g2;exact⟨_,by simp only[q,g1],.lit _⟩
  .cases hq
 | un op x=>
  simp only[qL]at hq;cases hx:zro (evD S.env x)with
  | none=>rw[hx]at hq; cases hq
  | some u=>
   rw[hx]at hq;obtain⟨w,g1,rfl⟩:=zoj hq;exact⟨_,by simp only[q,zih h hx,qaa,g1],.lit _⟩
 | conv k x=>
  simp only[qL]at hq;cases hx:zjB (evD S.env x)with
  | none=>rw[hx]at hq; cases hq
  | some u=>rw[hx]at hq; cases hq; exact⟨_,by simp only[q,zdM h hx],.lit _⟩
 | len x=>
  simp only[qL]at hq;cases hx:evD S.env x with
  | none=>rw[hx]at hq; cases hq
  | some e=>
   rw[hx]at hq;obtain⟨v,g1,g2⟩:=zac h hx;obtain⟨v',g3,g4⟩:=zt3 h.heap g2 hq;exact⟨v',by simp only[q,g1,qaa,g3],g4⟩
 | mm b xs=>
  simp only[qL]at hq;cases hx:zhi S.env xs with
  | none=>rw[hx]at hq; cases hq
  | some l=>
   rw[hx]at hq;obtain⟨vs,g1,g2⟩:=zb7 h hx;simp only at hq;split at hq
   .rename_i v vs' hl;obtain⟨w,g3,rfl⟩:=zoj hq;rw[zqQ hl g2]at g1;exact⟨_,by simp only[q,g1,g3],.lit _⟩
   .cases hq
 | ext x j=>
  simp only[qL]at hq;split at hq
  .rename_i ds hx;obtain⟨v,g1,g2⟩:=zac h hx;cases g2 with
   | tup k1 k2=>
    obtain⟨v',e1,e2⟩:=Rs.get ⟨k1,k2⟩ hq;exact⟨v',by simp[q,g1,e1],e2⟩
  .cases hq
 | slc n x lo hi mx=>
  simp only[qL]at hq;cases hx:evD S.env x with
  | none=>rw[hx]at hq; cases hq
  | some e=>
   rw[hx]at hq;cases h1:zhK S.env lo with
   | none=>rw[h1]at hq; cases hq
   | some l=>
    rw[h1]at hq;cases h2:zhK S.env hi with
    | none=>rw[h2]at hq; cases hq
    | some hh=>
     rw[h2]at hq;cases h3:zhK S.env mx with
     | none=>rw[h3]at hq; cases hq
     | some m=>
      rw[h3]at hq;obtain⟨v,g1,g2⟩:=zac h hx;obtain⟨v',g3,g4⟩:=zuQ h.heap g2 hq;exact⟨v',by simp only[q,g1,zkx h h1,zkx h h2,zkx h h3,zmS g3],g4⟩
 | nilck x=>
  simp only[qL]at hq;split at hq
  .rename_i hx;obtain⟨v,g1,g2⟩:=zac h hx;cases hq;refine⟨v,?_,g2⟩;cases g2;simp only[q,g1]
  .rename_i hx;obtain⟨v,g1,g2⟩:=zac h hx;cases hq;refine⟨v,?_,g2⟩;cases g2;simp only[q,g1]
  .rename_i hx;obtain⟨v,g1,g2⟩:=zac h hx;cases hq;refine⟨v,?_,g2⟩;cases g2;simp only[q,g1]
  .rename_i β n i off st hx;obtain⟨v,g1,g2⟩:=zac h hx;cases he:zeg S.heap β n st with
   | none=>rw[he]at hq; cases hq
   | some es=>
    rw[he]at hq;cases hq;obtain⟨b',vs,q1,e,_⟩:=zq6 h.heap he g2;subst e;exact⟨_,by simp only[q,g1],g2⟩
  .cases hq
 | clo f xs ys=>
  simp only[qL]at hq;cases hx:zhi S.env xs with
  | none=>rw[hx]at hq; cases hq
  | some l=>
   rw[hx]at hq;cases hy:zhi S.env ys with
   | none=>rw[hy]at hq; cases hq
   | some l'=>
    rw[hy]at hq;cases hq;obtain⟨vs,g1,g2⟩:=zb7 h hx;obtain⟨us,g3,g4⟩:=zb7 h hy;exact⟨_,by simp only[q,g1,g3],.clo g2.1 g4.1 g2.2 g4.2⟩
 | mkI t x=>
  simp only[qL]at hq;cases hx:evD S.env x with
  | none=>rw[hx]at hq; cases hq
  | some e=>
   rw[hx]at hq;cases hq;obtain⟨v,g1,g2⟩:=zac h hx;exact⟨_,by simp only[q,g1,qaM],.ifc g2⟩
 | _=>cases hq
end
end Go.Lx
