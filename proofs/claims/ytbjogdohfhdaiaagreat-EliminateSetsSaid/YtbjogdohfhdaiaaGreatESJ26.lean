/-
 Trees: what an operation that leaves memory alone yields. Conditions: none.
-/
import Derived.Test.YtbjogdohfhdaiaaGreatESJ25
set_option linter.unusedSimpArgs false
set_option linter.unusedVariables false
namespace Go.Lx
open Go Go.Mx
def evD(E:List (Nat×D)):X→Option D
 | .c v=>some (.lit v)
 | .s k=>lk E k
 | .f f=>some (.clo f [] [])
def zhw(E:List (Nat×D)):List X→Option (List D)
 | []=>some []
 | x :: r=>match evD E x with
  | some v=>(match zhw E r with
   | some vs=>some (v :: vs)
   | none=>none)
  | none=>none
def zjC:Option D→Option Int
 | some (.lit (.int _ n))=>some n
 | _=>none
def zfV:Option D→Option Bool
 | some (.lit (.bool b))=>some b
 | _=>none
def zhu(E:List (Nat×D)):Option X→Option (Option Int)
 | none=>some none
 | some x=>match zjC (evD E x)with
  | some n=>some (some n)
  | none=>none
def D.cells:D→Option (List D)
 | .lit v=>bif zfA v then some [.lit v]else none
 | .agg ds=>some ds
 | .tup _=>none
 | .any=>none
 | d=>some [d]
def zpZ(o n:Nat)(cs:List D):Option (List D):=if o+n≤cs.length then some ((cs.drop o).take n)else none
def zfZ(cs:List D)(o:Nat):Option Nat→Option D
 | none=>cs[o]?
 | some n=>match zpZ o n cs with
  | some l=>some (.agg l)
  | none=>none
def zoN(cs:List D)(off:Nat)(ns:List D):List D:=cs.take off ++ ns ++ cs.drop (off+ns.length)
def zb9:Option D→Option (List D)
 | some d=>d.cells
 | none=>none
def zkn(E:List (Nat×D))(cs:List D):List (Nat×Nat×X)→Option (List D)
 | []=>some cs
 |(off,n,x):: r=>match zb9 (evD E x)with
  | some l=>if l.length=n∧off+n≤cs.length then zkn E (zoN cs off l) r else none
  | none=>none
def zd2(L:List LB)(β n st:Nat):Option (List (List D)):=
 match L[β]? with
 | some (.els n' es)=>if n=n'∧st=es.length then some es else none
 | some (.grow n' es)=>if n=n'∧st=es.length then some es else none
 | _=>none
def ztQ:Option V→Option D
 | some (.lit v)=>some (.lit v)
 | _=>none
def zqw:Option D→Option V
 | some (.lit v)=>some (.lit v)
 | _=>none
def zyL:List D→List D→Option Bool
 | [],[]=>some true
 | .lit (.int k a):: vs,.lit (.int k' b):: ws=>(match k == k' with
  | true=>(match zyL vs ws with
   | some r=>some ((a == b) && r)
   | none=>none)
  | false=>none)
 | _,_=>none
def zhS:List D→Option (List V)
 | []=>some []
 | .lit v :: r=>match zhS r with
  | some l=>some (.lit v :: l)
  | none=>none
 | _=>none
def zqv(L:List LB):D→Option D
 | .lit (.slice none 0 0)=>some (.lit (.int .i64 0))
 | .sl β s n len cap st=>(match zd2 L β n st with
  | some _=>some (.lit (.int .i64 len))
  | none=>none)
 | .fz _ _ els=>some (.lit (.int .i64 els.length))
 | .z0 _ _=>some (.lit (.int .i64 0))
 | _=>none
def zxV(t:Bool)(n:Nat)(els:List (List D))(lo hi mx:Option Int):Option D:=
 if decide (hi.getD els.length≤els.length) && decide (mx.getD els.length≤els.length)then
  match bounds els.length (some els.length) lo hi mx with
  | some (l,h,c)=>if mx.isSome && (c == some 0) && !(els.length == 0)then some (.z0 t n)else some (.fz t n ((els.drop l).take (h - l)))
  | none=>none
 else none
def zqr(L:List LB)(n:Nat)(lo hi mx:Option Int):D→Option D
 | .lit (.slice none 0 0)=>(match bounds 0 (some 0) lo hi mx with
  | some _=>some (.lit (.slice none 0 0))
  | none=>none)
 | .sl β s n' len cap st=>if n=n' then(match zd2 L β n st with
  | some _=>(match bounds len cap lo hi mx with
   | some (l,h,c)=>if mx=none then some (.sl β (s+l) n (h - l) c st)else none
   | none=>none)
  | none=>none)else none
 | .fz t n' els=>if n=n' then zxV t n els lo hi mx else none
 | _=>none
def zkI(L:List LB)(n:Option Nat):D→Option D
 | .ptr β o=>(match L[β]? with
  | some (.cells ds)=>zfZ ds o n
  | _=>none)
 | .eptr β n' i off st=>(match zd2 L β n' st with
  | some es=>(match es[i]? with
   | some cells=>zfZ cells off n
   | none=>none)
  | none=>none)
 | .fptr t ds=>zfZ ds 0 n
 | _=>none
def zqh(L:List LB)(off:Nat):D→Option D
 | .ptr β o=>some (.ptr β (o+off))
 | .eptr β n i o st=>(match zd2 L β n st with
  | some _=>some (.eptr β n i (o+off) st)
  | none=>none)
 | .fptr t ds=>if off≤ds.length then some (.fptr t (ds.drop off))else none
 | _=>none
def zv4(L:List LB)(n:Nat)(m:Int):D→Option D
 | .sl β s n' len cap st=>if n=n'∧0≤m∧m<len then(match zd2 L β n st with
  | some _=>some (.eptr β n (s+m.toNat) 0 st)
  | none=>none)else none
 | .fz t n' els=>if n=n'∧0≤m then(match els[m.toNat]? with
  | some cells=>some (.fptr t cells)
  | none=>none)else none
 | _=>none
def yB(L:List LB):D→Option (Option Nat)
 | .lit (.slice none 0 0)=>some none
 | .ptr β _=>some (some β)
 | .eptr β n _ _ st=>match zd2 L β n st with
  | some _=>some (some β)
  | none=>none
 | .sl β _ n _ _ st=>match zd2 L β n st with
  | some _=>some (some β)
  | none=>none
 | _=>none
def xB(L:List LB)(β:Nat):D→Bool
 | .fptr _ _=>true
 | .ptr γ _=>match L[γ]? with
  | some (.cells _)=>!(γ == β)
  | _=>false
 | .eptr γ n _ _ st=>match zd2 L γ n st with
  | some _=>!(γ == β)
  | none=>false
 | _=>false
def xBs(L:List LB)(β:Nat):List D→Bool
 | []=>true
 | d :: r=>match xB L β d with
  | true=>xBs L β r
  | false=>false
def qL(L:List LB)(E:List (Nat×D)):I→Option D
 | .mov x=>evD E x
 | .avo xs y=>(match evD E y with
  | some d=>(match yB L d with
   | some none=>some (.lit (.tuple #[]))
   | some (some β)=>(match zhw E xs with
    | some ds=>(match xBs L β ds with
     | true=>some (.lit (.tuple #[]))
     | false=>none)
    | none=>none)
   | none=>none)
  | none=>none)
 | .pick c a b=>(match zfV (evD E c)with
  | some true=>evD E a
  | some false=>evD E b
  | none=>none)
 | .build z parts=>(match zkn E (z.map .lit) parts with
  | some l=>some (.agg l)
  | none=>none)
 | .load n x=>(match evD E x with
  | some d=>zkI L n d
  | none=>none)
 | .fld off x=>(match evD E x with
  | some d=>zqh L off d
  | none=>none)
 | .idxS n x i=>(match evD E x with
  | some d=>(match zjC (evD E i)with
   | some m=>zv4 L n m d
   | none=>none)
  | none=>none)
 | .idxA n cnt x i=>(match evD E x with
  | some d=>(match zjC (evD E i)with
   | some m=>if 0≤m∧m<cnt then zqh L (m.toNat * n) d else none
   | none=>none)
  | none=>none)
 | .idxV n cnt x i=>(match evD E x with
  | some (.agg ds)=>(match zjC (evD E i)with
   | some m=>if 0≤m∧m<cnt then zfZ ds (m.toNat * n.getD 1) n else none
   | none=>none)
  | _=>none)
 | .part n off x=>(match evD E x with
  | some (.agg ds)=>zfZ ds off n
  | _=>none)
 | .bin op x y=>(match zqw (evD E x)with
  | some u=>(match zqw (evD E y)with
   | some u'=>ztQ (zlm op u u')
   | none=>none)
  | none=>none)
 | .eqb neg x y=>(match zfV (evD E x)with
  | some a=>(match zfV (evD E y)with
   | some b=>some (.lit (.bool (bif neg then !(a == b)else(a == b))))
   | none=>none)
  | none=>none)
 | .eqa n neg x y=>(match evD E x with
  | some (.agg ds)=>(match evD E y with
   | some (.agg es)=>(match Nat.beq ds.length n && Nat.beq es.length n with
    | true=>(match zyL ds es with
     | some b=>some (.lit (.bool (bif neg then !b else b)))
     | none=>none)
    | false=>none)
   | _=>none)
  | _=>none)
 | .eqn neg x=>(match evD E x with
  | some (.lit (.slice none 0 0))=>some (.lit (.bool !neg))
  | some (.sl β s n len cap st)=>(match zd2 L β n st with
   | some es=>if es.length=0 then none else some (.lit (.bool neg))
   | none=>none)
  | some (.fz t n els)=>if els.length=0 then none else some (.lit (.bool neg))
  | _=>none)
 | .eqi neg x=>(match evD E x with
  | some (.lit .nilIface)=>some (.lit (.bool !neg))
  | some (.ifc ..)=>some (.lit (.bool neg))
  | _=>none)
 | .eqp neg x=>(match evD E x with
  | some (.lit (.pointer none))=>some (.lit (.bool !neg))
  | some (.ptr ..)=>some (.lit (.bool neg))
  | some (.fptr ..)=>some (.lit (.bool neg))
  | _=>none)
 | .un op x=>(match zqw (evD E x)with
  | some u=>ztQ (unV op u)
  | none=>none)
 | .conv k x=>(match zjC (evD E x)with
  | some m=>some (.lit (.int k (k.wrap m)))
  | none=>none)
 | .len x=>(match evD E x with
  | some d=>zqv L d
  | none=>none)
 | .mm b xs=>(match zhw E xs with
  | some l=>(match zhS l with
   | some (v :: vs)=>ztQ (mms b v vs)
   | _=>none)
  | _=>none)
 | .ext x i=>(match evD E x with
  | some (.tup vs)=>vs[i]?
  | _=>none)
 | .slc n x lo hi mx=>(match evD E x with
  | some d=>(match zhu E lo with
   | some l=>(match zhu E hi with
    | some h=>(match zhu E mx with
     | some m=>zqr L n l h m d
     | none=>none)
    | none=>none)
   | none=>none)
  | none=>none)
 | .nilck x=>(match evD E x with
  | some (.ptr β o)=>some (.ptr β o)
  | some (.fptr t ds)=>some (.fptr t ds)
  | some (.clo f a b)=>some (.clo f a b)
  | some (.eptr β n i off st)=>(match zd2 L β n st with
   | some _=>some (.eptr β n i off st)
   | none=>none)
  | _=>none)
 | .clo f first cap=>(match zhw E first with
  | some vs=>(match zhw E cap with
   | some vs'=>some (.clo f vs vs')
   | none=>none)
  | none=>none)
 | .mkI t x=>(match evD E x with
  | some d=>some (.ifc t d)
  | none=>none)
 | _=>none
section
variable {c:Cx} {S:LSt} {M:St} {L:List LB} {H:zaj}
theorem zad(h:Rel c S M){x:X}{d:D}(he:evD S.env x=some d):∃ v,ev M.env x=some v∧R c d v:=by
 cases x with
 | s k=>exact h.env k d he
 | c v=>cases he; exact⟨_,rfl,.lit v⟩
 | f f=>cases he; exact⟨_,rfl,.clo rfl rfl (by simp) (by simp)⟩
theorem zbZ(h:Rel c S M):∀ {xs:List X} {ds:List D},zhw S.env xs=some ds→∃ vs,evs M.env xs=some vs∧Rs c ds vs
 | [],ds,he=>by cases he; exact⟨[],rfl,Rs.nil c⟩
 | x :: r,ds,he=>by
  simp only[zhw]at he;cases h1:evD S.env x with
  | none=>rw[h1]at he; cases he
  | some d=>
   cases h2:zhw S.env r with
   | none=>rw[h1,h2]at he; cases he
   | some ds'=>
    rw[h1,h2]at he;cases he;obtain⟨v,g1,g2⟩:=zad h h1;obtain⟨vs,g3,g4⟩:=zbZ h h2;exact⟨v :: vs,by simp only[evs,g1,g3],g4.cons g2⟩
theorem ziF{d:V}{v:Value}(hr:R c (.lit v) d):d=.lit v:=by cases hr; rfl
theorem zdB(h:Rel c S M){x:X}{n:Int}(he:zjC (evD S.env x)=some n):evI M.env x=some n:=by
 cases h1:evD S.env x with
 | none=>rw[h1]at he; cases he
 | some d=>
  rw[h1]at he;obtain⟨v,g1,g2⟩:=zad h h1;unfold zjC at he;split at he
  ·rename_i heq; cases heq; cases he; cases ziF g2; simp[evI,g1]
  cases he
theorem zff(h:Rel c S M){x:X}{b:Bool}(he:zfV (evD S.env x)=some b):evB M.env x=some b:=by
 cases h1:evD S.env x with
 | none=>rw[h1]at he; cases he
 | some d=>
  rw[h1]at he;obtain⟨v,g1,g2⟩:=zad h h1;unfold zfV at he;split at he
  ·rename_i heq; cases heq; cases he; cases ziF g2; simp[evB,g1]
  cases he
theorem zj2(h:Rel c S M){x:Option X}{n:Option Int}(he:zhu S.env x=some n):zpQ M.env x=some n:=by
 cases x with
 | none=>cases he; rfl
 | some x=>
  simp only[zhu]at he;cases h1:zjC (evD S.env x)with
  | none=>rw[h1]at he; cases he
  | some m=>rw[h1]at he; cases he; simp[zpQ,zdB h h1]
theorem zij(h:Rel c S M){x:X}{u:V}(he:zqw (evD S.env x)=some u):ev M.env x=some u:=by
 cases h1:evD S.env x with
 | none=>rw[h1]at he; cases he
 | some d=>
  rw[h1]at he;obtain⟨v,g1,g2⟩:=zad h h1;unfold zqw at he;split at he
  ·rename_i heq; cases heq; cases he; cases ziF g2; exact g1
  cases he
theorem zjK:∀ {ds es:List D} {vs ws:List V} {b:Bool},zyL ds es=some b→Rs c ds vs→Rs c es ws→ztS vs ws=some b
 | [],es,vs,ws,b,he,h1,h2=>by
  cases es with
  | nil=>
   cases vs with
   | nil=>cases ws with
    | nil=>exact he
    | cons=>have:=h2.1; simp at this
   | cons=>have:=h1.1; simp at this
  | cons=>cases he
 | d :: ds,es,vs,ws,b,he,h1,h2=>by
  cases es with
  | nil=>simp[zyL]at he
  | cons e es=>
  obtain⟨v,vs',rfl,r1,t1⟩:=h1.inv;obtain⟨w,ws',rfl,r2,t2⟩:=h2.inv;unfold zyL at he;split at he
  ·rename_i a1 a2; cases a1
  ·rename_i k x ds' k' y es' a1 a2;cases a1;cases a2;split at he
   ·rename_i hk;split at he
    ·rename_i r hr;cases ziF r1;cases ziF r2;unfold ztS;simp only[hk,cond_true,zjK hr t1 t2];exact he
    cases he
   cases he
  cases he
theorem zpx{ds:List D}{us vs:List V}(he:zhS ds=some us)(hr:Rs c ds vs):vs=us:=by
 induction ds generalizing us vs with
 | nil=>cases he; have:=hr.1; cases vs with | nil=>rfl | cons _ _=>simp at this
 | cons d ds ih=>
  obtain⟨v,vs',rfl,h1,h2⟩:=hr.inv;unfold zhS at he;split at he
  ·rename_i heq; cases heq
  ·rename_i u r heq;cases heq;cases h3:zhS ds with
   | none=>rw[h3]at he; cases he
   | some l=>rw[h3]at he; cases he; rw[ih h3 h2,ziF h1]
  cases he
theorem znm{o:Option V}{d:D}(h:ztQ o=some d):∃ v,o=some (.lit v)∧d=.lit v:=by
 unfold ztQ at h;split at h
 ·cases h; exact⟨_,rfl,rfl⟩
 cases h
theorem zeh{v:V}(h:v.one=true):v.cells=some [v]:=by
 cases v<;>simp_all [V.one,V.cells]
theorem znZ{d:D}{v:V}(hr:R c d v){l:List D}(hl:d.cells=some l):∃ l',v.cells=some l'∧Rs c l l':=by
 have one:∀ {d:D} {v:V},R c d v→v.one=true→∃ l',v.cells=some l'∧Rs c [d] l':=fun h h1=>⟨_,zeh h1,(Rs.nil c).cons h⟩
 cases hr with
 | any v=>cases hl
 | lit v=>
  cases hv:zfA v with
  | false=>simp[D.cells,hv]at hl
  | true=>simp[D.cells,hv]at hl; subst hl; exact one (.lit v) hv
 | ptr h1=>cases hl; exact one (.ptr h1) rfl
 | eptr h1 h2=>
  cases hl;refine one (.eptr h1 h2) ?_;rcases h2 with⟨_,h2⟩| ⟨_,rfl⟩
  ·exact h2
  ·rfl
 | sl h1 h2=>
  cases hl;refine one (.sl h1 h2) ?_;rcases h2 with⟨_,h2⟩| ⟨_,rfl⟩
  ·exact h2
  ·rfl
 | slg h1=>cases hl; exact one (.slg h1) rfl
 | fz h1 h2 h3 h4 h5 h6=>cases hl; exact one (.fz h1 h2 h3 h4 h5 h6) rfl
 | fz0=>cases hl; exact one .fz0 rfl
 | fzn=>cases hl; exact one .fzn rfl
 | z0 h1 h2=>cases hl; exact one (.z0 h1 h2) rfl
 | z0n=>cases hl; exact one .z0n rfl
 | fptr h1 h2 h3=>cases hl; exact one (.fptr h1 h2 h3) rfl
 | clo h1 h2 h3 h4=>cases hl; exact one (.clo h1 h2 h3 h4) rfl
 | yld h1=>cases hl; exact one (.yld h1) rfl
 | ifc h1=>cases hl; exact one (.ifc h1) rfl
 | agg h1 h2=>cases hl; exact⟨_,rfl,h1,h2⟩
 | tup h1 h2=>cases hl
theorem zdS(h:Rel c S M){x:X}{l:List D}(he:zb9 (evD S.env x)=some l):∃ l',(ev M.env x).bind V.cells=some l'∧Rs c l l':=by
 cases h1:evD S.env x with
 | none=>rw[h1]at he; cases he
 | some d=>
  rw[h1]at he;obtain⟨v,g1,g2⟩:=zad h h1;obtain⟨l',g3,g4⟩:=znZ g2 he;exact⟨l',by rw[g1]; exact g3,g4⟩
theorem zpC{ds l:List D}{vs:List V}(hr:Rs c ds vs){o n:Nat}(hs:zpZ o n ds=some l):∃ l',slot o n vs=some l'∧Rs c l l':=by
 unfold zpZ at hs;split at hs
 ·rename_i hle;cases hs;refine⟨_,?_,(hr.drop o).take n⟩;unfold slot;rw[qas (by rw[← hr.1]; exact hle),cond_true]
 cases hs
theorem zcs{ds:List D}{vs:List V}(hr:Rs c ds vs){o:Nat}{n:Option Nat}{d:D}(ht:zfZ ds o n=some d):∃ v,takeN vs o n=some v∧R c d v:=by
 cases n with
 | none=>exact hr.get ht
 | some n=>
  simp only[zfZ]at ht;cases hs:zpZ o n ds with
  | none=>rw[hs]at ht; cases ht
  | some l=>
   rw[hs]at ht;cases ht;obtain⟨l',g1,g2⟩:=zpC hr hs;exact⟨.agg l',by simp[takeN,g1],.agg g2.1 g2.2⟩
theorem zlE{vs:List V}{a m o:Nat}{n:Option Nat}{v:V}(ha:a≤vs.length)(ht:takeN ((vs.drop a).take m) o n=some v):takeN vs (a+o) n=some v:=by
 cases n with
 | none=>
  simp only[takeN,qau,qay]at ht ⊢;split at ht
  ·exact ht
  ·cases ht
 | some n=>
  simp only[takeN,slot]at ht ⊢;cases hb:Nat.ble (o+n) ((vs.drop a).take m).length with
  | false=>rw[hb]at ht; cases ht
  | true=>
   rw[hb]at ht;have hle:=qai hb;simp only[qbD,qb6]at hle;rw[qas (by omega:a+o+n≤vs.length)];simp only[cond_true,qaU,qad]at ht ⊢;rw[← ht,List.drop_take,List.drop_drop,List.take_take,qb0 (by omega)]
theorem zhJ{n:Nat}:∀ {es:List (List D)},(∀ cells,cells∈es→cells.length=n)→es.flatten.length=es.length * n
 | [],_=>by simp
 | e :: es,h=>by
  rw[qbx,qaF,zhJ fun x hx=>h x (qaj _ hx),h e (by simp),qaS,qb1];omega
theorem zlX{n:Nat}:∀ {es:List (List D)} (s:Nat),(∀ cells,cells∈es→cells.length=n)→es.flatten.drop (s * n)=(es.drop s).flatten
 | es,0,_=>by simp
 | [],s+1,_=>by simp
 | e :: es,s+1,h=>by
  have he:=h e (by simp);rw[qbx,List.drop_succ_cons,← zlX s fun x hx=>h x (qaj _ hx),qb1,List.drop_append,he,qc3 (by omega),qbr];congr 1
  omega
theorem zlo{n:Nat}:∀ {es:List (List D)} (s:Nat),(∀ cells,cells∈es→cells.length=n)→es.flatten.take (s * n)=(es.take s).flatten
 | es,0,_=>by simp
 | [],s+1,_=>by simp
 | e :: es,s+1,h=>by
  have he:=h e (by simp);rw[qbx,qcc,qbx,← zlo s fun x hx=>h x (qaj _ hx),qb1,List.take_append,he,qaW (by omega)];congr 2
  omega
theorem Els.zk7{n:Nat}{es:List (List D)}{vs:List V}(h:Els c n es vs):vs.length=es.length * n:=by rw[← h.rel.1,zhJ h.len]
theorem zk3{α:Type}{l:List α}{x:α}{a b:Nat}(h:x∈(l.drop a).take b):x∈l:=qco (List.mem_of_mem_take h)
theorem Els.sub{n:Nat}{es:List (List D)}{vs:List V}(h:Els c n es vs)(s len:Nat):Els c n ((es.drop s).take len) ((vs.drop (s * n)).take (len * n)):=by
 refine⟨fun x hx=>h.len x (zk3 hx),?_⟩;rw[← zlo len fun x hx=>h.len x (qco hx),← zlX s h.len];exact(h.rel.drop _).take _
theorem Els.append{n:Nat}{es es':List (List D)}{vs vs':List V}(h:Els c n es vs)(h':Els c n es' vs'):Els c n (es ++ es') (vs ++ vs'):=by
 refine⟨fun x hx=>?_,by rw[List.flatten_append]; exact h.rel.append h'.rel⟩;rcases qa9.1 hx with hx | hx
 ·exact h.len x hx
 exact h'.len x hx
theorem Els.one{cells:List D}{vs:List V}(h:Rs c cells vs):Els c cells.length [cells] vs:=⟨by simp,by simpa using h⟩
theorem Els.nil(n:Nat):Els c n [] []:=⟨by simp,Rs.nil c⟩
theorem Els.at_{n:Nat}{es:List (List D)}{vs:List V}(h:Els c n es vs){i:Nat}{cells:List D}(hi:es[i]? = some cells):Rs c cells ((vs.drop (i * n)).take n):=by
 have h1:=(h.sub i 1).rel;have h2:(es.drop i).take 1=[cells]:=by
  have hil:=(qab.1 hi);obtain⟨hl,hil⟩:=hil;rw[qaG hl,qcc,qbW,hil]
 rw[h2,qba]at h1;simpa using h1
theorem Els.take{n:Nat}{es:List (List D)}{vs:List V}(h:Els c n es vs)(k:Nat):Els c n (es.take k) (vs.take (k * n)):=by
 have:=h.sub 0 k;simpa using this
theorem Els.drop{n:Nat}{es:List (List D)}{vs:List V}(h:Els c n es vs)(k:Nat):Els c n (es.drop k) (vs.drop (k * n)):=by
 have:=h.sub k es.length;rw[qaW (by simp),qaW (by rw[qb6,h.zk7]; omega)]at this;exact this
theorem zcz(h:Rel c S M):∀(parts:List (Nat×Nat×X)) {cs l:List D} {vs:List V},zkn S.env cs parts=some l→Rs c cs vs→∃ l',zeY M.env vs parts=some l'∧Rs c l l'
 | [],cs,l,vs,he,hr=>by cases he; exact⟨vs,rfl,hr⟩
 |(off,n,x):: r,cs,l,vs,he,hr=>by
  simp only[zkn]at he;cases h1:zb9 (evD S.env x)with
  | none=>rw[h1]at he; cases he
  | some k=>
   rw[h1]at he;simp only at he;split at he
   ·rename_i hc;obtain⟨k',g1,g2⟩:=zdS h h1;have hp:Rs c (zoN cs off k) (zbi vs off k'):=by
     unfold zoN zbi;rw[← g2.1];exact((hr.take off).append g2).append (hr.drop _)
    obtain⟨l',g3,g4⟩:=zcz h r he hp;refine⟨l',?_,g4⟩;rw[zeY,g1];have e1:(k'.length == n)=true:=by rw[← g2.1,hc.1]; simp
    have e2:Nat.ble (off+n) vs.length=true:=qas (by rw[← hr.1]; exact hc.2);simp only[e1,e2,qcW,cond_true];exact g3
   cases he
theorem zdz(h:RelH c L H){β n st:Nat}{es:List (List D)}(he:zd2 L β n st=some es):
  0<n∧st=es.length∧(L[β]? = some (.els n es)∨L[β]? = some (.grow n es))∧((es=[]∧c.ρ β=some .ghost)∨∃ b vs,c.ρ β=some (.list b st)∧H[b]? = some (.blk vs)∧Els c n es vs):=by
 unfold zd2 at he;split at he
 ·rename_i n' es' heq;split at he
  ·rename_i hc;cases he;obtain⟨rfl,hc⟩:=hc;obtain⟨g0,g1 | ⟨b,vs,g1,g2,g3⟩⟩:=h.obj β _ heq
   ·exact⟨g0,hc,.inl heq,.inl g1⟩
   exact⟨g0,hc,.inl heq,.inr ⟨b,vs,by rw[hc]; exact g1,g2,g3⟩⟩
  cases he
 ·rename_i n' es' heq;split at he
  ·rename_i hc;cases he;obtain⟨rfl,hc⟩:=hc;obtain⟨g0,g1 | ⟨g,b,vs,g1,g2,g3⟩⟩:=h.obj β _ heq
   ·exact⟨g0,hc,.inr heq,.inl g1⟩
   exact⟨g0,hc,.inr heq,.inr ⟨b,vs,by rw[hc]; exact g1,g2,g3⟩⟩
  cases he
 cases he
theorem slR(h:RelH c L H){β s n len st:Nat}{cap:Option Nat}{es:List (List D)}(he:zd2 L β n st=some es){v:V}(hr:R c (.sl β s n len cap st) v):
  (∃ b vs,c.ρ β=some (.list b st)∧v=.sl b (s * n) n len cap∧H[b]? = some (.blk vs)∧Els c n es vs)∨(v=.lit (.slice none 0 0)∧s=0∧len=0∧cap=none∧st=0∧es=[]∧c.ρ β=some .ghost):=by
 obtain⟨h1,h2,h3,h4⟩:=zdz h he;rcases h4 with⟨k1,k2⟩| ⟨b,vs,k1,k2,k3⟩
 ·cases hr with
  | sl g1 g2=>rw[k2]at g1; cases g1
  | slg g1=>exact .inr ⟨rfl,rfl,rfl,rfl,rfl,k1,k2⟩
 cases hr with
 | sl g1 g2=>
  rw[k1]at g1;cases g1;rcases g2 with⟨g2,_⟩| ⟨_,g2⟩
  ·omega
  ·exact .inl ⟨b,vs,k1,g2,k2,k3⟩
 | slg g1=>rw[k1]at g1; cases g1
theorem zqk(h:RelH c L H){β i n off st:Nat}{es:List (List D)}(he:zd2 L β n st=some es){v:V}(hr:R c (.eptr β n i off st) v):∃ b vs,c.ρ β=some (.list b st)∧v=.ptr b (i * n+off)∧H[b]? = some (.blk vs)∧Els c n es vs:=by
 obtain⟨h1,h2,h3,h4⟩:=zdz h he;cases hr with
 | eptr g1 g2=>
  rcases h4 with⟨k1,k2⟩| ⟨b,vs,k1,k2,k3⟩
  ·rw[k2]at g1; cases g1
  rw[k1]at g1;injection g1 with g1
  injection g1 with g1 g1'
  subst g1;subst g1';rcases g2 with⟨g2,_⟩| ⟨_,g2⟩
  ·omega
  exact⟨b,vs,k1,g2,k2,k3⟩
end
section
variable {c:Cx} {S:LSt} {M:St} {L:List LB} {H:zaj}
theorem zbx{β:Nat}{cs:List V}(hh:H[β]? = some (.blk cs)):zaq H β=some cs:=by simp[zaq,hh]
theorem zxJ(h:RelH c L H){t:Bool}{ds:List D}{b o:Nat}{cs:List V}(h1:c.look t b=some cs)(h2:o+ds.length≤cs.length)(h3:∀(k:Nat) d v,ds[k]? = some d→cs[o+k]? = some v→R (c.frz t) d v):
  Rs c ds ((cs.drop o).take ds.length):=by
 refine⟨by simp; omega,fun k d v g1 g2=>?_⟩;simp only[qau,qay]at g2;split at g2
 ·exact(h3 k d v g1 g2).zt4 h.apart
 cases g2
theorem zjA(h:RelH c L H){n:Option Nat}{d d':D}{v:V}(hr:R c d v)(hl:zkI L n d=some d'):∃ v',(match v with | .ptr β o=>(zaq H β).bind fun cs=>takeN cs o n | _=>none)=some v'∧R c d' v':=by
 cases d with
 | ptr β o=>
  cases hr with
  | ptr g1=>
   simp only[zkI]at hl;split at hl
   ·rename_i ds heq;obtain⟨b,vs,k1,k2,k3⟩:=h.obj β _ heq;rw[g1]at k1;cases k1;obtain⟨v',e1,e2⟩:=zcs k3 hl;exact⟨v',by simp only[zbx k2,qaa]; exact e1,e2⟩
   ·cases hl
 | eptr β n' i off st=>
  simp only[zkI]at hl;cases he:zd2 L β n' st with
  | none=>rw[he]at hl; cases hl
  | some es=>
   rw[he]at hl;simp only at hl;obtain⟨b,vs,k1,rfl,k3,k6⟩:=zqk h he hr;cases hi:es[i]? with
   | none=>rw[hi]at hl; cases hl
   | some cells=>
    rw[hi]at hl;obtain⟨v',e1,e2⟩:=zcs (k6.at_ hi) hl;refine⟨v',?_,e2⟩;simp only[zbx k3,qaa];have hil:i<es.length:=(qab.1 hi).1;have h1:i * n'≤es.length * n':=qar n' (by omega);exact zlE (by rw[k6.zk7]; exact h1) e1
 | fptr t ds=>
  cases hr with
  | fptr h1 h2 h3=>
   simp only[zkI]at hl;obtain⟨v',e1,e2⟩:=zcs (zxJ h h1 h2 h3) hl;refine⟨v',?_,e2⟩;simp only[zbx (h.look h1),qaa];have:=zlE (by omega) e1
   rwa [qbt]at this
 | _=>cases hl
theorem zmI(h:RelH c L H){off:Nat}{d d':D}{v:V}(hr:R c d v)(hl:zqh L off d=some d'):∃ b o,v=.ptr b o∧R c d' (.ptr b (o+off)):=by
 cases d with
 | ptr β o=>
  cases hr with
  | ptr g1=>cases hl; exact⟨_,_,rfl,.ptr g1⟩
 | eptr β n' i o st=>
  simp only[zqh]at hl;cases he:zd2 L β n' st with
  | none=>rw[he]at hl; cases hl
  | some es=>
   rw[he]at hl;cases hl;obtain⟨b',vs,q1,rfl,_⟩:=zqk h he hr;exact⟨_,_,rfl,.eptr q1 (.inr ⟨rfl,by rw[qbp]⟩)⟩
 | fptr t ds=>
  cases hr with
  | fptr h1 h2 h3=>
   simp only[zqh]at hl;split at hl
   ·rename_i ho;cases hl;refine⟨_,_,rfl,.fptr h1 (by simp; omega) fun k d v g1 g2=>?_⟩;rw[qay]at g1;rw[qbp]at g2;exact h3 _ d v g1 g2
   ·cases hl
 | _=>cases hl
theorem ztk(h:RelH c L H){n:Nat}{m:Int}{d d':D}{v:V}(hr:R c d v)(hl:zv4 L n m d=some d'):
  ∃ v',(match v with | .sl β o n' len _=>bif (n == n') && decide (0≤m) && decide (m<len)then some (V.ptr β (o+m.toNat * n))else none | _=>none)=some v'∧R c d' v':=by
 cases d with
 | sl β s n' len cap st=>
  simp only[zv4]at hl;split at hl
  ·rename_i hc;obtain⟨rfl,hc1,hc2⟩:=hc;cases he:zd2 L β n st with
   | none=>rw[he]at hl; cases hl
   | some es=>
    rw[he]at hl;cases hl;rcases slR h he hr with⟨b',vs,q1,rfl,_⟩| ⟨rfl,_,rfl,_⟩
    rotate_left
    ·omega
    refine⟨_,by simp[hc1,hc2]; rfl,.eptr q1 (.inr ⟨rfl,by rw[qbt,qaI]⟩)⟩
  ·cases hl
 | fz t n' els=>
  simp only[zv4]at hl;split at hl
  ·rename_i hc;obtain⟨rfl,hc1⟩:=hc;cases hi:els[m.toNat]? with
   | none=>rw[hi]at hl; cases hl
   | some cells=>
    rw[hi]at hl;cases hl;have hil:=(qab.1 hi).1;cases hr with
    | fz h1 h2 h3 h4 h5 h6=>
     have h7:=h5 _ _ hi;have h8:m.toNat * n+n≤els.length * n:=by
      have:=qar n hil;rw[qb1]at this;exact this
     refine⟨_,?_,.fptr h1 (o:=_) ?_ fun k d v g1 g2=>h6 _ _ k d v hi g1 g2⟩
     ·have:m<els.length:=by omega
      simp[hc1,this]
     ·omega
    | fz0=>simp at hil
    | fzn=>simp at hil
  ·cases hl
 | _=>cases hl
theorem zq9(h:RelH c L H){d d':D}{v:V}(hr:R c d v)(hl:zqv L d=some d'):∃ v',zyf v=some v'∧R c d' v':=by
 cases d with
 | lit u=>
  cases ziF hr;unfold zqv at hl;split at hl<;>first | (cases hl; done)| skip
  ·rename_i heq; cases heq; cases hl; exact⟨_,rfl,.lit _⟩
  all_goals (rename_i heq; cases heq)
 | sl β s n len cap st=>
  simp only[zqv]at hl;cases he:zd2 L β n st with
  | some es=>
   rw[he]at hl;cases hl;rcases slR h he hr with⟨b',vs,q1,rfl,_⟩| ⟨rfl,_,rfl,_⟩
   ·exact⟨_,rfl,.lit _⟩
   ·exact⟨_,rfl,.lit _⟩
  | none=>rw[he]at hl; cases hl
 | fz t n els=>
  simp only[zqv]at hl;cases hl;cases hr with
  | fz h1 h2 h3 h4 h5 h6=>exact⟨_,rfl,.lit _⟩
  | fz0=>exact⟨_,rfl,.lit _⟩
  | fzn=>exact⟨_,rfl,.lit _⟩
 | z0 t n=>
  simp only[zqv]at hl;cases hl;cases hr with
  | z0 h1 h2=>exact⟨_,rfl,.lit _⟩
  | z0n=>exact⟨_,rfl,.lit _⟩
 | _=>cases hl
theorem zlB{n:Nat}{cap:Option Nat}(hcap:∀ k,cap=some k→n≤k){lo hi mx:Option Int}(hh:hi.getD n≤n)(hm:mx.getD n≤n){l h:Nat}{cc:Option Nat}(hb:bounds n (some n) lo hi mx=some (l,h,cc)):
  l≤h∧h≤n∧∃ c',bounds n cap lo hi mx=some (l,h,c')∧(∀ k,c'=some k→h - l≤k)∧(mx.isSome=true→c'=cc):=by
 have ht:(n:Int)≤zeF n cap:=by
  cases cap with
  | none=>exact qdi _
  | some k=>have:=hcap k rfl; simp only[zeF]; omega
 cases mx with
 | none=>
  simp only[bounds]at hb ⊢;cases hc:(decide (0≤lo.getD 0) && decide (lo.getD 0≤hi.getD n) && decide (hi.getD n≤zeF n (some n)))with
  | false=>rw[hc]at hb; cases hb
  | true=>
   rw[hc]at hb;simp only[qaf,decide_eq_true_eq]at hc;cases hb;have e1:(decide (0≤lo.getD 0) && decide (lo.getD 0≤hi.getD n) && decide (hi.getD n≤zeF n cap))=true:=by
    simp only[qaf,decide_eq_true_eq]; exact⟨hc.1,by omega⟩
   rw[e1];refine⟨by omega,by omega,_,rfl,fun k hk=>?_,fun h0=>by cases h0⟩;cases cap with
   | none=>cases hk
   | some q=>have:=hcap q rfl; simp only[qaU,qad]at hk; omega
 | some m=>
  simp only[bounds]at hb ⊢;simp only[qbd]at hm;cases hc:(hi.isSome && decide (0≤lo.getD 0) && decide (lo.getD 0≤hi.getD n) && decide (hi.getD n≤m) && decide (m≤zeF n (some n)))with
  | false=>rw[hc]at hb; cases hb
  | true=>
   rw[hc]at hb;simp only[qaf,decide_eq_true_eq]at hc;cases hb;have e1:(hi.isSome && decide (0≤lo.getD 0) && decide (lo.getD 0≤hi.getD n) && decide (hi.getD n≤m) && decide (m≤zeF n cap))=true:=by
    simp only[qaf,decide_eq_true_eq]; exact⟨hc.1,by omega⟩
   rw[e1];exact⟨by omega,by omega,_,rfl,fun k hk=>by simp only[qad]at hk; omega,fun _=>rfl⟩
theorem zra(h:RelH c L H){n:Nat}{lo hi mx:Option Int}{d d':D}{v:V}(hr:R c d v)(hl:zqr L n lo hi mx d=some d'):∃ v',zsC n lo hi mx v=some v'∧R c d' v':=by
 cases d with
 | lit u=>
  cases ziF hr;unfold zqr at hl;split at hl<;>first | (cases hl; done)| skip
  ·rename_i heq;cases heq;split at hl
   ·rename_i x hb; cases hl; exact⟨_,by simp[zsC,hb],.lit _⟩
   cases hl
  all_goals (rename_i heq; cases heq)
 | sl β s n' len cap st=>
  simp only[zqr]at hl;split at hl
  ·rename_i hn;subst hn;cases he:zd2 L β n st with
   | none=>rw[he]at hl; cases hl
   | some es=>
    rw[he]at hl;cases hb:bounds len cap lo hi mx with
    | none=>rw[hb]at hl; cases hl
    | some x=>
     obtain⟨l,hh,cc⟩:=x;rw[hb]at hl;simp only at hl;split at hl
     ·rename_i hmx;subst hmx;cases hl;rcases slR h he hr with⟨b',vs,q1,rfl,_⟩| ⟨rfl,rfl,rfl,rfl,rfl,_,q1⟩
      ·exact⟨_,by simp[zsC,hb]; rfl,.sl q1 (.inr ⟨rfl,by rw[qaI]⟩)⟩
      have hb':bounds 0 (some 0) lo hi none=some (l,hh,some (0 - l))∧l=0∧hh=0∧cc=none:=by
       simp only[bounds]at hb ⊢;cases hc:(decide (0≤lo.getD 0) && decide (lo.getD 0≤hi.getD ((0:Nat):Int)) && decide (hi.getD ((0:Nat):Int)≤zeF 0 none))with
       | false=>rw[hc]at hb; cases hb
       | true=>
        rw[hc]at hb;simp only[qaf,decide_eq_true_eq,zeF]at hc;cases hb;have e1:(decide (0≤lo.getD 0) && decide (lo.getD 0≤hi.getD ((0:Nat):Int)) && decide (hi.getD ((0:Nat):Int)≤zeF 0 (some 0)))=true:=by
         simp only[qaf,decide_eq_true_eq,zeF]; exact hc
        rw[e1];have hc3:hi.getD ((0:Nat):Int)≤0:=of_decide_eq_true hc.2;have hc1:=hc.1.1;have hc2:=hc.1.2;exact⟨rfl,by omega,by omega,rfl⟩
      obtain⟨e1,rfl,rfl,rfl⟩:=hb';exact⟨_,by simp[zsC,e1],.slg q1⟩
     cases hl
  ·cases hl
 | fz t n' els=>
  simp only[zqr]at hl;split at hl
  ·rename_i hn;subst hn;unfold zxV at hl;split at hl
   ·rename_i hc;simp only[qaf,decide_eq_true_eq]at hc;cases hb:bounds els.length (some els.length) lo hi mx with
    | none=>rw[hb]at hl; cases hl
    | some x=>
     obtain⟨l,hh,cc⟩:=x;rw[hb]at hl;simp only at hl;cases hr with
     | fz h1 h2 h3 h4 h5 h6=>
      rename_i b o cap cs;obtain⟨e1,e2,c',e3,e4,e5⟩:=zlB h3 hc.1 hc.2 hb;refine⟨.sl b (o+l * n) n (hh - l) c',by simp[zsC,e3],?_⟩;split at hl
      ·rename_i hz;simp only[qaf,beq_iff_eq]at hz;obtain⟨hz,_⟩:=hz;cases hl;have h0:=e5 hz.1;rw[hz.2]at h0;subst h0;have:=e4 0 rfl;have h9:hh - l=0:=by omega
       rw[h9];refine .z0 h1 ?_;have:l * n≤els.length * n:=qar n (by omega);omega
      ·cases hl;have hlen:((els.drop l).take (hh - l)).length=hh - l:=by simp; omega
       rw[show V.sl b (o+l * n) n (hh - l) c'=V.sl b (o+l * n) n ((els.drop l).take (hh - l)).length c' by rw[hlen]];refine .fz h1 h2 (by rw[hlen]; exact e4) ?_ (fun i cells hi=>?_) fun i cells k d v g1 g2 g3=>?_
       ·rw[hlen];have:l * n+(hh - l)* n≤els.length * n:=by rw[← qaI]; exact qar n (by omega)
        omega
       ·simp only[qau,qay]at hi;split at hi
        ·exact h5 _ _ hi
        cases hi
       ·simp only[qau,qay]at g1;split at g1
        ·refine h6 (l+i) cells k d v g1 g2 ?_;rw[← g3,qaI];congr 1
         omega
        ·cases g1
     | fz0=>
      rename_i b o cap;simp only[qa2]at hc hb hl;have hcz:∀ k,cap=some k→0≤k:=fun _ _=>qaC _
      obtain⟨e1,e2,c',e3,e4,e5⟩:=zlB hcz hc.1 hc.2 hb;refine⟨.sl b (o+l * n) n (hh - l) c',by simp[zsC,e3],?_⟩;have hl0:l=0:=by omega
      have hh0:hh=0:=by omega
      subst hl0;subst hh0;simp at hl;subst hl;exact .fz0
     | fzn=>
      simp only[qa2]at hc hb hl;refine⟨.lit (.slice none 0 0),by simp[zsC,hb],?_⟩;split at hl
      ·rename_i hz; simp at hz
      cases hl; simp; exact .fzn
   cases hl
  ·cases hl
 | _=>cases hl
theorem zu3(h:RelH c L H){d:D}{v:V}{o:Option Nat}(hr:R c d v)(hy:yB L d=some o):match o with
  | none=>zqt v=none
  | some β=>zqt v=none∨∃ b x,zqt v=some b∧c.ρ β=some x∧x.blk=some b:=by
 cases d with
 | lit u=>
  cases ziF hr;unfold yB at hy;split at hy<;>first | (cases hy; rfl)| (rename_i he; cases he)| (cases hy)
 | ptr β o'=>
  cases hy;cases hr with
  | ptr g1=>exact .inr ⟨_,_,rfl,g1,rfl⟩
 | eptr β n i off st=>
  simp only[yB]at hy;cases he:zd2 L β n st with
  | none=>rw[he]at hy; cases hy
  | some es=>
   rw[he]at hy;cases hy;obtain⟨b,vs,k1,rfl,k3,k6⟩:=zqk h he hr;exact .inr ⟨_,_,rfl,k1,rfl⟩
 | sl β s n len cap st=>
  simp only[yB]at hy;cases he:zd2 L β n st with
  | none=>rw[he]at hy; cases hy
  | some es=>
   rw[he]at hy;cases hy;rcases slR h he hr with⟨b,vs,q1,rfl,q2,q3⟩| ⟨rfl,rfl,h0,_,_,rfl,_⟩
   ·exact .inr ⟨_,_,rfl,q1,rfl⟩
   ·exact .inl rfl
 | _=>cases hy
theorem ztJ(h:RelH c L H){d:D}{v:V}{β b:Nat}{x:Lc}(hr:R c d v)(hx:xB L β d=true)(hb:c.ρ β=some x)(hxb:x.blk=some b):∃ γ o,v=.ptr γ o∧(zaq H γ).isSome=true∧(γ == b)=false:=by
 cases d with
 | fptr t ds=>
  cases hr with
  | fptr g1 g2 g3=>
   rename_i b' o cs;refine⟨b',o,rfl,by rw[zbx (h.look g1)]; rfl,?_⟩;rw[beq_eq_false_iff_ne];rintro rfl;obtain⟨o1,o2,o3⟩:=h.own β x b' hb hxb;unfold Cx.look at g1;rw[o3]at g1;cases t with
   | true=>simp at g1
   | false=>
    simp only[qaM,if_false]at g1;have:=(h.za b' cs g1).1;omega
 | ptr γ o=>
  simp only[xB]at hx;split at hx
  ·rename_i ds heq;cases hr with
   | ptr g1=>
    obtain⟨b',vs,k1,k2,k3⟩:=h.obj γ _ heq;rw[g1]at k1;cases k1;refine⟨_,_,rfl,by rw[zbx k2]; rfl,?_⟩;rw[beq_eq_false_iff_ne];rintro rfl;have:=h.inj γ β _ x _ g1 hb rfl hxb;subst this;simp at hx
  ·cases hx
 | eptr γ n i off st=>
  simp only[xB]at hx;cases he:zd2 L γ n st with
  | none=>rw[he]at hx; cases hx
  | some es=>
   rw[he]at hx;obtain⟨b',vs,k1,rfl,k3,k6⟩:=zqk h he hr;refine⟨_,_,rfl,by rw[zbx k3]; rfl,?_⟩;rw[beq_eq_false_iff_ne];rintro rfl;have:=h.inj γ β _ x _ k1 hb rfl hxb;subst this;simp at hx
 | _=>cases hx
theorem zmp(h:Rel c S M){β b:Nat}{x:Lc}(hb:c.ρ β=some x)(hxb:x.blk=some b):∀ {xs:List X} {ds:List D},zhw S.env xs=some ds→xBs S.heap β ds=true→xs.all (zwo M.heap M.env b)=true
 | [],ds,he,hx=>rfl
 | y :: r,ds,he,hx=>by
  simp only[zhw]at he;cases h1:evD S.env y with
  | none=>rw[h1]at he; cases he
  | some d=>
   cases h2:zhw S.env r with
   | none=>rw[h1,h2]at he; cases he
   | some ds'=>
    rw[h1,h2]at he;cases he;simp only[xBs]at hx;cases h3:xB S.heap β d with
    | false=>rw[h3]at hx; cases hx
    | true=>
     rw[h3]at hx;obtain⟨v,g1,g2⟩:=zad h h1;obtain⟨γ,o,rfl,g3,g4⟩:=ztJ h.heap g2 h3 hb hxb;rw[List.all_cons,zmp h hb hxb h2 hx];simp[zwo,g1,g3,g4]
theorem zu8(h:Rel c S M){i:I}{d:D}(hq:qL S.heap S.env i=some d):∃ v,q M.heap M.env i=some v∧R c d v:=by
 cases i with
 | mov x=>exact zad h hq
 | avo xs y=>
  simp only[qL]at hq;cases hy:evD S.env y with
  | none=>rw[hy]at hq; cases hq
  | some e=>
   rw[hy]at hq;obtain⟨v,g1,g2⟩:=zad h hy;simp only at hq;have fin:zqq M.heap M.env xs y=true→∃ v,q M.heap M.env (.avo xs y)=some v∧R c (.lit (.tuple #[])) v:=fun ha=>⟨zaT,by simp[q,ha],.lit _⟩
   cases hb:yB S.heap e with
   | none=>rw[hb]at hq; cases hq
   | some o=>
    have hs:=zu3 h.heap g2 hb;rw[hb]at hq;cases o with
    | none=>
     cases hq;exact fin (by simp only at hs; simp[zqq,g1,hs])
    | some β=>
     simp only at hq;cases hx:zhw S.env xs with
     | none=>rw[hx]at hq; cases hq
     | some ds=>
      rw[hx]at hq;simp only at hq;cases hxb:xBs S.heap β ds with
      | false=>rw[hxb]at hq; cases hq
      | true=>
       rw[hxb]at hq;cases hq;refine fin ?_;rcases hs with hs | ⟨b,x,hs,k1,k2⟩
       ·simp[zqq,g1,hs]
       ·simp only[zqq,g1,hs]; exact zmp h k1 k2 hx hxb
 | pick x a b=>
  simp only[qL]at hq;cases hb:zfV (evD S.env x)with
  | none=>rw[hb]at hq; cases hq
  | some t=>
   rw[hb]at hq;simp only[q,zff h hb];cases t
   ·exact zad h hq
   ·exact zad h hq
 | build z parts=>
  simp only[qL]at hq;cases hf:zkn S.env (z.map .lit) parts with
  | none=>rw[hf]at hq; cases hq
  | some l=>
   rw[hf]at hq;cases hq;obtain⟨l',g1,g2⟩:=zcz h parts hf (Rs.lits z);exact⟨.agg l',by simp[q,g1],.agg g2.1 g2.2⟩
 | load n x=>
  simp only[qL]at hq;cases hx:evD S.env x with
  | none=>rw[hx]at hq; cases hq
  | some e=>
   rw[hx]at hq;obtain⟨v,g1,g2⟩:=zad h hx;obtain⟨v',g3,g4⟩:=zjA h.heap g2 hq;refine⟨v',?_,g4⟩;simp only[q,g1];split at g3
   ·exact g3
   ·cases g3
 | fld off x=>
  simp only[qL]at hq;cases hx:evD S.env x with
  | none=>rw[hx]at hq; cases hq
  | some e=>
   rw[hx]at hq;obtain⟨v,g1,g2⟩:=zad h hx;obtain⟨b,o,rfl,g4⟩:=zmI h.heap g2 hq;exact⟨_,by simp only[q,g1],g4⟩
 | idxS n x j=>
  simp only[qL]at hq;cases hx:evD S.env x with
  | none=>rw[hx]at hq; cases hq
  | some e=>
   rw[hx]at hq;cases hj:zjC (evD S.env j)with
   | none=>rw[hj]at hq; cases hq
   | some m=>
    rw[hj]at hq;obtain⟨v,g1,g2⟩:=zad h hx;obtain⟨v',g3,g4⟩:=ztk h.heap g2 hq;refine⟨v',?_,g4⟩;simp only[q,g1,zdB h hj];split at g3
    ·exact g3
    ·cases g3
 | idxA n cnt x j=>
  simp only[qL]at hq;cases hx:evD S.env x with
  | none=>rw[hx]at hq; cases hq
  | some e=>
   rw[hx]at hq;cases hj:zjC (evD S.env j)with
   | none=>rw[hj]at hq; cases hq
   | some m=>
    rw[hj]at hq;simp only at hq;split at hq
    ·rename_i hm;obtain⟨v,g1,g2⟩:=zad h hx;obtain⟨b,o,rfl,g4⟩:=zmI h.heap g2 hq;exact⟨_,by simp[q,g1,zdB h hj,hm.1,hm.2],g4⟩
    ·cases hq
 | idxV n cnt x j=>
  simp only[qL]at hq;split at hq
  ·rename_i ds hx;cases hj:zjC (evD S.env j)with
   | none=>rw[hj]at hq; cases hq
   | some m=>
    rw[hj]at hq;simp only at hq;split at hq
    ·rename_i hm;obtain⟨v,g1,g2⟩:=zad h hx;cases g2 with
     | agg k1 k2=>
      obtain⟨v',e1,e2⟩:=zcs ⟨k1,k2⟩ hq;exact⟨v',by simp[q,g1,zdB h hj,hm.1,hm.2,e1],e2⟩
    cases hq
  ·cases hq
 | part n off x=>
  simp only[qL]at hq;split at hq
  ·rename_i ds hx;obtain⟨v,g1,g2⟩:=zad h hx;cases g2 with
   | agg k1 k2=>
    obtain⟨v',e1,e2⟩:=zcs ⟨k1,k2⟩ hq;exact⟨v',by simp[q,g1,e1],e2⟩
  ·cases hq
 | bin op x y=>
  simp only[qL]at hq;cases hx:zqw (evD S.env x)with
  | none=>rw[hx]at hq; cases hq
  | some u=>
   rw[hx]at hq;cases hy:zqw (evD S.env y)with
   | none=>rw[hy]at hq; cases hq
   | some u'=>
    rw[hy]at hq;obtain⟨w,g1,rfl⟩:=znm hq;exact⟨_,by simp only[q,zij h hx,zij h hy,g1],.lit _⟩
 | eqb neg x y=>
  simp only[qL]at hq;cases hx:zfV (evD S.env x)with
  | none=>rw[hx]at hq; cases hq
  | some u=>
   rw[hx]at hq;cases hy:zfV (evD S.env y)with
   | none=>rw[hy]at hq; cases hq
   | some u'=>
    rw[hy]at hq;cases hq;exact⟨_,by simp only[q,zff h hx,zff h hy],.lit _⟩
 | eqa n neg x y=>
  simp only[qL]at hq;split at hq
  ·rename_i ds hx;split at hq
   ·rename_i es hy;split at hq
    ·rename_i hl;split at hq
     ·rename_i b hb;cases hq;obtain⟨v,g1,g2⟩:=zad h hx;obtain⟨v',g1',g2'⟩:=zad h hy;cases g2 with
      | agg k1 k2=>
      cases g2' with
      | agg k1' k2'=>
      exact⟨_,by simp only[q,g1,g1',← k1,← k1',hl,cond_true,zjK hb ⟨k1,k2⟩ ⟨k1',k2'⟩],.lit _⟩
     cases hq
    cases hq
   cases hq
  ·cases hq
 | eqn neg x=>
  simp only[qL]at hq;split at hq
  ·rename_i hx;obtain⟨v,g1,g2⟩:=zad h hx;cases hq;cases ziF g2;exact⟨_,by simp only[q,g1],.lit _⟩
  ·rename_i β s n len cap st hx;obtain⟨v,g1,g2⟩:=zad h hx;cases he:zd2 S.heap β n st with
   | some es=>
    rw[he]at hq;simp only at hq;split at hq
    ·cases hq
    ·rename_i hne;cases hq;rcases slR h.heap he g2 with⟨b',vs,q1,rfl,_⟩| ⟨_,_,_,_,_,rfl,_⟩
     ·exact⟨_,by simp only[q,g1],.lit _⟩
     ·simp at hne
   | none=>rw[he]at hq; cases hq
  ·rename_i t n els hx;obtain⟨v,g1,g2⟩:=zad h hx;split at hq
   ·cases hq
   rename_i hne;cases hq;cases g2 with
   | fz _ _ _ _ _ _=>exact⟨_,by simp only[q,g1],.lit _⟩
   | fz0=>simp at hne
   | fzn=>simp at hne
  ·cases hq
 | eqi neg x=>
  simp only[qL]at hq;split at hq
  ·rename_i hx;obtain⟨v,g1,g2⟩:=zad h hx;cases hq;cases ziF g2;exact⟨_,by simp only[q,g1],.lit _⟩
  ·rename_i t d hx;obtain⟨v,g1,g2⟩:=zad h hx;cases hq;cases g2;exact⟨_,by simp only[q,g1],.lit _⟩
  ·cases hq
 | eqp neg x=>
  simp only[qL]at hq;split at hq
  ·rename_i hx;obtain⟨v,g1,g2⟩:=zad h hx;cases hq;cases ziF g2;exact⟨_,by simp only[q,g1],.lit _⟩
  ·rename_i hx;obtain⟨v,g1,g2⟩:=zad h hx;cases hq;cases g2;exact⟨_,by simp only[q,g1],.lit _⟩
  ·rename_i hx;obtain⟨v,g1,g2⟩:=zad h hx;cases hq;cases g2;exact⟨_,by simp only[q,g1],.lit _⟩
  ·cases hq
 | un op x=>
  simp only[qL]at hq;cases hx:zqw (evD S.env x)with
  | none=>rw[hx]at hq; cases hq
  | some u=>
   rw[hx]at hq;obtain⟨w,g1,rfl⟩:=znm hq;exact⟨_,by simp only[q,zij h hx,qaa,g1],.lit _⟩
 | conv k x=>
  simp only[qL]at hq;cases hx:zjC (evD S.env x)with
  | none=>rw[hx]at hq; cases hq
  | some u=>rw[hx]at hq; cases hq; exact⟨_,by simp only[q,zdB h hx],.lit _⟩
 | len x=>
  simp only[qL]at hq;cases hx:evD S.env x with
  | none=>rw[hx]at hq; cases hq
  | some e=>
   rw[hx]at hq;obtain⟨v,g1,g2⟩:=zad h hx;obtain⟨v',g3,g4⟩:=zq9 h.heap g2 hq;exact⟨v',by simp only[q,g1,qaa,g3],g4⟩
 | mm b xs=>
  simp only[qL]at hq;cases hx:zhw S.env xs with
  | none=>rw[hx]at hq; cases hq
  | some l=>
   rw[hx]at hq;obtain⟨vs,g1,g2⟩:=zbZ h hx;simp only at hq;split at hq
   ·rename_i v vs' hl;obtain⟨w,g3,rfl⟩:=znm hq;rw[zpx hl g2]at g1;exact⟨_,by simp only[q,g1,g3],.lit _⟩
   ·cases hq
 | ext x j=>
  simp only[qL]at hq;split at hq
  ·rename_i ds hx;obtain⟨v,g1,g2⟩:=zad h hx;cases g2 with
   | tup k1 k2=>
    obtain⟨v',e1,e2⟩:=Rs.get ⟨k1,k2⟩ hq;exact⟨v',by simp[q,g1,e1],e2⟩
  ·cases hq
 | slc n x lo hi mx=>
  simp only[qL]at hq;cases hx:evD S.env x with
  | none=>rw[hx]at hq; cases hq
  | some e=>
   rw[hx]at hq;cases h1:zhu S.env lo with
   | none=>rw[h1]at hq; cases hq
   | some l=>
    rw[h1]at hq;cases h2:zhu S.env hi with
    | none=>rw[h2]at hq; cases hq
    | some hh=>
     rw[h2]at hq;cases h3:zhu S.env mx with
     | none=>rw[h3]at hq; cases hq
     | some m=>
      rw[h3]at hq;obtain⟨v,g1,g2⟩:=zad h hx;obtain⟨v',g3,g4⟩:=zra h.heap g2 hq;exact⟨v',by simp only[q,g1,zj2 h h1,zj2 h h2,zj2 h h3,zmP g3],g4⟩
 | nilck x=>
  simp only[qL]at hq;split at hq
  ·rename_i hx;obtain⟨v,g1,g2⟩:=zad h hx;cases hq;refine⟨v,?_,g2⟩;cases g2;simp only[q,g1]
  ·rename_i hx;obtain⟨v,g1,g2⟩:=zad h hx;cases hq;refine⟨v,?_,g2⟩;cases g2;simp only[q,g1]
  ·rename_i hx;obtain⟨v,g1,g2⟩:=zad h hx;cases hq;refine⟨v,?_,g2⟩;cases g2;simp only[q,g1]
  ·rename_i β n i off st hx;obtain⟨v,g1,g2⟩:=zad h hx;cases he:zd2 S.heap β n st with
   | none=>rw[he]at hq; cases hq
   | some es=>
    rw[he]at hq;cases hq;obtain⟨b',vs,q1,e,_⟩:=zqk h.heap he g2;subst e;exact⟨_,by simp only[q,g1],g2⟩
  ·cases hq
 | clo f xs ys=>
  simp only[qL]at hq;cases hx:zhw S.env xs with
  | none=>rw[hx]at hq; cases hq
  | some l=>
   rw[hx]at hq;cases hy:zhw S.env ys with
   | none=>rw[hy]at hq; cases hq
   | some l'=>
    rw[hy]at hq;cases hq;obtain⟨vs,g1,g2⟩:=zbZ h hx;obtain⟨us,g3,g4⟩:=zbZ h hy;exact⟨_,by simp only[q,g1,g3],.clo g2.1 g4.1 g2.2 g4.2⟩
 | mkI t x=>
  simp only[qL]at hq;cases hx:evD S.env x with
  | none=>rw[hx]at hq; cases hq
  | some e=>
   rw[hx]at hq;cases hq;obtain⟨v,g1,g2⟩:=zad h hx;exact⟨_,by simp only[q,g1,qaU],.ifc g2⟩
 | _=>cases hq
end
end Go.Lx
