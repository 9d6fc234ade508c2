/-
 The value of one gate, in a run. Conditions: none.
-/
import Derived.Test.YtbjogdohfhdaiaaCfJ7
import Derived.Test.YtbjogdohfhdaiaaCfLi
import Derived.Test.YtbjogdohfhdaiaaCfQ23
set_option linter.unusedSimpArgs false
set_option linter.unusedVariables false
set_option maxRecDepth 100000
set_option maxHeartbeats 4000000
set_option maxHeartbeats 8000000
set_option maxHeartbeats 16000000
namespace Go.Dc
open Go Go.Mx Go.Lx Go.Proofs
abbrev zbc:Nat:=4611686018427387904
def zfA(a b:Nat):Nat:=min (a+b) zbc
def zlC(a b:Nat):Nat:=min (a * b) zbc
theorem zfh:zbc=4611686018427387904:=rfl
theorem zhv(a b:Nat):zfA a b<=zbc:=qcb _ _
theorem zg9(a b:Nat):zlC a b<=zbc:=qcb _ _
variable{a:Nat}
theorem zpY{b:Nat}(ha:a<=zbc)(hb:b<=zbc):zdf (a:Int) (b:Int)=some ((zfA a b:Nat):Int):=by
 have hT:=zfh;unfold zdf zfA;have h1:w64 (4611686018427387904 - (a:Int))=4611686018427387904 - (a:Int):=zfV (by omega) (by omega);rw[h1];congr 1
 unfold zfN;split
 .rw[zfV (by omega) (by omega)]; omega
 rw[zfV (by omega) (by omega)]; omega
theorem ziy{b:Nat}(ha:a<=zbc)(hb:b<=zbc):zcV (a:Int) (b:Int)=some ((zlC a b:Nat):Int):=by
 have hT:=zfh;unfold zcV zlC;rw[zbu (by omega),zbu (by omega),zCq (by omega) (by omega),qaa];simp only;by_cases h1:0<a * b / 18446744073709551616
 .have:zbc<=a * b:=by
   have:=qcs (a * b) 18446744073709551616;omega
  rw[qdn (by omega),qdl,qaa,qdl,qcB this];rfl
 have h2:a * b<18446744073709551616:=by
  have:=qcs (a * b) 18446744073709551616;have:=qbM (a * b) (show 0<18446744073709551616 by decide);omega
 rw[qdo (by omega),qdm,qaa,qbz h2];by_cases h3:4611686018427387903<a * b
 .rw[qdn (by omega),qdl,qcB (by omega)]; rfl
 rw[qdo (by omega),qdm,zaF (by omega),qbd (by omega)]
def zC7(c:S_api_Circuit)(input:List Int)(vs:D):List D:=[fzE false (eI .i64) c.cards,fzE false zaa c.gates,fzE false (eI .i64) input,vs]
def esL(m:Nat)(vals:List Nat):List (List D):=vals.map (λv:Nat=>[dI (v:Int)])++ List.replicate (m - vals.length) [dI 0]
variable{m:Nat}{vals:List Nat}
theorem zkj(h:vals.length<=m):(esL m vals).length=m:=by simp[esL]; omega
theorem zln(h:a<vals.length):(esL m vals)[((a:Nat):Int).toNat]? = some [dI ((vals.getD a 0:Nat):Int)]:=by
 unfold esL;rw[qaq,qaf (by simpa using h),qaO,qac h,zap h]; rfl
theorem zx7(h:vals.length<m)(x:Nat):(esL m vals).take vals.length ++ [[dI (x:Int)]]++ (esL m vals).drop (vals.length+1)=esL m (vals ++ [x]):=by
 unfold esL;obtain⟨k,hk⟩:∃ k,m - vals.length=k+1:=⟨m - vals.length - 1,by omega⟩;have e:(vals.map (λv:Nat=>[dI (v:Int)])).length=vals.length:=by simp
 rw[hk,qav,qbU,show m - (vals.length+1)=k by omega,qcA (by omega),qaV (by omega),<- e,<- List.drop_drop,List.drop_left];simp[qaU]
structure RunIn (c:S_api_Circuit) (input:List Int) (m:Nat) (vals:List Nat) (β:Nat) (L:List LB):Prop where
 run:L[2]? = some (.cells (zC7 c input (.sl β 0 1 vals.length (some m) m)))
 els:L[β]? = some (.els 1 (esL m vals))
 bnd:∀ a,vals.getD a 0<=zbc
 room:vals.length<=m
 sc:zcB L.length L
variable{β:Nat}{L:List LB}
theorem RunIn.es{c:S_api_Circuit}{input:List Int}(h:RunIn c input m vals β L):(if m=(esL m vals).length then some (esL m vals)else none)=some (esL m vals):=if_pos (zkj h.room).symm
theorem zeq{α:Type}{L:List α}{i:Nat}{x:α}(h:L[i]? = some x)(R':List α):(L ++ R')[i]? = some x:=by
 rw[qaf (qab.1 h).1]; exact h
theorem znj{α:Type}(L:List α)(x:α):(L ++ [x])[L.length]? = some x:=by simp
theorem zhX{f:Nat}{args:List D}{x:LB}{r:D}(hs:zcB L.length L)(hr:r.pl=true)(h:zbA mC false f args L (λd L'=>d=r/\L'=L ++ [x]) λ_ _=>False):zbA mC false f args L (λd L'=>d=r/\L'=L) λ_ _=>False:=by
 refine zbA.cut h ?_ (λ_ _ h=>h);rintro d L' ⟨rfl,rfl⟩;refine⟨L,[x],rfl,qap _,?_,hs,rfl,rfl⟩;have aux:∀ ds:List D,D.pls ds=true->D.scs L.length ds:=by
  intro ds;induction ds with
  | nil=>intro _; trivial
  | cons d r ih=>
   intro hp;cases d<;>first | (cases hp; done)| skip
   exact⟨qdk,ih (by simpa [D.pls]using hp)⟩
 cases d<;>first | (cases hr; done)| skip
 .trivial
 .exact aux _ (by simpa [D.pl]using hr)
 exact aux _ (by simpa [D.pl]using hr)
theorem zrg(hs:zcB L.length L)(g:S_api_Gate)(p:D):zbA mC false 106 [p,.agg (zaa.c false g)] L (λd L'=>d=dI g.n/\L'=L) λ_ _=>False:=by
 refine zhX (x:=.cells (zaa.c false g)) hs rfl (gnL ?_);have e1:(L ++ [LB.cells [dI g.kind,dI g.var,dI g.val,dI g.n,fzE false (eI .i64) g.args]])[L.length]? = some (LB.cells [dI g.kind,dI g.var,dI g.val,dI g.n,fzE false (eI .i64) g.args]):=znj _ _;refine zab ?_;simp only[rnA,Nat.reduceEqDiff,reduceIte,Nat.reduceLT,Nat.reduceAdd,Nat.reduceLeDiff,Nat.reduceMul,Nat.reduceSub,Int.reduceLE,Int.reduceLT,Int.reduceBEq,Nat.reduceBEq,reduceCtorEq,zaD,e1];exact⟨_,rfl,rfl⟩
theorem znC(c:S_api_Circuit)(input:List Int)(vs:D):zC7 c input vs=[fzE false (eI .i64) c.cards,fzE false zaa c.gates,fzE false (eI .i64) input,vs]:=rfl
def isV(x v:Int):Nat:=bif decide (0<=x)then(bif x == v then 1 else 0)else 1
theorem zAU{c:S_api_Circuit}{input:List Int}(h:RunIn c input m vals β L)(g:S_api_Gate){x:Int}(hx:zaC input g.var=some x):
  zbA mC false 107 [.ptr 2 0,.agg (zaa.c false g)] L (λd L'=>d=dI ((isV x g.val:Nat):Int)/\L'=L) λ_ _=>False:=by
 refine zhX (x:=.cells (zaa.c false g)) h.sc rfl (gnL ?_);have e1:(L ++ [LB.cells [dI g.kind,dI g.var,dI g.val,dI g.n,fzE false (eI .i64) g.args]])[L.length]? = some (LB.cells [dI g.kind,dI g.var,dI g.val,dI g.n,fzE false (eI .i64) g.args]):=znj _ _;have e2:=zeq h.run [LB.cells [dI g.kind,dI g.var,dI g.val,dI g.n,fzE false (eI .i64) g.args]];rw[znC]at e2;unfold isV;refine zab ?_;simp only[rnA,Nat.reduceEqDiff,Nat.reduceLT,Nat.reduceAdd,reduceCtorEq,zaD,e1,e2,zao (n:=1) (e:=eI .i64) rfl hx];refine EvL.scope (zab ?_);cases h1:decide (0<=x)with
 | false=>
  simp only[rnA,Nat.reduceEqDiff,Nat.reduceLT,reduceCtorEq,h1];exact⟨_,rfl,rfl⟩
 | true=>
  cases h2:(x == g.val)with
  | false=>
   simp only[rnA,Nat.reduceEqDiff,Nat.reduceLT,reduceCtorEq,e1,h1,h2];exact⟨_,rfl,rfl⟩
  | true=>
   simp only[rnA,Nat.reduceEqDiff,Nat.reduceLT,reduceCtorEq,e1,h1,h2];exact⟨_,rfl,rfl⟩
def zvV(vals:List Nat)(ar:List Nat)(s:Nat):Nat:=ar.foldl (λs a=>zfA s (vals.getD a 0)) s
def zfQ(vals:List Nat)(ar:List Nat)(s:Nat):Nat:=ar.foldl (λs a=>zlC s (vals.getD a 0)) s
theorem zA1{c:S_api_Circuit}{input:List Int}(h:RunIn c input m vals β L)(g:S_api_Gate){ar:List Nat}(hg:g.args=iL ar)(hl:ar.length<1000000)(ha:∀ a∈ar,a<vals.length):
  zbA mC false 108 [.ptr 2 0,.agg (zaa.c false g)] L (λd L'=>d=dI ((zvV vals ar 0:Nat):Int)/\L'=L) λ_ _=>False:=by
 refine zhX (x:=.cells (zaa.c false g)) h.sc rfl (gnL ?_);have e1:(L ++ [LB.cells [dI g.kind,dI g.var,dI g.val,dI g.n,fzE false (eI .i64) g.args]])[L.length]? = some (LB.cells [dI g.kind,dI g.var,dI g.val,dI g.n,fzE false (eI .i64) g.args]):=znj _ _;have e2:=zeq h.run [LB.cells [dI g.kind,dI g.var,dI g.val,dI g.n,fzE false (eI .i64) g.args]];have e4:=zeq h.els [LB.cells [dI g.kind,dI g.var,dI g.val,dI g.n,fzE false (eI .i64) g.args]];rw[znC]at e2;have e5:(g.args.length:Int)=(ar.length:Int):=by rw[hg,zam]
 refine zab ?_;simp only[rnA,Nat.reduceEqDiff,Nat.reduceLT,Nat.reduceAdd,reduceCtorEq,zaD,e1,za1,e5];refine EvL.scope (zab ?_);simp only[rnA];refine EvL.loop (α:=Nat×Nat) (λa=>⟨26,[(0,.ptr 2 0),(5,dI (a.2:Int)),(9,fzE false (eI .i64) g.args),(10,dI (ar.length:Int)),(11,dI (a.1:Int))],L ++ [.cells [dI g.kind,dI g.var,dI g.val,dI g.n,fzE false (eI .i64) g.args]]⟩)
  (λa=>a.1<=ar.length/\a.2<=zbc/\zvV vals (ar.drop a.1) a.2=zvV vals ar 0) (λa=>ar.length - a.1) (0,0) (zaT.sub (by simp[zcp,lk])) ⟨qaw _,qaw _,rfl⟩ ?_
 rintro⟨k,s⟩ ⟨p1,p2,p3⟩;simp only at p1 p2 p3;refine zab ?_;by_cases hk:k<ar.length
 .have hlt:decide ((k:Int)<(ar.length:Int))=true:=qdn (by omega);have hw2:IntKind.i64.wrap ((k:Int)+1)=((k+1:Nat):Int):=by rw[wrap64 (by omega) (by omega)]; rfl
  have q1:=ha ar[k] (qas hk);have q2:zaC g.args (k:Int)=some ((ar[k]:Nat):Int):=by rw[hg,zaz hk]
  have q3:=zln (m:=m) q1;have q4:(((ar[k]:Nat):Int)<((vals.length:Nat):Int)):=by omega
  rw[qat hk]at p3;simp only[rnA,Nat.reduceEqDiff,Nat.reduceLT,reduceCtorEq,hlt,zao (n:=1) (e:=eI .i64) rfl q2,e2,e4,qaF,q4,q3,h.es];refine EvL.fn (zcN (zpY p2 (h.bnd ar[k]))) rfl rfl (.cons (.lit _) (.cons (.lit _) .nil)) ?_;simp only[rnA,Nat.reduceEqDiff,Nat.reduceLT,reduceCtorEq,hw2];exact⟨(k+1,zfA s (vals.getD ar[k] 0)),⟨hk,zhv _ _,p3⟩,by simp only; omega,zaT.sub (by simp[zcp,lk])⟩
 have hlt:decide ((k:Int)<(ar.length:Int))=false:=qdo (by omega);rw[qb0 (by omega)]at p3;simp only[rnA,Nat.reduceEqDiff,Nat.reduceLT,reduceCtorEq,hlt];exact⟨_,rfl,by rw[<- p3]; rfl⟩
theorem zqT{c:S_api_Circuit}{input:List Int}(h:RunIn c input m vals β L)(g:S_api_Gate){ar:List Nat}(hg:g.args=iL ar)(hl:ar.length<1000000)(ha:∀ a∈ar,a<vals.length):
  zbA mC false 109 [.ptr 2 0,.agg (zaa.c false g)] L (λd L'=>d=dI ((zfQ vals ar 1:Nat):Int)/\L'=L) λ_ _=>False:=by
 refine zhX (x:=.cells (zaa.c false g)) h.sc rfl (gnL ?_);have e1:(L ++ [LB.cells [dI g.kind,dI g.var,dI g.val,dI g.n,fzE false (eI .i64) g.args]])[L.length]? = some (LB.cells [dI g.kind,dI g.var,dI g.val,dI g.n,fzE false (eI .i64) g.args]):=znj _ _;have e2:=zeq h.run [LB.cells [dI g.kind,dI g.var,dI g.val,dI g.n,fzE false (eI .i64) g.args]];have e4:=zeq h.els [LB.cells [dI g.kind,dI g.var,dI g.val,dI g.n,fzE false (eI .i64) g.args]];rw[znC]at e2;have e5:(g.args.length:Int)=(ar.length:Int):=by rw[hg,zam]
 refine zab ?_;simp only[rnA,Nat.reduceEqDiff,Nat.reduceLT,Nat.reduceAdd,reduceCtorEq,zaD,e1,za1,e5];refine EvL.scope (zab ?_);simp only[rnA];refine EvL.loop (α:=Nat×Nat) (λa=>⟨26,[(0,.ptr 2 0),(5,dI (a.2:Int)),(9,fzE false (eI .i64) g.args),(10,dI (ar.length:Int)),(11,dI (a.1:Int))],L ++ [.cells [dI g.kind,dI g.var,dI g.val,dI g.n,fzE false (eI .i64) g.args]]⟩)
  (λa=>a.1<=ar.length/\a.2<=zbc/\zfQ vals (ar.drop a.1) a.2=zfQ vals ar 1) (λa=>ar.length - a.1) (0,1) (zaT.sub (by simp[zcp,lk])) ⟨qaw _,by decide,rfl⟩ ?_
 rintro⟨k,s⟩ ⟨p1,p2,p3⟩;simp only at p1 p2 p3;refine zab ?_;by_cases hk:k<ar.length
 .have hlt:decide ((k:Int)<(ar.length:Int))=true:=qdn (by omega);have hw2:IntKind.i64.wrap ((k:Int)+1)=((k+1:Nat):Int):=by rw[wrap64 (by omega) (by omega)]; rfl
  have q1:=ha ar[k] (qas hk);have q2:zaC g.args (k:Int)=some ((ar[k]:Nat):Int):=by rw[hg,zaz hk]
  have q3:=zln (m:=m) q1;have q4:(((ar[k]:Nat):Int)<((vals.length:Nat):Int)):=by omega
  rw[qat hk]at p3;simp only[rnA,Nat.reduceEqDiff,Nat.reduceLT,reduceCtorEq,hlt,zao (n:=1) (e:=eI .i64) rfl q2,e2,e4,qaF,q4,q3,h.es];refine EvL.fn (zbX (ziy p2 (h.bnd ar[k]))) rfl rfl (.cons (.lit _) (.cons (.lit _) .nil)) ?_;simp only[rnA,Nat.reduceEqDiff,Nat.reduceLT,reduceCtorEq,hw2];exact⟨(k+1,zlC s (vals.getD ar[k] 0)),⟨hk,zg9 _ _,p3⟩,by simp only; omega,zaT.sub (by simp[zcp,lk])⟩
 have hlt:decide ((k:Int)<(ar.length:Int))=false:=qdo (by omega);rw[qb0 (by omega)]at p3;simp only[rnA,Nat.reduceEqDiff,Nat.reduceLT,reduceCtorEq,hlt];exact⟨_,rfl,by rw[<- p3]; rfl⟩
def gv(input:List Int)(vals:List Nat)(g:S_api_Gate):Nat:=
 bif g.kind == 1 then g.n.toNat else bif g.kind == 2 then isV (input.getD g.var.toNat 0) g.val else bif g.kind == 3 then zvV vals (ga g) 0 else zfQ vals (ga g) 1
def zdI(input:List Int):List Nat->List S_api_Gate->Option (List Nat)
 | vals,[]=>some vals
 | vals,g :: r=>bif gv input vals g == zbc then none else zdI input (vals ++ [gv input vals g]) r
def zer:List D:=[.lit .nilFunc,.clo 106 [.ptr 2 0] [],.clo 107 [.ptr 2 0] [],.clo 108 [.ptr 2 0] [],.clo 109 [.ptr 2 0] []]
theorem zlc{op:Nat->Nat->Nat}(hop:∀ a b,op a b<=zbc)(vals:List Nat):∀(ar:List Nat) (s:Nat),s<=zbc->ar.foldl (λs a=>op s (vals.getD a 0)) s<=zbc
 | [],_,h=>h
 | a :: ar,s,_=>zlc hop vals ar _ (hop _ _)
theorem zze{c:S_api_Circuit}{cs:List Nat}{input:List Int}(h:RunIn c input m vals β L){g:S_api_Gate}(hg:GtOk cs vals.length g)(hi:input.length=cs.length)(hm:vals.length<=4000):
  gv input vals g<=zbc/\(0<=g.kind/\g.kind<((5:Nat):Int))/\∃ f,zer[g.kind.toNat]? = some (.clo f [.ptr 2 0] [])/\zbA mC false f [.ptr 2 0,.agg (zaa.c false g)] L (λd L'=>d=dI ((gv input vals g:Nat):Int)/\L'=L) λ_ _=>False:=by
 have hT:=zfh;cases hg with
 | num n hn=>
  have e:gv input vals ⟨1,0,0,(n:Int),[]⟩=n:=qaq n;refine⟨by rw[e]; omega,⟨by show(0:Int)<=1; decide,by show(1:Int)<((5:Nat):Int); decide⟩,_,rfl,?_⟩;rw[e];exact zrg h.sc ⟨1,0,0,(n:Int),[]⟩ _
 | is v x hv hx=>
  have hv':v<input.length:=by omega
  have e:gv input vals ⟨2,(v:Int),(x:Int),0,[]⟩=isV (input.getD v 0) (x:Int):=by
   show isV (input.getD ((v:Nat):Int).toNat 0) (x:Int)=_;rw[qaq]
  refine⟨?_,⟨by show(0:Int)<=2; decide,by show(2:Int)<((5:Nat):Int); decide⟩,_,rfl,?_⟩
  .rw[e];unfold isV;cases decide (0<=input.getD v 0)<;> cases(input.getD v 0 ==(x:Int))<;> simp[hT]
  .rw[e];exact zAU h ⟨2,(v:Int),(x:Int),0,[]⟩ (by rw[zax hv',zap hv'])
 | op k hk ar ne inc lt=>
  have hl:=zgW (b:=0) inc λa h=>⟨qaw _,lt a h⟩
  have eg:ga ⟨k,0,0,0,iL ar⟩=ar:=zew rfl;rcases hk with rfl | rfl
  .have e:gv input vals ⟨3,0,0,0,iL ar⟩=zvV vals ar 0:=by
    show zvV vals (ga ⟨3,0,0,0,iL ar⟩) 0=_;rw[eg]
   refine⟨by rw[e]; exact zlc zhv vals ar 0 (by omega),⟨by show(0:Int)<=3; decide,by show(3:Int)<((5:Nat):Int); decide⟩,_,rfl,?_⟩;rw[e];exact zA1 h ⟨3,0,0,0,iL ar⟩ rfl (by omega) lt
  have e:gv input vals ⟨4,0,0,0,iL ar⟩=zfQ vals ar 1:=by
   show zfQ vals (ga ⟨4,0,0,0,iL ar⟩) 1=_;rw[eg]
  refine⟨by rw[e]; exact zlc zg9 vals ar 1 (by omega),⟨by show(0:Int)<=4; decide,by show(4:Int)<((5:Nat):Int); decide⟩,_,rfl,?_⟩;rw[e];exact zqT h ⟨4,0,0,0,iL ar⟩ rfl (by omega) lt
def rnB(c:S_api_Circuit)(input:List Int)(T:List LB)(v:D):List LB:=
 .cells [fzE false (eI .i64) c.cards,fzE false zaa c.gates]:: .cells [fzE false (eI .i64) c.cards,fzE false zaa c.gates]:: .cells [fzE false (eI .i64) c.cards,fzE false zaa c.gates,fzE false (eI .i64) input,v]:: T
section
variable {c:S_api_Circuit} {input:List Int} {T:List LB} {v v':D} {n0:Nat}
theorem zoB(X:List LB):(rnB c input T v ++ X)[2]? = some (.cells [fzE false (eI .i64) c.cards,fzE false zaa c.gates,fzE false (eI .i64) input,v]):=rfl
theorem zoP(X:List LB):(rnB c input T v ++ X).set 2 (.cells [fzE false (eI .i64) c.cards,fzE false zaa c.gates,fzE false (eI .i64) input,v'])=rnB c input T v' ++ X:=rfl
theorem at0{B:List LB}{n0:Nat}(h:B.length=n0)(x:LB)(X:List LB):(B ++ x :: X)[n0]? = some x:=by subst h; simp
theorem at1{B:List LB}{n0:Nat}(h:B.length=n0)(x y:LB)(X:List LB):(B ++ x :: y :: X)[n0+1]? = some y:=by subst h; simp
theorem at2{B:List LB}{n0:Nat}(h:B.length=n0)(x y z:LB)(X:List LB):(B ++ x :: y :: z :: X)[n0+2]? = some z:=by subst h; simp
theorem zC8{B:List LB}{n0:Nat}(h:B.length=n0)(x x':LB)(X:List LB):(B ++ x :: X).set n0 x'=B ++ x' :: X:=by subst h; simp
theorem zDF{B:List LB}{n0:Nat}(h:B.length=n0)(x y y':LB)(X:List LB):(B ++ x :: y :: X).set (n0+1) y'=B ++ x :: y' :: X:=by subst h; simp
theorem zDy{B:List LB}{n0:Nat}(h:B.length=n0)(x y z z':LB)(X:List LB):(B ++ x :: y :: z :: X).set (n0+2) z'=B ++ x :: y :: z' :: X:=by subst h; simp
end
theorem zvS{c:S_api_Circuit}{input:List Int}{T:List LB}{v:D}:(rnB c input T v)[2]? = some (.cells [fzE false (eI .i64) c.cards,fzE false zaa c.gates,fzE false (eI .i64) input,v]):=rfl
variable{n:Nat}
theorem zsG{c:S_api_Circuit}{input:List Int}{T:List LB}{v:D}(hT:zcB n T)(hv:v.sc n):zcB n (rnB c input T v):=
 ⟨⟨qdk,qdk,qdk⟩,⟨qdk,qdk,qdk⟩,⟨qdk,qdk,qdk,hv,qdk⟩,hT⟩
theorem zeA{n:Nat}:∀ {A B:List LB},zcB n A->zcB n B->zcB n (A ++ B)
 | [],_,_,h=>h
 | _ :: _,_,h,h'=>⟨h.1,zeA h.2 h'⟩
theorem at3{B:List LB}{n0:Nat}(h:B.length=n0)(x y z w:LB)(X:List LB):(B ++ x :: y :: z :: w :: X)[n0+3]? = some w:=by subst h; simp
theorem zkn(h:3<=n):LB.sc n (.cells zer):=by
 refine⟨qdk,?_,?_,?_,?_,qdk⟩<;> exact⟨⟨by show 2<n; omega,qdk⟩,qdk⟩
variable{vals:List Nat}
theorem ztb{m:Nat}:LB.sc n (.els 1 (esL m vals)):=by
 intro cells h;rcases qbv.1 h with h | h
 .obtain⟨v,_,rfl⟩:=qaJ.1 h; exact⟨qdk,qdk⟩
 rw[qb9 h]; exact⟨qdk,qdk⟩
theorem zil{c:S_api_Circuit}{cs:List Nat}(hc:COk cs c){input:List Int}(hi:input.length=cs.length){T:List LB}(hT:∀ n,T.length+3<=n->zcB n T):
  zbA mC false 63 [.ptr 2 0] (rnB c input T (.lit (.slice none 0 0)))
   (λd L'=>∃ vals,zdI input [] c.gates=some vals/\vals.length=c.gates.length/\(∀ a,vals.getD a 0<=zbc)/\L'=rnB c input T (.sl (T.length+3+1) 0 1 c.gates.length (some c.gates.length) c.gates.length)++ [.cells zer,.els 1 (esL c.gates.length vals)])
   (λd L'=>zdI input [] c.gates=none/\(∃ t r,d=.ifc t r)/\∃ v X,L'=rnB c input T v ++ X):=by
 refine gnL ?_;have hn1:=hc.gone;have hn2:=hc.glen;obtain⟨n0,hn0⟩:∃ n0,n0=T.length+3:=⟨_,rfl⟩;have hlen:∀ v,(rnB c input T v).length=n0:=λv=>by rw[hn0]; rfl
 rw[<- hn0];have hm:((c.gates.length:Int)* ((8:Nat):Int))<=(zah:Int):=by simp only[zah]; omega
 refine zab ?_;simp only[rnA,Nat.reduceEqDiff,reduceIte,Nat.reduceLT,Nat.reduceAdd,Nat.reduceLeDiff,Nat.reduceMul,Nat.reduceSub,Int.reduceLE,Int.reduceLT,Int.reduceBEq,Nat.reduceBEq,reduceCtorEq,zvS,zoB,za1,at0 (hlen _),zC8 (hlen _),at1 (hlen _),hlen,hm,qaI,qav,qaH,qaN,zoP,qaF,qaq,Int.toNat_zero,qbC];refine EvL.scope (zab ?_);simp only[rnA,Nat.reduceEqDiff,reduceIte,Nat.reduceLT,Nat.reduceAdd,Nat.reduceLeDiff,Nat.reduceMul,Nat.reduceSub,Int.reduceLE,Int.reduceLT,Int.reduceBEq,Nat.reduceBEq,reduceCtorEq];refine EvL.loop (α:=List Nat) (λvals=>⟨58,[(0,.ptr 2 0),(2,.ptr n0 0),(29,fzE false zaa c.gates),(30,dI (c.gates.length:Int)),(31,dI (vals.length:Int))],rnB c input T (.sl (n0+1) 0 1 vals.length (some c.gates.length) c.gates.length)++ [.cells zer,.els 1 (esL c.gates.length vals)]⟩)
  (λvals=>vals.length<=c.gates.length/\(∀ a,vals.getD a 0<=zbc)/\zdI input vals (c.gates.drop vals.length)=zdI input [] c.gates) (λvals=>c.gates.length - vals.length) [] (by exact zaT.sub (by simp[zcp,lk])) ⟨qaw _,(λa=>qaw _),rfl⟩ ?_
 rintro vals ⟨p1,p2,p3⟩;have hn0':T.length+3<=n0:=Nat.le_of_eq hn0.symm;refine zab ?_;by_cases hk:vals.length<c.gates.length
 .have hlt:decide ((vals.length:Int)<(c.gates.length:Int))=true:=qdn (by omega);have hw2:IntKind.i64.wrap ((vals.length:Int)+1)=((vals.length+1:Nat):Int):=by rw[wrap64 (by omega) (by omega)]; rfl
  obtain⟨g,hgg⟩:∃ g,g=c.gates[vals.length]:=⟨_,rfl⟩;have hget:zaC c.gates (vals.length:Int)=some g:=by rw[zax hk,hgg]
  have hg:GtOk cs vals.length g:=by rw[hgg]; exact hc.gate _ hk
  rw[qat hk,<- hgg]at p3;simp only[zdI]at p3;have hR:RunIn c input c.gates.length vals (n0+1) (rnB c input T (.sl (n0+1) 0 1 vals.length (some c.gates.length) c.gates.length)++ [.cells zer,.els 1 (esL c.gates.length vals),.cells [dI g.kind,dI g.var,dI g.val,dI g.n,fzE false (eI .i64) g.args]]):=by
   refine⟨rfl,at1 (hlen _) _ _ _,p2,p1,?_⟩;rw[qav,hlen];exact zeA (zsG (hT _ (by omega)) (by show n0+1<n0+3; omega)) ⟨zkn (by omega),ztb,⟨qdk,qdk,qdk,qdk,qdk,qdk⟩,qdk⟩
  obtain⟨g1,⟨g3,g4⟩,f,g5,g6⟩:=zze hR hg hi (by omega);simp only[rnA,Nat.reduceEqDiff,reduceIte,Nat.reduceLT,Nat.reduceAdd,Nat.reduceLeDiff,Nat.reduceMul,Nat.reduceSub,Int.reduceLE,Int.reduceLT,Int.reduceBEq,Nat.reduceBEq,reduceCtorEq,hlt,zao (n:=5) (e:=zaa) rfl hget,zaD,at0 (hlen _),at1 (hlen _),at2 (hlen _),zDy (hlen _),hlen,qaI,qav,qaH,qaN,g3,g4,g5,qbI,qaK];refine EvL.zdV (f:=f) (first:=[.ptr 2 0]) (cap:=[]) (ds:=[.agg (zaa.c false g)]) rfl rfl rfl g6 ?_ (λ_ _ (h:False)=>False.elim h);rintro r L' ⟨rfl,rfl⟩;simp only[rnA,Nat.reduceEqDiff,reduceIte,Nat.reduceLT,Nat.reduceAdd,Nat.reduceLeDiff,Nat.reduceMul,Nat.reduceSub,Int.reduceLE,Int.reduceLT,Int.reduceBEq,Nat.reduceBEq,reduceCtorEq];refine EvL.scope (zab ?_);have hb:(((gv input vals g:Nat):Int)== 4611686018427387904)=(gv input vals g == zbc):=zxn _ zbc;cases hx:(gv input vals g == zbc)with
  | true=>
   rw[hx,qdl]at p3;simp only[rnA,Nat.reduceEqDiff,reduceIte,Nat.reduceLT,Nat.reduceAdd,Nat.reduceLeDiff,Nat.reduceMul,Nat.reduceSub,Int.reduceLE,Int.reduceLT,Int.reduceBEq,Nat.reduceBEq,reduceCtorEq,hb,hx,at0 (hlen _),at1 (hlen _),at2 (hlen _)];exact EvL.panic rfl rfl ⟨p3.symm,⟨_,_,rfl⟩,_,_,rfl⟩
  | false=>
   rw[hx,qdm]at p3;have hq:vals.length+1<=c.gates.length:=hk;have hes:(if c.gates.length=(esL c.gates.length vals).length then some (esL c.gates.length vals)else none)=some (esL c.gates.length vals):=if_pos (zkj p1).symm;simp only[rnA,Nat.reduceEqDiff,reduceIte,Nat.reduceLT,Nat.reduceAdd,Nat.reduceLeDiff,Nat.reduceMul,Nat.reduceSub,Int.reduceLE,Int.reduceLT,Int.reduceBEq,Nat.reduceBEq,reduceCtorEq,hb,hx,zoB,at0 (hlen _),at1 (hlen _),at2 (hlen _),at3 (hlen _),zDF (hlen _),zoP,hes,zkj p1,zx7 hk,hq,hw2,hlen,qaI,qav,qaH,qaN,qaK,qbI];have hvl:(vals ++ [gv input vals g]).length=vals.length+1:=by simp
   refine⟨vals ++ [gv input vals g],⟨by rw[hvl]; exact hq,λa=>?_,by rw[hvl]; exact p3⟩,by rw[hvl]; omega,?_⟩
   .rw[qaj];by_cases ha:a<vals.length
    .rw[qaf ha,<- qaj]; exact p2 a
    rw[qak (by omega)];cases ha':a - vals.length with
    | zero=>exact g1
    | succ k=>exact qaw _
   rw[hvl,show ∀(B:List LB) (x y z w:LB),B ++ [x,y,z,w]=(B ++ [x,y])++ [z,w]from λB x y z w=>by simp];have hl2:(rnB c input T (.sl (n0+1) 0 1 (vals.length+1) (some c.gates.length) c.gates.length)++ [LB.cells zer,LB.els 1 (esL c.gates.length (vals ++ [gv input vals g]))]).length=n0+2:=by rw[qav,hlen]; rfl
   refine zaT.cut (by rw[hl2]; omega) ?_ ?_
   .rw[hl2];exact⟨⟨rfl,by show 2<n0+2; omega⟩,⟨rfl,by show n0<n0+2; omega⟩,⟨rfl,qdk⟩,⟨rfl,qdk⟩,⟨rfl,qdk⟩,qdk⟩
   rw[hl2];exact zeA (zsG (hT _ (by omega)) (by show n0+1<n0+2; omega)) ⟨zkn (by omega),ztb,qdk⟩
 have hlt:decide ((vals.length:Int)<(c.gates.length:Int))=false:=qdo (by omega);have he:vals.length=c.gates.length:=by omega
 rw[qb0 (by omega),zdI]at p3;simp only[rnA,Nat.reduceEqDiff,reduceIte,Nat.reduceLT,Nat.reduceAdd,Nat.reduceLeDiff,Nat.reduceMul,Nat.reduceSub,Int.reduceLE,Int.reduceLT,Int.reduceBEq,Nat.reduceBEq,reduceCtorEq,hlt];exact⟨_,rfl,vals,p3.symm,he,p2,by rw[he]⟩
def zwe:Mx.Fn:=⟨6,
 .seq (.reg false false [
   ⟨some 2,.alloc [(.int .i64 0)],none⟩])
 (.seq (.reg false false [
   ⟨some 3,.clo 105 [] [(.s 2)],none⟩,
   ⟨none,.defer (.s 3) [],none⟩])
 (.seq (.reg false false [
   ⟨some 4,.mov (.s 0),none⟩,
   ⟨some 5,.zdV (.s 4) [],none⟩])
 (.seq (.reg false false [
   ⟨none,.store 1 (.s 2) (.c (.int .i64 0)),none⟩])
 (.ret)))),
 [.cell 2 none],false⟩
def zv9:Mx.Fn:=⟨3,
 .seq (.reg false false [
   ⟨some 1,.recover,none⟩,
   ⟨some 2,.eqi true (.s 1),none⟩])
 (.cond (.s 2)
  (.reg false false [
    ⟨none,.store 1 (.s 0) (.c (.int .i64 6)),none⟩])
  (.skip)),
 [],false⟩
theorem zpc:mC.has 62 zwe:=⟨zjd.ofL (P:=Try.prog) (f:=62) (fn:=zwe) (by kernel_rfl),λB args h=>zbG rfl B args h⟩
theorem zxI:mC.fns 105=some zv9:=zjd.ofL (P:=Try.prog) (f:=105) (fn:=zv9) (by kernel_rfl)
theorem zqf(n B f:Nat)(args:List V)(pv:Option V)(h:zaj):(mC.run (n+1)).dcall B f args pv h=zjm (mC.run n) mC.fns B f args pv h:=rfl
theorem zDd:Nat.ble 1 3=true:=rfl
theorem zC6:Nat.ble 1 1=true:=rfl
theorem zDa:Nat.ble 1 6=true:=rfl
theorem zqI(n B b:Nat)(h:zaj):(mC.run (n+1)).dcall B 105 [.ptr b 0] none h=some (none,h):=by
 rw[zqf];unfold zjm;rw[zxI];simp[zv9,zex,exec,zny,isRec,zne,wanted,St.put,zag,q,ev,Mx.evB,zbC,zaG,List.replicate,zDd]
theorem zra(n B b:Nat)(h:zaj)(t:TypeId)(u:V)(hB:B<=b)(hb:h[b]? = some (.blk [.lit (.int .i64 0)])):(mC.run (n+1)).dcall B 105 [.ptr b 0] (some (.ifc t u)) h=some (none,h.set b (.blk [.lit (.int .i64 6)])):=by
 rw[zqf];unfold zjm;rw[zxI];have hbk:zas h b=some [.lit (.int .i64 0)]:=by simp[zas,hb]
 simp[zv9,zex,zny,zaI,zcj,isRec,zne,wanted,St.put,zag,q,Mx.eff,ev,Mx.evB,zbC,zaG,List.replicate,V.cells,zfg,hbk,qau hB,za7,zDd,zC6]
theorem zyF{B:Nat}{h:zaj}{f:Nat}{us ws:List V}{Q:CR->zaj->Prop}(hB:B<=h.length)
  (hc:EvF mC B f (us ++ []++ ws) (h ++ [.blk [.lit (.int .i64 0)]]) λcr H'=>H'[h.length]? = some (.blk [.lit (.int .i64 0)])/\match cr with
   | .ret v=>Q (.ret (.lit (.int .i64 0))) (H'.set h.length (.blk [.lit (.int .i64 0)]))
   | .pan v=>(∃ t u,v=.ifc t u)/\Q (.ret (.lit (.int .i64 6))) (H'.set h.length (.blk [.lit (.int .i64 6)]))):EvF mC B 62 [.clo f us ws] h Q:=by
 obtain⟨N,cr,H',h1,h2,h3⟩:=hc;have hbk:zas H' h.length=some [.lit (.int .i64 0)]:=by simp[zas,h2]
 have hlt:h.length<H'.length:=(qab.1 h2).1;have hset:∀ l,zas (H'.set h.length (.blk l)) h.length=some l:=λl=>by simp[zas,hlt]
 rw[qaY]at h1;cases cr with
 | ret v=>
  refine⟨N+3,_,_,λn hn=>?_,h3⟩;obtain⟨m,rfl⟩:∃ m,n=m+2:=⟨n - 2,by omega⟩;rw[Mach.ziR zpc];unfold zgT;rw[zpc.1];have hh:=h1 (m+1) (by omega);have hdc:=zqI m B h.length (H'.set h.length (.blk [.lit (.int .i64 0)]));simp[zwe,body,exec,zaI,zcj,wanted,St.put,zag,q,Mx.eff,ev,evs,zaG,List.replicate,V.cells,zfg,qau hB,za7,zjk,zlH,hh,hbk,fin,leave,hdc,zbC,zeN,hset,takeN,zeY,zC6,zDa]
 | pan v=>
  obtain⟨⟨t,u,rfl⟩,h3⟩:=h3;refine⟨N+3,_,_,λn hn=>?_,h3⟩;obtain⟨m,rfl⟩:∃ m,n=m+2:=⟨n - 2,by omega⟩;rw[Mach.ziR zpc];unfold zgT;rw[zpc.1];have hh:=h1 (m+1) (by omega);have hdc:=zra m B h.length H' t u hB h2;simp[zwe,body,exec,zaI,zcj,wanted,St.put,zag,q,Mx.eff,ev,evs,zaG,List.replicate,V.cells,zfg,qau hB,za7,zjk,zlH,hh,fin,leave,hdc,zbC,zeN,hset,takeN,zeY,zDa]
theorem le_trans'{c c' c'':Cx}(h:c.le c')(h':c'.le c''):c.le c'' where
 za b cs hb:=h'.za b cs (h.za b cs hb)
 zf b cs hb:=h'.zf b cs (h.zf b cs hb)
 ρ β x hx:=by
  obtain⟨x',h1,h2⟩:=h.ρ β x hx;obtain⟨x'',h3,h4⟩:=h'.ρ β x' h1;exact⟨x'',h3,h2.trans h4⟩
 apart:=h'.apart
theorem zzM{c:Cx}{v:Value}{vs:List V}(h:Rs c [.lit v] vs):vs=[.lit v]:=by
 obtain⟨u,us,rfl,h1,h2⟩:=h.inv;cases zhJ h1;have:=h2.1;cases us with
 | nil=>rfl
 | cons _ _=>simp at this
theorem zwP(c:Cx)(v:Value):Rs c [.lit v] [.lit v]:=(Rs.nil c).cons (.lit v)
theorem zxv{L:List LB}{f:Nat}{first cap:List D}{Q1 Qp1:D->List LB->Prop}(hc:zbA mC false f (first ++ []++ cap) (L ++ [.cells [dI 0]]) Q1 Qp1)(hq:∀ d L',Q1 d L'->L'[L.length]? = some (.cells [dI 0]))
  (hp:∀ d L',Qp1 d L'->(∃ t r,d=.ifc t r)/\L'[L.length]? = some (.cells [dI 0])):
  zbA mC false 62 [.clo f first cap] L (λd L'=>(d=dI 0/\∃ r,Q1 r L')\/(d=dI 6/\∃ r L0,Qp1 r L0/\L'=L0.set L.length (.cells [dI 6]))) λ_ _=>False:=by
 intro c B H vs hH hB hr;obtain⟨v,vs',rfl,h1,h2⟩:=hr.inv;have hvs:vs'=[]:=qaz h2.1.symm;subst hvs;cases h1 with
 | clo q1 q2 q3 q4=>
  rename_i us ws;obtain⟨g1,g2,g3⟩:=hH.new (x:=.cell H.length) (lb:=.cells [dI 0]) (o:=[.blk [.lit (.int .i64 0)]]) (.inr ⟨_,rfl,rfl⟩) λc' hle hρ=>⟨H.length,[.lit (.int .i64 0)],hρ,by simp,zwP _ _⟩
  show EvF mC B 62 [.clo f us ws] H _;have hBl:B<=H.length:=qax hB hH.base;have hrs:Rs (c.put L.length (.cell H.length)) (first ++ []++ cap) (us ++ []++ ws):=(Rs.append (Rs.append ⟨q1,q3⟩ (Rs.nil _)) ⟨q2,q4⟩).mono g3;refine zyF hBl (EvF.mono (hc _ B _ _ g1 hB hrs) ?_);rintro cr H' ⟨c',d,L',k1,k2,k3,k4⟩;have key:∀(hL':L'[L.length]? = some (.cells [dI 0])),c'.ρ L.length=some (.cell H.length)/\H'[H.length]? = some (.blk [.lit (.int .i64 0)]):=by
   intro hL';obtain⟨b,vs',w1,w2,w3⟩:=k2.obj _ _ hL';obtain⟨x',w4,w5⟩:=k3.ρ L.length _ (zat c L.length (.cell H.length));cases w5;rw[w4]at w1;cases w1;rw[zzM w3]at w2;exact⟨w4,w2⟩
  have wr:∀(n:Int),c'.ρ L.length=some (.cell H.length)->H'[H.length]? = some (.blk [.lit (.int .i64 0)])->RelH c' (L'.set L.length (.cells [dI n])) (H'.set H.length (.blk [.lit (.int .i64 n)]))/\Step c' H' c' (H'.set H.length (.blk [.lit (.int .i64 n)])):=λn hρ ho=>
   k2.write hρ rfl ho λH'' hb=>⟨H.length,_,hρ,hb,zwP _ _⟩
  cases cr with
  | ret v=>
   have hL':=hq d L' k4.2;obtain⟨w1,w2⟩:=key hL';obtain⟨r1,r2⟩:=wr 0 w1 w2;rw[zfI hL']at r1;exact⟨w2,c',dI 0,L',(g2.trans k1).trans r2,r1,le_trans' g3 k3,.lit _,.inl ⟨rfl,d,k4.2⟩⟩
  | pan v=>
   obtain⟨⟨t,r,rfl⟩,hL'⟩:=hp d L' k4.2;obtain⟨w1,w2⟩:=key hL';obtain⟨r1,r2⟩:=wr 6 w1 w2;have hv:∃ t u,v=.ifc t u:=by
    cases k4.1 with
    | ifc _=>exact⟨_,_,rfl⟩
   exact⟨w2,hv,c',dI 6,_,(g2.trans k1).trans r2,r1,le_trans' g3 k3,.lit _,.inr ⟨rfl,_,L',k4.2,rfl⟩⟩
def zyj:List Int->List Int->Bool
 | card :: r,x :: s=>decide (-1<=x) && decide (x<card) && zyj r s
 | _,_=>true
theorem zt7:∀ {cards input:List Int},zyj cards input=true->∀ k (h1:k<cards.length) (h2:k<input.length),-1<=input[k]/\input[k]<cards[k]
 | [],_,_,k,h1,_=>absurd h1 (qan _)
 | _ :: _,[],_,k,_,h2=>absurd h2 (qan _)
 | card :: r,x :: s,h,0,_,_=>by
  simp only[zyj,qae,qdr]at h;exact h.1
 | card :: r,x :: s,h,k+1,h1,h2=>by
  simp only[zyj,qae]at h;exact zt7 h.2 k (by simpa using h1) (by simpa using h2)
def ztE(c:S_api_Circuit)(input:List Int):Bool:=ziN c && (decide (input.length=c.cards.length) && zyj c.cards input)
structure ROk (cs:List Nat) (c:S_api_Circuit) (input:List Int):Prop where
 ok:COk cs c
 b:ziN c=true
 len:input.length=cs.length
 inp:∀ k (h1:k<c.cards.length) (h2:k<input.length),-1<=input[k]/\input[k]<c.cards[k]
theorem zr1{c:S_api_Circuit}{input:List Int}(h:ztE c input=true):∃ cs,ROk cs c input:=by
 unfold ztE at h;simp only[qae,qdr]at h;obtain⟨cs,hc⟩:=zwm h.1;refine⟨cs,hc,h.1,?_,zt7 h.2.2⟩;rw[h.2.1,hc.cards,zam]
theorem COk.small{cs:List Nat}{c:S_api_Circuit}(h:COk cs c):∀ g∈c.gates,g.args.length<4611686018427387904:=λg hg=>by
 obtain⟨i,hi,rfl⟩:=qbl.1 hg;obtain⟨ar,e,_,hl⟩:=(h.gate i hi).ar;have:=h.glen;rw[e,zam]; omega
theorem zmH{cs:List Nat}{c:S_api_Circuit}{input:List Int}(h:ROk cs c input):
  zbA mC false 61 [.agg [fzE false (eI .i64) c.cards,fzE false zaa c.gates],fzE false (eI .i64) input] [.cells [fzE false (eI .i64) c.cards,fzE false zaa c.gates]]
   (λd L'=>d=.tup [.ptr 2 0,dI 0]/\L'=rnB c input [] (.lit (.slice none 0 0))) λ_ _=>False:=by
 have hck:=zpz c h.ok.small;rw[h.b,qdl]at hck;have hl8:=h.ok.len;have hlc:c.cards.length=cs.length:=by rw[h.ok.cards,zam]
 have hln:(input.length:Int)=(c.cards.length:Int):=by rw[h.len,hlc]
 refine gnL ?_;refine zab ?_;simp only[rnA,Nat.reduceEqDiff,reduceIte,Nat.reduceLT,Nat.reduceAdd,Nat.reduceLeDiff,Nat.reduceMul,Nat.reduceSub,Int.reduceLE,Int.reduceLT,Int.reduceBEq,Nat.reduceBEq,reduceCtorEq];refine EvL.fn (zeQ hck) rfl rfl (.cons (.zrH (.cons (zbL _ _ (λh=>nomatch h)) (.cons (zbL _ _ (λh=>nomatch h)) .nil))) .nil) ?_;simp only[rnA,Nat.reduceEqDiff,reduceIte,Nat.reduceLT,Nat.reduceAdd,Nat.reduceLeDiff,Nat.reduceMul,Nat.reduceSub,Int.reduceLE,Int.reduceLT,Int.reduceBEq,Nat.reduceBEq,reduceCtorEq,Int.reduceBEq,za1,hln,qdq];refine EvL.scope (zab ?_);simp only[rnA,Nat.reduceEqDiff,reduceIte,Nat.reduceLT,Nat.reduceAdd,Nat.reduceLeDiff,Nat.reduceMul,Nat.reduceSub,Int.reduceLE,Int.reduceLT,Int.reduceBEq,Nat.reduceBEq,reduceCtorEq];refine EvL.loop (α:=Nat) (λk=>⟨43,[(1,fzE false (eI .i64) input),(2,.ptr 1 0),(20,fzE false (eI .i64) input),(21,dI (c.cards.length:Int)),(22,dI (k:Int))],[.cells [fzE false (eI .i64) c.cards,fzE false zaa c.gates],.cells [fzE false (eI .i64) c.cards,fzE false zaa c.gates]]⟩)
  (λk=>k<=c.cards.length) (λk=>c.cards.length - k) 0 (zaT.sub (by simp[zcp,lk])) (qaw _) ?_
 rintro k p1;refine zab ?_;by_cases hk:k<c.cards.length
 .have hlt:decide ((k:Int)<(c.cards.length:Int))=true:=qdn (by omega);have hki:k<input.length:=by omega
  have hw2:IntKind.i64.wrap ((k:Int)+1)=((k+1:Nat):Int):=by rw[wrap64 (by omega) (by omega)]; rfl
  obtain⟨q1,q2⟩:=h.inp k hk hki;have q3:decide (input[k] < -1)=false:=qdo (by omega);have q4:decide (c.cards[k]<=input[k])=false:=qdo (by omega);simp only[rnA,Nat.reduceEqDiff,reduceIte,Nat.reduceLT,Nat.reduceAdd,Nat.reduceLeDiff,Nat.reduceMul,Nat.reduceSub,Int.reduceLE,Int.reduceLT,Int.reduceBEq,Nat.reduceBEq,reduceCtorEq,hlt,zao (n:=1) (e:=eI .i64) rfl (zax hki)];refine EvL.scope (zab ?_);simp only[rnA,Nat.reduceEqDiff,reduceIte,Nat.reduceLT,Nat.reduceAdd,Nat.reduceLeDiff,Nat.reduceMul,Nat.reduceSub,Int.reduceLE,Int.reduceLT,Int.reduceBEq,Nat.reduceBEq,reduceCtorEq,zao (n:=1) (e:=eI .i64) rfl (zax hk),q3,q4,hw2];exact⟨k+1,hk,by omega,zaT.sub (by simp[zcp,lk])⟩
 have hlt:decide ((k:Int)<(c.cards.length:Int))=false:=qdo (by omega);simp only[rnA,Nat.reduceEqDiff,reduceIte,Nat.reduceLT,Nat.reduceAdd,Nat.reduceLeDiff,Nat.reduceMul,Nat.reduceSub,Int.reduceLE,Int.reduceLT,Int.reduceBEq,Nat.reduceBEq,reduceCtorEq,hlt];exact⟨_,rfl,rfl,rfl⟩
def zaU(c:S_api_Circuit)(input:List Int):Option (Int×Int):=
 bif ztE c input then some (match zdI input [] c.gates with | none=>(0,6)| some vals=>(((vals.getD (vals.length - 1) 0:Nat):Int),0))else none
theorem zfd{p0:S_api_Circuit}{p1:List Int}{r:Int×Int}(h:zaU p0 p1=some r):Lx.Fn mC 20 [(.agg [(fzE false (eI .i64) p0.cards),(fzE false zaa p0.gates)]),(fzE false (eI .i64) p1)] (.tup [(dI r.1),(dI r.2)]):=by
 unfold zaU at h;cases hb:ztE p0 p1 with
 | false=>rw[hb]at h; cases h
 | true=>
 rw[hb,qdl]at h;obtain⟨cs,ho⟩:=zr1 hb;have h1:=ho.ok.gone;have h4:=ho.ok.glen;refine gnO ?_;refine zab ?_;simp only[rnA,Nat.reduceEqDiff,reduceIte,Nat.reduceLT,Nat.reduceAdd,Nat.reduceLeDiff,Nat.reduceMul,Nat.reduceSub,Int.reduceLE,Int.reduceLT,Int.reduceBEq,Nat.reduceBEq,reduceCtorEq];refine EvL.call rfl rfl (zmH ho) ?_ (λ_ _ (h:False)=>False.elim h);rintro r L' ⟨rfl,rfl⟩;simp only[rnA,Nat.reduceEqDiff,reduceIte,Nat.reduceLT,Nat.reduceAdd,Nat.reduceLeDiff,Nat.reduceMul,Nat.reduceSub,Int.reduceLE,Int.reduceLT,Int.reduceBEq,Nat.reduceBEq,reduceCtorEq];have hev:=zil ho.ok ho.len (T:=[.cells [dI 0]]) (λn _=>⟨⟨qdk,qdk⟩,qdk⟩);refine EvL.call rfl rfl (zxv (L:=rnB p0 p1 [] (.lit (.slice none 0 0))) (first:=[.ptr 2 0]) (cap:=[]) hev ?_ ?_) ?_ (λ_ _ (h:False)=>False.elim h)
 .rintro d L' ⟨vals,_,_,_,rfl⟩; rfl
 .rintro d L' ⟨_,q1,v,X,rfl⟩; exact⟨q1,rfl⟩
 rintro r' L' (⟨rfl,d,vals,q1,q2,q3,rfl⟩| ⟨rfl,d,L0,⟨q1,_,_⟩,rfl⟩)
 .rw[q1]at h;cases h;have hl:vals.length - 1<vals.length:=by omega
  have hw:IntKind.i64.wrap ((p0.gates.length:Int) - 1)=((vals.length - 1:Nat):Int):=by
   rw[wrap64 (by omega) (by omega)]; omega
  have hlt:((vals.length - 1:Nat):Int)<((p0.gates.length:Nat):Int):=by omega
  have hg:=zln (m:=p0.gates.length) hl;have hes:(if p0.gates.length=(esL p0.gates.length vals).length then some (esL p0.gates.length vals)else none)=some (esL p0.gates.length vals):=if_pos (zkj (by omega)).symm;simp only[rnA,Nat.reduceEqDiff,reduceIte,Nat.reduceLT,Nat.reduceAdd,Nat.reduceLeDiff,Nat.reduceMul,Nat.reduceSub,Int.reduceLE,Int.reduceLT,Int.reduceBEq,Nat.reduceBEq,reduceCtorEq,zoB,rnB,qaL,qbe,hw,hlt,qaF,hg,hes];exact zg4.pl rfl rfl
 rw[q1]at h;cases h;simp only[rnA,Nat.reduceEqDiff,reduceIte,Nat.reduceLT,Nat.reduceAdd,Nat.reduceLeDiff,Nat.reduceMul,Nat.reduceSub,Int.reduceLE,Int.reduceLT,Int.reduceBEq,Nat.reduceBEq,reduceCtorEq];exact zg4.pl rfl rfl
def cL(xs:List Nat):List (List D):=xs.map λv:Nat=>[dI (v:Int)]
theorem zgU(xs:List Nat):(cL xs).length=xs.length:=by simp[cL]
theorem zju(ys:List Nat)(k x:Nat):(cL ys).set k [dI (x:Int)]=cL (ys.set k x):=by simp[cL,qct]
theorem ztL(n:Nat):List.replicate n [dI 0]=cL (List.replicate n 0):=by simp[cL]
variable{k:Nat}
theorem zoH{ys:List Nat}(h:k<ys.length):(cL ys)[((k:Nat):Int).toNat]? = some [dI ((ys.getD k 0:Nat):Int)]:=by
 rw[qaq]; simp[cL,h,zap h]
theorem zAs(xs:List Nat)(n:Nat):LB.sc n (.els 1 (cL xs)):=by
 intro cells h;obtain⟨v,_,rfl⟩:=qaJ.1 h;exact⟨qdk,qdk⟩
def zn4(vals ar:List Nat)(i:Nat):Nat:=zfQ vals (ar.take i) 1
def zul(vals ar:List Nat)(i:Nat):Nat:=zfQ vals (ar.drop i).reverse 1
def zmf(vals ar:List Nat):List Nat:=(List.range ar.length).map λi=>zlC (zn4 vals ar i) (zul vals ar (i+1))
theorem zzX{α:Type}(L:List α)(x y:α):(L ++ [x]).set L.length y=L ++ [y]:=by simp
theorem zr9{ar:List Nat}(hk:k<ar.length):zn4 vals ar (k+1)=zlC (zn4 vals ar k) (vals.getD ar[k] 0):=by
 unfold zn4 zfQ;rw[qda,qac hk];simp only[Option.toList_some,List.foldl_append,qbO,List.foldl_nil]
theorem zsP{ar:List Nat}(hk:k<ar.length):zul vals ar k=zlC (zul vals ar (k+1)) (vals.getD ar[k] 0):=by
 unfold zul zfQ;rw[qat hk,List.reverse_cons,List.foldl_append];rfl
theorem zhV(vals ar:List Nat):zfQ vals ar 1<=zbc:=zlc zg9 vals ar 1 (by decide)
theorem zuk{c:S_api_Circuit}{input:List Int}{m:Nat}{β:Nat}{L:List LB}(h:RunIn c input m vals β L)(ar:List Nat)(hl:ar.length<1000000)(ha:∀ a∈ar,a<vals.length):
  zbA mC false 111 [.ptr 2 0,fzE false (eI .i64) (iL ar)] L (λd L'=>d=.sl L.length 0 1 ar.length (some ar.length) ar.length/\L'=L ++ [.els 1 (cL (zmf vals ar))]) λ_ _=>False:=by
 refine gnL ?_;have hm':((ar.length:Int)* ((8:Nat):Int))<=(zah:Int):=by simp only[zah]; omega
 have hrun:∀ x,(L ++ [x])[2]? = some (.cells [fzE false (eI .i64) c.cards,fzE false zaa c.gates,fzE false (eI .i64) input,.sl β 0 1 vals.length (some m) m]):=λx=>zeq h.run _
 have hels:∀ x,(L ++ [x])[β]? = some (.els 1 (esL m vals)):=λx=>zeq h.els _
 have hme:∀ x,(L ++ [x])[L.length]? = some x:=λx=>znj L x
 have hval:∀ {k:Nat} (hk:k<ar.length),((((ar[k]:Nat):Int)<((vals.length:Nat):Int))=True)/\(esL m vals)[((ar[k]:Nat):Int).toNat]? = some [dI ((vals.getD ar[k] 0:Nat):Int)]:=λ{k} hk=>by
  have q:=ha ar[k] (qas hk);exact⟨eq_true (by omega),zln q⟩
 refine zab ?_;simp only[rnA,Nat.reduceEqDiff,reduceIte,Nat.reduceLT,Nat.reduceAdd,Nat.reduceLeDiff,Nat.reduceMul,Nat.reduceSub,Int.reduceLE,Int.reduceLT,Int.reduceBEq,Nat.reduceBEq,reduceCtorEq,za1,zam,qaF,qbC,hm',qaq,ztL];refine EvL.scope (zab ?_);simp only[rnA,Nat.reduceEqDiff,reduceIte,Nat.reduceLT,Nat.reduceAdd,Nat.reduceLeDiff,Nat.reduceMul,Nat.reduceSub,Int.reduceLE,Int.reduceLT,Int.reduceBEq,Nat.reduceBEq,reduceCtorEq];refine EvL.loop (α:=Nat×List Nat) (λa=>⟨64,[(0,.ptr 2 0),(1,fzE false (eI .i64) (iL ar)),(5,.sl L.length 0 1 ar.length (some ar.length) ar.length),(6,dI ((zn4 vals ar a.1:Nat):Int)),(7,dI 1),(14,fzE false (eI .i64) (iL ar)),(15,dI (ar.length:Int)),(16,dI (a.1:Int))],L ++ [.els 1 (cL a.2)]⟩)
  (λa=>a.1<=ar.length/\a.2.length=ar.length/\∀ i,i<a.1->a.2.getD i 0=zn4 vals ar i) (λa=>ar.length - a.1) (0,List.replicate ar.length 0) (zaT.sub (by simp[zcp,lk,zn4,zfQ])) ⟨qaw _,by simp,λi hi=>absurd hi (qan _)⟩ ?_
 rintro⟨k,res⟩ ⟨p1,p2,p3⟩;simp only at p1 p2 p3;refine zab ?_;by_cases hk:k<ar.length
 .have hlt:decide ((k:Int)<(ar.length:Int))=true:=qdn (by omega);have hltp:((k:Int)<((ar.length:Nat):Int))=True:=eq_true (by omega);have hw2:IntKind.i64.wrap ((k:Int)+1)=((k+1:Nat):Int):=by rw[wrap64 (by omega) (by omega)]; rfl
  obtain⟨v1,v2⟩:=hval hk;have hkr:k<res.length:=by omega
  have hget:=zoH hkr;have hli:(ar.length=(cL res).length)=True:=eq_true (by rw[zgU,p2]);have hst:∀ x:Nat,(cL res).set ((k:Nat):Int).toNat [dI (x:Int)]=cL (res.set k x):=λx=>by rw[qaq,zju]
  simp only[rnA,Nat.reduceEqDiff,reduceIte,Nat.reduceLT,Nat.reduceAdd,Nat.reduceLeDiff,Nat.reduceMul,Nat.reduceSub,Int.reduceLE,Int.reduceLT,Int.reduceBEq,Nat.reduceBEq,reduceCtorEq,hlt,hltp,zao (n:=1) (e:=eI .i64) rfl (zaz hk),qaF,hme,hli,hget,hst,zzX,hrun,hels,v1,v2,h.es];refine EvL.fn (zbX (ziy (zhV vals (ar.take k)) (h.bnd ar[k]))) rfl rfl (.cons (.lit _) (.cons (.lit _) .nil)) ?_;have hbs:=zr9 (vals:=vals) hk;unfold zn4 at hbs;rw[<- hbs];simp only[rnA,Nat.reduceEqDiff,reduceIte,Nat.reduceLT,Nat.reduceAdd,Nat.reduceLeDiff,Nat.reduceMul,Nat.reduceSub,Int.reduceLE,Int.reduceLT,Int.reduceBEq,Nat.reduceBEq,reduceCtorEq,hw2];refine⟨(k+1,res.set k (zn4 vals ar k)),⟨hk,by rw[qaG]; exact p2,λi hi=>?_⟩,by simp only; omega,zaT.sub (by simp[zcp,lk,zn4])⟩;simp only at hi ⊢;rw[zdX _ _ _ _ _ hkr];split
  .next e=>rw[e]
  exact p3 i (by omega)
 have hlt:decide ((k:Int)<(ar.length:Int))=false:=qdo (by omega);have hke:k=ar.length:=by omega
 have hw3:IntKind.i64.wrap ((ar.length:Int) - 1)=(ar.length:Int) - 1:=wrap64 (by omega) (by omega);simp only[rnA,Nat.reduceEqDiff,reduceIte,Nat.reduceLT,Nat.reduceAdd,Nat.reduceLeDiff,Nat.reduceMul,Nat.reduceSub,Int.reduceLE,Int.reduceLT,Int.reduceBEq,Nat.reduceBEq,reduceCtorEq,hlt,za1,zam,hw3];refine EvL.scope (zab ?_);simp only[rnA,Nat.reduceEqDiff,reduceIte,Nat.reduceLT,Nat.reduceAdd,Nat.reduceLeDiff,Nat.reduceMul,Nat.reduceSub,Int.reduceLE,Int.reduceLT,Int.reduceBEq,Nat.reduceBEq,reduceCtorEq];refine EvL.loop (α:=Nat×List Nat) (λa=>⟨64,[(0,.ptr 2 0),(1,fzE false (eI .i64) (iL ar)),(5,.sl L.length 0 1 ar.length (some ar.length) ar.length),(7,dI ((zul vals ar a.1:Nat):Int)),(10,dI ((a.1:Int) - 1))],L ++ [.els 1 (cL a.2)]⟩)
  (λa=>a.1<=ar.length/\a.2.length=ar.length/\(∀ i,i<a.1->a.2.getD i 0=zn4 vals ar i)/\∀ i,a.1<=i->i<ar.length->a.2.getD i 0=zlC (zn4 vals ar i) (zul vals ar (i+1))) (λa=>a.1) (ar.length,res)
  (zaT.sub (by simp[zcp,lk,zul,zfQ])) ⟨qap _,p2,λi hi=>p3 i (by omega),λi h1 h2=>by simp only at h1; omega⟩ ?_
 rintro⟨j,rs⟩ ⟨q1,q2,q3,q4⟩;simp only at q1 q2 q3 q4;refine zab ?_;cases j with
 | zero=>
  have hge:decide ((0:Int)<=((0:Nat):Int) - 1)=false:=by decide
  simp only[rnA,Nat.reduceEqDiff,reduceIte,Nat.reduceLT,Nat.reduceAdd,Nat.reduceLeDiff,Nat.reduceMul,Nat.reduceSub,Int.reduceLE,Int.reduceLT,Int.reduceBEq,Nat.reduceBEq,reduceCtorEq,hge];refine⟨_,rfl,rfl,?_⟩;have:rs=zmf vals ar:=by
   refine qcX (by simp[zmf,q2]) λi h1 h2=>?_
   have:=q4 i (qaw _) (by omega);rw[zap h1]at this;rw[this];simp[zmf]
  rw[this]
 | succ j=>
  have hj:j<ar.length:=by omega
  have hcast:(((j+1:Nat):Int) - 1)=(j:Int):=by omega
  have hge:decide ((0:Int)<=(j:Int))=true:=qdn (by omega);have hjp:((j:Int)<((ar.length:Nat):Int))=True:=eq_true (by omega);have hw4:IntKind.i64.wrap ((j:Int) - 1)=(j:Int) - 1:=wrap64 (by omega) (by omega);obtain⟨v1,v2⟩:=hval hj;have hjr:j<rs.length:=by omega
  have hget:=zoH hjr;rw[q3 j (qaW j)]at hget;have hli:(ar.length=(cL rs).length)=True:=eq_true (by rw[zgU,q2]);have hst:∀ x:Nat,(cL rs).set ((j:Nat):Int).toNat [dI (x:Int)]=cL (rs.set j x):=λx=>by rw[qaq,zju]
  simp only[rnA,Nat.reduceEqDiff,reduceIte,Nat.reduceLT,Nat.reduceAdd,Nat.reduceLeDiff,Nat.reduceMul,Nat.reduceSub,Int.reduceLE,Int.reduceLT,Int.reduceBEq,Nat.reduceBEq,reduceCtorEq,hcast,hge,hjp,qaF,hme,hli,hget];refine EvL.fn (zbX (ziy (zhV vals (ar.take j)) (zhV vals (ar.drop (j+1)).reverse))) rfl rfl (.cons (.lit _) (.cons (.lit _) .nil)) ?_;simp only[rnA,Nat.reduceEqDiff,reduceIte,Nat.reduceLT,Nat.reduceAdd,Nat.reduceLeDiff,Nat.reduceMul,Nat.reduceSub,Int.reduceLE,Int.reduceLT,Int.reduceBEq,Nat.reduceBEq,reduceCtorEq,hjp,qaF,hme,hli,hget,hst,zzX,hrun,hels,zao (n:=1) (e:=eI .i64) rfl (zaz hj),v1,v2,h.es];refine EvL.fn (zbX (ziy (zhV vals (ar.drop (j+1)).reverse) (h.bnd ar[j]))) rfl rfl (.cons (.lit _) (.cons (.lit _) .nil)) ?_;have hbs:=zsP (vals:=vals) hj;unfold zul at hbs;rw[<- hbs];simp only[rnA,Nat.reduceEqDiff,reduceIte,Nat.reduceLT,Nat.reduceAdd,Nat.reduceLeDiff,Nat.reduceMul,Nat.reduceSub,Int.reduceLE,Int.reduceLT,Int.reduceBEq,Nat.reduceBEq,reduceCtorEq,hw4];refine⟨(j,rs.set j (zlC (zn4 vals ar j) (zul vals ar (j+1)))),⟨by omega,by rw[qaG]; exact q2,λi hi=>?_,λi h1 h2=>?_⟩,qaW j,zaT.sub (by simp[zcp,lk,zul,zn4])⟩
  .simp only at hi ⊢;rw[zdX _ _ _ _ _ hjr,if_neg (by omega)];exact q3 i (by omega)
  simp only at h1 ⊢;rw[zdX _ _ _ _ _ hjr];split
  .next e=>rw[e]
  exact q4 i (by omega) h2
abbrev zka:D:=.lit (.slice none 0 0)
def slW:Nat->List Nat->List (List D)
 | _,[]=>[]
 | b,k :: r=>[.sl b 0 1 k (some k) k]:: slW (b+1) r
theorem zf9:∀(cs:List Nat) (b:Nat),(slW b cs).length=cs.length
 | [],_=>rfl
 | k :: r,b=>by simp[slW,zf9 r]
theorem zsk:∀(cs:List Nat) (b v:Nat) (h:v<cs.length),(slW b cs)[v]? = some [.sl (b+v) 0 1 cs[v] (some cs[v]) cs[v]]
 | [],_,v,h=>by simp at h
 | k :: r,b,0,_=>by simp[slW]
 | k :: r,b,v+1,h=>by
  simp only[slW,qa6,qci];rw[zsk r (b+1) v (by simpa using h),show b+1+v=b+(v+1) by omega]
theorem zsF:∀(cs:List Nat) (b k:Nat),slW b (cs ++ [k])=slW b cs ++ [[.sl (b+cs.length) 0 1 k (some k) k]]
 | [],b,k=>by simp[slW]
 | x :: r,b,k=>by
  simp only[slW,qaL,qaH];rw[zsF r (b+1) k,show b+1+r.length=b+(r.length+1) by omega]
theorem zxF{n:Nat}:∀(cs:List Nat) (b:Nat),b+cs.length<=n->∀ cells∈slW b cs,D.scs n cells
 | [],b,_,cells,h=>by simp[slW]at h
 | k :: r,b,hb,cells,h=>by
  simp only[slW,qbc,qaH]at h hb;rcases h with rfl | h
  .exact⟨by show b<n; omega,qdk⟩
  exact zxF r (b+1) (by omega) cells h
abbrev zqA(r:List Nat):LB:=.els 1 (cL r)
def dvP(B:List LB)(cs:List Nat)(v:Nat):List LB:=B ++ .els 1 (slW 9 (cs.take v)++ List.replicate (cs.length - v) [zka])::(cs.take v).map λk=>zqA (List.replicate k 0)
def dvL(B:List LB)(cs:List Nat)(rows:List (List Nat))(ss:List Nat):List LB:=B ++ .els 1 (slW 9 cs)::(rows.map zqA ++ [zqA ss])
def zcz(cs:List Nat):List (List Nat):=cs.map λk=>List.replicate k 0
section
variable {B:List LB} {cs:List Nat} {rows:List (List Nat)} {ss:List Nat}
theorem zsY(hB:B.length=8){v:Nat}(hv:v<=cs.length):(dvP B cs v).length=9+v:=by simp[dvP,hB]; omega
theorem zx0(hB:B.length=8)(v:Nat)(X:List LB):(dvP B cs v ++ X)[8]? = some (.els 1 (slW 9 (cs.take v)++ List.replicate (cs.length - v) [zka])):=by
 unfold dvP;rw[qaI,qak (by omega),hB];rfl
theorem zyb{i:Nat}{b:LB}(h:B[i]? = some b)(v:Nat)(X:List LB):(dvP B cs v ++ X)[i]? = some b:=by
 unfold dvP;exact zeq (zeq h _) _
theorem zwr(hB:B.length=8){v:Nat}(hv:v<cs.length):(dvP B cs v ++ [zqA (List.replicate cs[v] 0)]).set 8 (.els 1 ((slW 9 (cs.take v)++ List.replicate (cs.length - v) [zka]).set v [.sl (9+v) 0 1 cs[v] (some cs[v]) cs[v]]))=dvP B cs (v+1):=by
 have hl:(slW 9 (cs.take v)).length=v:=by rw[zf9]; simp; omega
 have h1:cs.length - v=(cs.length - (v+1))+1:=by omega
 have ht:cs.take (v+1)=cs.take v ++ [cs[v]]:=by rw[qda,qac hv]; rfl
 unfold dvP;rw[qaI,qbD _ _ (by omega),hB,qbw,qaL,qbK,ht,zsF,qb8,qbD _ _ (by omega),hl,qbw,h1,qaU,qbK];simp[qbd (Nat.le_of_lt hv)]
theorem zyu(ss:List Nat):dvP B cs cs.length ++ [zqA ss]=dvL B cs (zcz cs) ss:=by
 unfold dvP dvL zcz;simp
theorem zxp(hB:B.length=8)(hr:rows.length=cs.length)(ss:List Nat):(dvL B cs rows ss).length=10+cs.length:=by simp[dvL,hB,hr]; omega
theorem zlS{i:Nat}{b:LB}(h:B[i]? = some b)(ss:List Nat)(X:List LB):(dvL B cs rows ss ++ X)[i]? = some b:=zeq (zeq h _) _
theorem zxQ(hB:B.length=8)(ss:List Nat)(X:List LB):(dvL B cs rows ss ++ X)[8]? = some (.els 1 (slW 9 cs)):=by
 unfold dvL;rw[qaI,qak (by omega),hB];rfl
theorem ztK(hB:B.length=8){v:Nat}(hv:v<rows.length)(ss:List Nat)(X:List LB):(dvL B cs rows ss ++ X)[9+v]? = some (zqA rows[v]):=by
 unfold dvL;rw[qaI,qak (by omega),hB,show 9+v - 8=v+1 by omega,qaL,qa6,qaI,qaf (by simpa using hv)];simp[hv]
theorem zta(hB:B.length=8)(hr:rows.length=cs.length)(ss:List Nat)(X:List LB):(dvL B cs rows ss ++ X)[9+cs.length]? = some (zqA ss):=by
 unfold dvL;rw[qaI,qak (by omega),hB,show 9+cs.length - 8=cs.length+1 by omega,qaL,qa6,qaI,qak (by simp[hr])];simp[hr]
theorem zrM(hB:B.length=8){v:Nat}(hv:v<rows.length)(ss r:List Nat)(X:List LB):(dvL B cs rows ss ++ X).set (9+v) (zqA r)=dvL B cs (rows.set v r) ss ++ X:=by
 unfold dvL;rw[qaI,qbD _ _ (by omega),hB,show 9+v - 8=v+1 by omega,qaL,qbL,qaI,qcQ _ _ (by simpa using hv)];simp[qct]
theorem zna(hB:B.length=8)(hr:rows.length=cs.length)(ss s':List Nat)(X:List LB):(dvL B cs rows ss ++ X).set (9+cs.length) (zqA s')=dvL B cs rows s' ++ X:=by
 unfold dvL;rw[qaI,qbD _ _ (by omega),hB,show 9+cs.length - 8=cs.length+1 by omega,qaL,qbL,qaI,qbD _ _ (by simp[hr])];simp[hr]
theorem zjX{n:Nat}:∀(rows:List (List Nat)),zcB n (rows.map zqA)
 | []=>trivial
 | r :: rows=>⟨zAs r n,zjX rows⟩
theorem zAY{n:Nat}(hb:zcB n B)(hn:9+cs.length<=n)(rows:List (List Nat))(ss:List Nat):zcB n (dvL B cs rows ss):=zeA hb ⟨λcells h=>zxF cs 9 hn cells h,zeA (zjX rows) ⟨zAs ss n,qdk⟩⟩
theorem zpS{N:Nat}{E E':List (Nat×D)}{X:List LB}{k0:Nat}(hB:B.length=8)(hsc:∀ n,8<=n->zcB n B)(hr:rows.length=cs.length)(hk:k0<=10+cs.length)(he:zme E (10+cs.length) E'):
  zaT k0 ⟨N,E,dvL B cs rows ss ++ X⟩ ⟨N,E',dvL B cs rows ss⟩:=by
 have hl:=zxp hB hr ss;exact zaT.cut (by rw[hl]; exact hk) (by rw[hl]; exact he) (by rw[hl]; exact zAY (hsc _ (by omega)) (by omega) rows ss)
end
def zdK(slope:Nat):List Nat->List Nat->List Nat
 | ss,[]=>ss
 | ss,a :: r=>zdK slope (ss.set a (zfA (ss.getD a 0) slope)) r
def zdJ(slope:Nat):List Nat->List Nat->List Nat->List Nat
 | ss,a :: r,q :: s=>zdJ slope (ss.set a (zfA (ss.getD a 0) (zlC slope q))) r s
 | ss,_,_=>ss
def rowAt(rows:List (List Nat))(v:Nat):List Nat:=rows.getD v []
def zcU(vals:List Nat)(g:S_api_Gate)(slope:Nat)(rows:List (List Nat))(ss:List Nat):Option (List (List Nat)×List Nat):=
 bif slope == zbc then none else
 bif g.kind == 2 then(bif zfA ((rowAt rows g.var.toNat).getD g.val.toNat 0) slope == zbc then none else some (rows.set g.var.toNat ((rowAt rows g.var.toNat).set g.val.toNat (zfA ((rowAt rows g.var.toNat).getD g.val.toNat 0) slope)),ss))else
 bif g.kind == 3 then some (rows,zdK slope ss (ga g))else
 bif g.kind == 4 then some (rows,zdJ slope ss (ga g) (zmf vals (ga g)))else some (rows,ss)
def zgd(vals:List Nat)(gs:List S_api_Gate):Nat->List (List Nat)->List Nat->Option (List (List Nat))
 | 0,rows,_=>some rows
 | j+1,rows,ss=>match zcU vals (gs.getD j ⟨0,0,0,0,[]⟩) (ss.getD j 0) rows ss with
  | none=>none
  | some (rows',ss')=>zgd vals gs j rows' ss'
def zcY(m:Nat):List Nat:=(List.replicate m 0).set (m - 1) 1
structure RwOk (cs:List Nat) (rows:List (List Nat)):Prop where
 len:rows.length=cs.length
 row:∀ v (h:v<rows.length) (h2:v<cs.length),rows[v].length=cs[v]
 bnd:∀ r∈rows,∀ x∈r,x<=zbc
structure SloOk (m:Nat) (ss:List Nat):Prop where
 len:ss.length=m
 bnd:∀ x∈ss,x<=zbc
theorem SloOk.set{m:Nat}{ss:List Nat}(h:SloOk m ss)(k:Nat){x:Nat}(h1:x<=zbc):SloOk m (ss.set k x):=by
 refine⟨by simp[h.len],λy hy=>?_⟩;rcases qbg hy with hy | rfl
 .exact h.bnd y hy
 exact h1
theorem SloOk.le{m:Nat}{ss:List Nat}(h:SloOk m ss)(a:Nat):ss.getD a 0<=zbc:=by
 rw[qaj];by_cases ha:a<ss.length
 .rw[qac ha]; exact h.bnd _ (qas ha)
 rw[qaP (by omega)]; exact qaw _
theorem zlm(cs:List Nat):RwOk cs (zcz cs):=by
 refine⟨by simp[zcz],λv h h2=>by simp[zcz],λr hr x hx=>?_⟩;obtain⟨k,_,rfl⟩:=qaJ.1 hr;rw[qb9 hx];exact qaw _
theorem zfo(m:Nat):SloOk m (zcY m):=SloOk.set ⟨by simp,λx hx=>by rw[qb9 hx]; exact qaw _⟩ _ (by decide)
theorem RwOk.set{cs:List Nat}{rows:List (List Nat)}(h:RwOk cs rows){v:Nat}(hv:v<rows.length){r:List Nat}(hr:r.length=rows[v].length)(hb:∀ x∈r,x<=zbc):RwOk cs (rows.set v r):=by
 refine⟨by simp[h.len],λu hu h2=>?_,λs hs=>?_⟩
 .rw[List.getElem_set];split
  .rename_i e; subst e; rw[hr]; exact h.row v hv h2
  exact h.row u (by simpa using hu) h2
 rcases qbg hs with hs | rfl
 .exact h.bnd s hs
 exact hb
theorem zws(vals ar:List Nat):(zmf vals ar).length=ar.length:=by simp[zmf]
theorem zvE(vals ar:List Nat):∀ q∈zmf vals ar,q<=zbc:=by
 intro q hq;obtain⟨i,_,rfl⟩:=qaJ.1 hq;exact zg9 _ _
theorem zsM{cs:List Nat}{c:S_api_Circuit}(hc:COk cs c){input:List Int}{vals:List Nat}(hvl:vals.length=c.gates.length)(hvb:∀ a,vals.getD a 0<=zbc){B:List LB}(hB:B.length=8)
  (hB2:B[2]? = some (.cells [fzE false (eI .i64) c.cards,fzE false zaa c.gates,fzE false (eI .i64) input,.sl 7 0 1 c.gates.length (some c.gates.length) c.gates.length])) (hB7:B[7]? = some (.els 1 (esL c.gates.length vals))) (hsc:∀ n,8<=n->zcB n B):
  zbA mC false 65 [.ptr 2 0] B
   (λd L'=>∃ rows ss,zgd vals c.gates c.gates.length (zcz cs) (zcY c.gates.length)=some rows/\RwOk cs rows/\d=.sl 8 0 1 cs.length (some cs.length) cs.length/\L'=dvL B cs rows ss)
   (λd L'=>zgd vals c.gates c.gates.length (zcz cs) (zcY c.gates.length)=none/\(∃ t r,d=.ifc t r)/\∃ X,L'=B ++ X):=by
 refine zbA.ofM zq3 (zbG rfl) (qah rfl) ?_;unfold zpU;have hm1:=hc.gone;have hm2:=hc.glen;have hn1:=hc.one;have hn2:=hc.len;have hcl:c.cards.length=cs.length:=by rw[hc.cards,zam]
 have hgate:=hc.gate;have hk24:((cs.length:Int)* ((24:Nat):Int))<=(zah:Int):=by simp only[zah]; omega
 have hk8:((c.gates.length:Int)* ((8:Nat):Int))<=(zah:Int):=by simp only[zah]; omega
 have hBx2:∀ x,(B ++ [x])[2]? = some (.cells [fzE false (eI .i64) c.cards,fzE false zaa c.gates,fzE false (eI .i64) input,.sl 7 0 1 c.gates.length (some c.gates.length) c.gates.length]):=λx=>zeq hB2 _
 refine zab ?_;refine ziz hB2 hcl @qaF @qbC hk24 (anM @qaq (anM hB hBx2)) ?_;refine EvL.scope (zab ?_);refine sSM ?_;refine EvL.loop (α:=Nat) (λv=>⟨157,[(0,.ptr 2 0),(3,.sl 8 0 1 cs.length (some cs.length) cs.length),(27,fzE false (eI .i64) c.cards),(28,dI (cs.length:Int)),(29,dI (v:Int))],dvP B cs v⟩) (λv=>v<=cs.length) (λv=>cs.length - v) 0 ?_ (qaw _) ?_
 .have e0:B ++ [.els 1 (List.replicate cs.length [zka])]=dvP B cs 0:=by simp[dvP,slW]
  rw[e0];exact zaT.sub (by simp[zcp,lk])
 intro v p1;refine zab ?_;by_cases hv2:v<cs.length
 .have hlt:decide ((v:Int)<(cs.length:Int))=true:=qdn (by omega);have hltp:((v:Int)<((cs.length:Nat):Int))=True:=eq_true (by omega);have hw2:IntKind.i64.wrap ((v:Int)+1)=((v+1:Nat):Int):=by rw[wrap64 (by omega) (by omega)]; rfl
  have hc8:=hc.card _ (qas hv2);have hPl:(dvP B cs v).length=9+v:=zsY hB (by omega);have h8:=λX=>zx0 (cs:=cs) hB v X
  have hRl:(slW 9 (cs.take v)++ List.replicate (cs.length - v) [zka]).length=cs.length:=by simp[zf9]; omega
  have hRg:(slW 9 (cs.take v)++ List.replicate (cs.length - v) [zka])[v]? = some [zka]:=by
   have hsl:(slW 9 (cs.take v)).length=v:=by rw[zf9]; simp; omega
   rw[qak (by omega),hsl,qbw,qbX,if_pos (by omega)]
  have hst:=zwr (cs:=cs) hB hv2;have hci:zaC c.cards (v:Int)=some ((cs[v]:Nat):Int):=by rw[hc.cards,zaz hv2]
  have ck:(((cs[v]:Nat):Int)* ((8:Nat):Int))<=(zah:Int):=by simp only[zah]; omega
  have hli:(cs.length=(slW 9 (cs.take v)++ List.replicate (cs.length - v) [zka]).length)=True:=eq_true hRl.symm;generalize (slW 9 (cs.take v)++ List.replicate (cs.length - v) [zka])=rsl at *;generalize cs[v]=k at *;refine ziz hltp (zao (n:=1) (e:=eI .i64) rfl hci) @qaF @qbC ck (anM hPl (anM h8 (anM hRl (anM hRg (anM @qaq (anM ztL (anM hst hw2))))))) ?_;exact⟨v+1,by omega,by omega,zaT.sub (by simp[zcp,lk])⟩
 have hlt:decide ((v:Int)<(cs.length:Int))=false:=qdo (by omega);have hve:v=cs.length:=by omega
 subst hve;have hw3:IntKind.i64.wrap ((c.gates.length:Int) - 1)=((c.gates.length - 1:Nat):Int):=by rw[wrap64 (by omega) (by omega)]; omega
 have hP2:∀ X,(dvP B cs cs.length ++ X)[2]? = some (.cells [fzE false (eI .i64) c.cards,fzE false zaa c.gates,fzE false (eI .i64) input,.sl 7 0 1 c.gates.length (some c.gates.length) c.gates.length]):=λX=>zyb hB2 _ X
 have hP20:(dvP B cs cs.length)[2]? = some (.cells [fzE false (eI .i64) c.cards,fzE false zaa c.gates,fzE false (eI .i64) input,.sl 7 0 1 c.gates.length (some c.gates.length) c.gates.length]):=by simpa using hP2 []
 have hPl:(dvP B cs cs.length).length=9+cs.length:=zsY hB (qap _);have hPA:∀ ss,dvP B cs cs.length ++ [.els 1 (cL ss)]=dvL B cs (zcz cs) ss:=λss=>zyu ss
 have hS0:∀ ss,(dvL B cs (zcz cs) ss)[9+cs.length]? = some (.els 1 (cL ss)):=λss=>by simpa using zta (cs:=cs) hB (zlm cs).len ss []
 have hS1:∀ ss s',(dvL B cs (zcz cs) ss).set (9+cs.length) (.els 1 (cL s'))=dvL B cs (zcz cs) s':=λss s'=>by simpa using zna (cs:=cs) hB (zlm cs).len ss s' []
 have hltm:(((c.gates.length - 1:Nat):Int)<((c.gates.length:Nat):Int))=True:=eq_true (by omega);have hz:(cL (List.replicate c.gates.length 0))[c.gates.length - 1]? = some [dI 0]:=by simp[cL,show c.gates.length - 1<c.gates.length by omega]
 have hli:(c.gates.length=(cL (List.replicate c.gates.length 0)).length)=True:=eq_true (by rw[zgU]; simp);have hset1:(cL (List.replicate c.gates.length 0)).set (c.gates.length - 1) [dI 1]=cL (zcY c.gates.length):=zju _ _ 1;refine ziz hlt hP20 hw3 @qaF @qbC (anM hk8 (anM @qaq (anM hPl (anM ztL (anM hPA (anM hS0 (anM hltm (anM hz (anM hli (anM hset1 hS1)))))))))) ?_;refine EvL.scope (zab ?_);refine sSM ?_;refine EvL.loop (α:=Nat×List (List Nat)×List Nat) (λa=>⟨157,[(0,.ptr 2 0),(3,.sl 8 0 1 cs.length (some cs.length) cs.length),(7,.sl (9+cs.length) 0 1 c.gates.length (some c.gates.length) c.gates.length),(8,dI ((a.1:Int) - 1))],dvL B cs a.2.1 a.2.2⟩)
  (λa=>a.1<=c.gates.length/\RwOk cs a.2.1/\SloOk c.gates.length a.2.2/\zgd vals c.gates a.1 a.2.1 a.2.2=zgd vals c.gates c.gates.length (zcz cs) (zcY c.gates.length)) (λa=>a.1) (c.gates.length,zcz cs,zcY c.gates.length) ?_ ⟨qap _,zlm cs,zfo _,rfl⟩ ?_
 .refine zaT.sub ?_;simp[zcp,lk];omega
 rintro⟨j,rows,ss⟩ ⟨q1,q2,q3,q4⟩;simp only at q1 q2 q3 q4;refine zab ?_;have hrl:=q2.len;have hsl:=q3.len;have g2:∀ s' X,(dvL B cs rows s' ++ X)[2]? = some (.cells [fzE false (eI .i64) c.cards,fzE false zaa c.gates,fzE false (eI .i64) input,.sl 7 0 1 c.gates.length (some c.gates.length) c.gates.length]):=λs' X=>zlS hB2 s' X
 have g20:(dvL B cs rows ss)[2]? = some (.cells [fzE false (eI .i64) c.cards,fzE false zaa c.gates,fzE false (eI .i64) input,.sl 7 0 1 c.gates.length (some c.gates.length) c.gates.length]):=by simpa using g2 ss []
 have gS0:(dvL B cs rows ss)[9+cs.length]? = some (.els 1 (cL ss)):=by simpa using zta (cs:=cs) hB hrl ss []
 have gS:∀ s' X,(dvL B cs rows s' ++ X)[9+cs.length]? = some (.els 1 (cL s')):=λs' X=>zta hB hrl s' X
 have gSet:∀ s1 s2 X,(dvL B cs rows s1 ++ X).set (9+cs.length) (.els 1 (cL s2))=dvL B cs rows s2 ++ X:=λs1 s2 X=>zna hB hrl s1 s2 X
 have gl:∀ s',(dvL B cs rows s').length=10+cs.length:=λs'=>zxp hB hrl s'
 cases j with
 | zero=>
  have hge:decide ((0:Int)<=((0:Nat):Int) - 1)=false:=by decide
  rw[zgd]at q4;refine sXM hge ?_;exact⟨_,rfl,rows,ss,q4.symm,q2,rfl,rfl⟩
 | succ j=>
  have hj:j<c.gates.length:=by omega
  have hcast:(((j+1:Nat):Int) - 1)=(j:Int):=by omega
  have hge:decide ((0:Int)<=(j:Int))=true:=qdn (by omega);have hjp:((j:Int)<((c.gates.length:Nat):Int))=True:=eq_true (by omega);have hw4:IntKind.i64.wrap ((j:Int) - 1)=(j:Int) - 1:=wrap64 (by omega) (by omega);have hjs:j<ss.length:=by omega
  have hsj:=zoH hjs;have hli:(c.gates.length=(cL ss).length)=True:=eq_true (by rw[zgU,hsl]);obtain⟨g,hgg⟩:∃ g,g=c.gates[j]:=⟨_,rfl⟩;have hget:zaC c.gates (j:Int)=some g:=by rw[zax hj,hgg]
  have hg:GtOk cs j g:=by rw[hgg]; exact hgate _ hj
  have hgd:c.gates.getD j ⟨0,0,0,0,[]⟩=g:=by rw[zap hj,hgg]
  rw[zgd,hgd]at q4;have hs1:=q3.le j;generalize hslo:ss.getD j 0=slope at *;have hbq:(((slope:Nat):Int)== 4611686018427387904)=(slope == zbc):=zxn _ zbc;refine ziz hcast gS0 hjp @qaF hli hsj ?_;refine EvL.scope (zab ?_);cases hbig:(slope == zbc)with
  | true=>
   have hst:zcU vals g slope rows ss=none:=by unfold zcU; rw[hbig]; rfl
   rw[hst]at q4;refine zku hbq hbig ?_;exact EvL.panic rfl rfl ⟨q4.symm,⟨_,_,rfl⟩,_,rfl⟩
  | false=>
   simp only[rnA,Nat.reduceEqDiff,Nat.reduceLT,Nat.reduceAdd,Nat.reduceLeDiff,reduceCtorEq,hbq,hbig,g20,zao (n:=5) (e:=zaa) rfl hget,zaD,at0 (gl _),zC8 (gl _),gl];refine EvL.scope (zab ?_);cases hg with
   | num n hn=>
    have hst:zcU vals ⟨1,0,0,(n:Int),[]⟩ slope rows ss=some (rows,ss):=by unfold zcU; rw[hbig]; rfl
    rw[hst]at q4;refine sXM hw4 ?_;exact⟨(j,rows,ss),⟨by simp only; omega,q2,q3,q4⟩,qaW j,zpS hB hsc hrl (by omega) (by simp[zme,lk,D.sc]; omega)⟩
   | is v x hv hx=>
    have hvr:v<rows.length:=by omega
    have hrow:rowAt rows v=rows[v]:=zap hvr;have hcd:cs.getD v 0=cs[v]:=zap hv;have hrlen:rows[v].length=cs[v]:=q2.row v hvr hv;rw[hcd]at hx;have hxr:x<rows[v].length:=by omega
    have hslr:(slW 9 cs)[((v:Nat):Int).toNat]? = some [.sl (9+v) 0 1 cs[v] (some cs[v]) cs[v]]:=by rw[qaq]; exact zsk cs 9 v hv
    have hrb:=q2.bnd _ (qas hvr);have gr:=λs' X=>ztK (cs:=cs) hB hvr s' X
    have gset2:=λs' r X=>zrM (cs:=cs) hB hvr s' r X
    have grs:∀ s' r X,(dvL B cs (rows.set v r) s' ++ X)[9+v]? = some (zqA r):=λs' r X=>by
     have:=ztK (cs:=cs) (rows:=rows.set v r) hB (v:=v) (by simpa using hvr) s' X;simpa using this
    have hst:zcU vals ⟨2,(v:Int),(x:Int),0,[]⟩ slope rows ss=(bif zfA (rows[v].getD x 0) slope == zbc then none else some (rows.set v (rows[v].set x (zfA (rows[v].getD x 0) slope)),ss)):=by
     unfold zcU;rw[hbig,qdm];show(bif zfA ((rowAt rows ((v:Nat):Int).toNat).getD ((x:Nat):Int).toNat 0) slope == zbc then none else some (rows.set ((v:Nat):Int).toNat ((rowAt rows ((v:Nat):Int).toNat).set ((x:Nat):Int).toNat (zfA ((rowAt rows ((v:Nat):Int).toNat).getD ((x:Nat):Int).toNat 0) slope)),ss))=_;rw[qaq,qaq,hrow]
    rw[hst]at q4;have hRset:=λr h1 h2=>q2.set hvr (r:=r) h1 h2
    have g8:=λs' X=>zxQ (cs:=cs) (rows:=rows) hB s' X
    have hvp:((v:Int)<((cs.length:Nat):Int))=True:=eq_true (by omega);have hsl9:(cs.length=(slW 9 cs).length)=True:=eq_true (zf9 cs 9).symm;generalize hrowe:rows[v]=row at *;have hgv:=zoH hxr;have hvb2:row.getD x 0<=zbc:=by rw[zap hxr]; exact hrb _ (qas hxr)
    have hxp:((x:Int)<((cs[v]:Nat):Int))=True:=eq_true (by omega);have hrl2:(cs[v]=(cL row).length)=True:=eq_true (by rw[zgU,hrlen]);generalize cs[v]=k at *;simp only[rnA,Nat.reduceEqDiff,Nat.reduceLT,reduceCtorEq,g8,hsl9,qaF,hvp,hslr,gr,hxp,hrl2,hgv,at0 (gl _)];refine fCM (zcN (zpY hvb2 hs1)) ?_;have hy2:=zhv (row.getD x 0) slope;generalize hye:zfA (row.getD x 0) slope=y at *;have hstr:(cL row).set ((x:Nat):Int).toNat [dI (y:Int)]=cL (row.set x y):=by rw[qaq,zju]
    have hgy:(cL (row.set x y))[((x:Nat):Int).toNat]? = some [dI (y:Int)]:=by rw[qaq]; simp[cL,hxr]
    have hrl3:(k=(cL (row.set x y)).length)=True:=eq_true (by rw[zgU,qaG,hrlen]);have hbq2:(((y:Nat):Int)== 4611686018427387904)=(y == zbc):=zxn _ zbc;refine ziz gr hrl2 hgv hstr gset2 (anM grs (anM hgy (anM hrl3 hbq2))) ?_;cases hyb:(y == zbc)with
    | true=>
     rw[hyb,qdl]at q4;refine sSM ?_;exact EvL.panic rfl rfl ⟨q4.symm,⟨_,_,rfl⟩,_,by unfold dvL; rw[qaI]⟩
    | false=>
     rw[hyb,qdm]at q4;refine sXM hw4 ?_;refine⟨(j,rows.set v (row.set x y),ss),⟨by simp only; omega,hRset _ (by simp) (λz hz=>?_),q3,q4⟩,qaW j,zpS hB hsc (by simp[hrl]) (by omega) (by simp[zme,lk,D.sc]; omega)⟩;rcases qbg hz with hz | rfl
     .exact hrb z hz
     .exact hy2
   | op k hk ar ne inc lt=>
    have hal:=zgW (b:=0) inc λa h=>⟨qaw _,lt a h⟩
    have eg:ga ⟨k,0,0,0,iL ar⟩=ar:=zew rfl;rcases hk with rfl | rfl
    .have hst:zcU vals ⟨3,0,0,0,iL ar⟩ slope rows ss=some (rows,zdK slope ss ar):=by
      unfold zcU;rw[hbig,qdm];show some (rows,zdK slope ss (ga ⟨3,0,0,0,iL ar⟩))=_;rw[eg]
     rw[hst]at q4;simp only[rnA,Nat.reduceEqDiff,Nat.reduceLT,Int.reduceBEq,reduceCtorEq,Int.reduceBEq,at0 (gl _),za1,zam];refine EvL.scope (zab ?_);refine sSM ?_;refine EvL.loop (α:=Nat×List Nat) (λa=>⟨157,[(0,.ptr 2 0),(3,.sl 8 0 1 cs.length (some cs.length) cs.length),(7,.sl (9+cs.length) 0 1 c.gates.length (some c.gates.length) c.gates.length),(8,dI (j:Int)),(9,dI (slope:Int)),(108,fzE false (eI .i64) (iL ar)),(109,dI (ar.length:Int)),(110,dI (a.1:Int))],dvL B cs rows a.2 ++ [.cells [dI 3,dI 0,dI 0,dI 0,fzE false (eI .i64) (iL ar)]]⟩)
      (λa=>a.1<=ar.length/\SloOk c.gates.length a.2/\zdK slope a.2 (ar.drop a.1)=zdK slope ss ar) (λa=>ar.length - a.1) (0,ss) (by exact zaT.sub (by simp[zcp,lk])) ⟨qaw _,q3,rfl⟩ ?_
     rintro⟨k,s'⟩ ⟨r1,r2,r3⟩;simp only at r1 r2 r3;refine zab ?_;by_cases hk:k<ar.length
     .have hlt:decide ((k:Int)<(ar.length:Int))=true:=qdn (by omega);have hw2:IntKind.i64.wrap ((k:Int)+1)=((k+1:Nat):Int):=by rw[wrap64 (by omega) (by omega)]; rfl
      have a1:=lt _ (qas hk);rw[qat hk]at r3;simp only[zdK]at r3;have hia:=zaz hk;generalize ar[k]=a at *;have hs'l:=r2.len;have has:a<s'.length:=by omega
      have hga:=zoH has;have a2p:((a:Int)<((c.gates.length:Nat):Int))=True:=eq_true (by omega);have hli2:(c.gates.length=(cL s').length)=True:=eq_true (by rw[zgU,hs'l]);have hse:∀ y:Nat,(cL s').set ((a:Nat):Int).toNat [dI (y:Int)]=cL (s'.set a y):=λy=>by rw[qaq,zju]
      refine ziz hlt (zao (n:=1) (e:=eI .i64) rfl hia) gS @qaF @a2p (anM hli2 hga) ?_;refine fCM (zcN (zpY (r2.le a) hs1)) ?_;refine ziz gS @qaF @a2p hli2 hga (anM hse (anM gSet hw2)) ?_;exact⟨(k+1,s'.set a (zfA (s'.getD a 0) slope)),⟨hk,r2.set _ (zhv _ _),r3⟩,by simp only; omega,zaT.sub (by simp[zcp,lk])⟩
     have hlt:decide ((k:Int)<(ar.length:Int))=false:=qdo (by omega);rw[qb0 (by omega)]at r3;simp only[zdK]at r3;refine zku hlt hw4 ?_;exact⟨(j,rows,s'),⟨by simp only; omega,q2,r2,by rw[r3]; exact q4⟩,qaW j,zpS hB hsc hrl (by omega) (by simp[zme,lk,D.sc]; omega)⟩
    have hst:zcU vals ⟨4,0,0,0,iL ar⟩ slope rows ss=some (rows,zdJ slope ss ar (zmf vals ar)):=by
     unfold zcU;rw[hbig,qdm];show some (rows,zdJ slope ss (ga ⟨4,0,0,0,iL ar⟩) (zmf vals (ga ⟨4,0,0,0,iL ar⟩)))=_;rw[eg]
    rw[hst]at q4;have hR:RunIn c input c.gates.length vals 7 (dvL B cs rows ss ++ [.cells [dI 4,dI 0,dI 0,dI 0,fzE false (eI .i64) (iL ar)]]):=by
     refine⟨by rw[hvl]; exact g2 ss _,zlS hB7 _ _,hvb,by omega,?_⟩;rw[qav,gl];exact zeA (zAY (hsc _ (by simp; omega)) (by simp; omega) rows ss) ⟨⟨qdk,qdk,qdk,qdk,qdk,qdk⟩,qdk⟩
    have hol:=zws vals ar;have hob:=zvE vals ar;simp only[rnA,Nat.reduceEqDiff,Nat.reduceLT,Int.reduceBEq,reduceCtorEq,Int.reduceBEq,at0 (gl _)];refine EvL.call rfl rfl (zuk hR ar (by omega) (λa ha=>by have:=lt a ha; omega)) ?_ (λ_ _ (h:False)=>False.elim h);rintro r L' ⟨rfl,rfl⟩;generalize zmf vals ar=oth at *;have hlo:(ar.length=(cL oth).length)=True:=eq_true (by rw[zgU,hol]);simp only[rnA,Nat.reduceEqDiff,Nat.reduceLT,reduceCtorEq,gl,at1 (gl _),hlo,qaI,qav];refine EvL.scope (zab ?_);refine sSM ?_;refine EvL.loop (α:=Nat×List Nat) (λa=>⟨157,[(0,.ptr 2 0),(3,.sl 8 0 1 cs.length (some cs.length) cs.length),(7,.sl (9+cs.length) 0 1 c.gates.length (some c.gates.length) c.gates.length),(8,dI (j:Int)),(9,dI (slope:Int)),(10,.ptr (10+cs.length) 0),(129,.sl (10+cs.length+1) 0 1 ar.length (some ar.length) ar.length),(130,dI (ar.length:Int)),(131,dI (a.1:Int))],dvL B cs rows a.2 ++ [.cells [dI 4,dI 0,dI 0,dI 0,fzE false (eI .i64) (iL ar)],.els 1 (cL oth)]⟩)
     (λa=>a.1<=ar.length/\SloOk c.gates.length a.2/\zdJ slope a.2 (ar.drop a.1) (oth.drop a.1)=zdJ slope ss ar oth) (λa=>ar.length - a.1) (0,ss) (by exact zaT.sub (by simp[zcp,lk])) ⟨qaw _,q3,rfl⟩ ?_
    rintro⟨k,s'⟩ ⟨r1,r2,r3⟩;simp only at r1 r2 r3;refine zab ?_;by_cases hk:k<ar.length
    .have hlt:decide ((k:Int)<(ar.length:Int))=true:=qdn (by omega);have hltp:((k:Int)<((ar.length:Nat):Int))=True:=eq_true (by omega);have hw2:IntKind.i64.wrap ((k:Int)+1)=((k+1:Nat):Int):=by rw[wrap64 (by omega) (by omega)]; rfl
     have a1:=lt _ (qas hk);have hko:k<oth.length:=by omega
     have hqo:=zoH hko;rw[zap hko]at hqo;have ho2:=hob _ (qas hko);rw[qat hk,qat hko]at r3;simp only[zdJ]at r3;have hia:=zaz hk;generalize ar[k]=a at *;generalize oth[k]=q at *;have hs'l:=r2.len;have has:a<s'.length:=by omega
     have hga:=zoH has;have a2p:((a:Int)<((c.gates.length:Nat):Int))=True:=eq_true (by omega);have hli2:(c.gates.length=(cL s').length)=True:=eq_true (by rw[zgU,hs'l]);have hse:∀ y:Nat,(cL s').set ((a:Nat):Int).toNat [dI (y:Int)]=cL (s'.set a y):=λy=>by rw[qaq,zju]
     have gl':∀ s',(dvL B cs rows s').length=10+cs.length:=gl;simp only[rnA,Nat.reduceEqDiff,Nat.reduceLT,reduceCtorEq,hltp,qaF,at0 (gl _),at1 (gl _),hlo,hqo,zao (n:=1) (e:=eI .i64) rfl hia,gS,a2p,hli2,hga];refine fCM (zbX (ziy hs1 ho2)) ?_;refine fCM (zcN (zpY (r2.le a) (zg9 slope q))) ?_;refine ziz gS @qaF @a2p hli2 hga (anM hse (anM gSet hw2)) ?_;exact⟨(k+1,s'.set a (zfA (s'.getD a 0) (zlC slope q))),⟨hk,r2.set _ (zhv _ _),r3⟩,by simp only; omega,zaT.sub (by simp[zcp,lk])⟩
    have hlt:decide ((k:Int)<(ar.length:Int))=false:=qdo (by omega);rw[qb0 (by omega)]at r3;have r4:s'=zdJ slope ss ar oth:=by rw[<- r3]; rfl
    refine zku hlt hw4 ?_;exact⟨(j,rows,s'),⟨by simp only; omega,q2,r2,by rw[r4]; exact q4⟩,qaW j,zpS hB hsc hrl (by omega) (by simp[zme,lk,D.sc]; omega)⟩
def zxJ(cs:List Nat)(c:S_api_Circuit)(input:List Int):Option (List (List Nat)):=(zdI input [] c.gates).bind λvals=>zgd vals c.gates c.gates.length (zcz cs) (zcY c.gates.length)
abbrev zCJ(cs:List Nat):D:=.sl 8 0 1 cs.length (some cs.length) cs.length
theorem zyW{B:List LB}(hB:B.length=8)(cs:List Nat)(rows:List (List Nat))(ss:List Nat)(y:LB):(dvL B cs rows ss).set 4 y=dvL (B.set 4 y) cs rows ss:=by
 unfold dvL;rw[qcQ _ _ (by omega)]
def zDt(cs:List Nat)(c:S_api_Circuit)(input:List Int)(L':List LB):Prop:=∃ B rows ss,zxJ cs c input=some rows/\RwOk cs rows/\B.length=8/\B[4]? = some (.cells [zCJ cs])/\B[5]? = some (.cells [dI 0])/\L'=dvL B cs rows ss
abbrev tD:List LB:=[.cells [.ptr 2 0],.cells [zka]]
theorem zz9{cs:List Nat}{c:S_api_Circuit}{input:List Int}(h:ROk cs c input):
  zbA mC false 64 ([]++ []++ [.ptr 3 0,.ptr 4 0]) (rnB c input tD (.lit (.slice none 0 0))++ [.cells [dI 0]]) (λd L'=>zDt cs c input L') λd L'=>zxJ cs c input=none/\(∃ t r,d=.ifc t r)/\L'[5]? = some (.cells [dI 0]):=by
 refine gnL ?_;have hl3:(rnB c input tD (.lit (.slice none 0 0))++ [.cells [dI 0]])[3]? = some (.cells [.ptr 2 0]):=rfl;refine zab ?_;simp only[rnA,Nat.reduceEqDiff,reduceIte,Nat.reduceLT,Nat.reduceAdd,Nat.reduceLeDiff,Nat.reduceMul,Nat.reduceSub,Int.reduceLE,Int.reduceLT,Int.reduceBEq,Nat.reduceBEq,reduceCtorEq,hl3];have hev:=zil h.ok h.len (T:=[.cells [.ptr 2 0],.cells [zka],.cells [dI 0]]) (λn hn=>⟨⟨by show 2<n; simp at hn; omega,qdk⟩,⟨qdk,qdk⟩,⟨qdk,qdk⟩,qdk⟩);refine EvL.call rfl rfl hev ?_ ?_
 .rintro d L' ⟨vals,q1,q2,q3,rfl⟩;have hl3:(rnB c input [.cells [.ptr 2 0],.cells [zka],.cells [dI 0]] (.sl 7 0 1 c.gates.length (some c.gates.length) c.gates.length)++ [.cells zer,.els 1 (esL c.gates.length vals)])[3]? = some (.cells [.ptr 2 0]):=rfl;have hB4:(rnB c input [.cells [.ptr 2 0],.cells [zka],.cells [dI 0]] (.sl 7 0 1 c.gates.length (some c.gates.length) c.gates.length)++ [.cells zer,.els 1 (esL c.gates.length vals)])[4]? = some (.cells [zka]):=rfl;have hB5:(rnB c input [.cells [.ptr 2 0],.cells [zka],.cells [dI 0]] (.sl 7 0 1 c.gates.length (some c.gates.length) c.gates.length)++ [.cells zer,.els 1 (esL c.gates.length vals)])[5]? = some (.cells [dI 0]):=rfl;have hd:=zsM h.ok (input:=input) q2 q3 (B:=rnB c input [.cells [.ptr 2 0],.cells [zka],.cells [dI 0]] (.sl 7 0 1 c.gates.length (some c.gates.length) c.gates.length)++ [.cells zer,.els 1 (esL c.gates.length vals)]) rfl rfl rfl
   λn hn=>zeA (zsG ⟨⟨by show 2<n; omega,qdk⟩,⟨qdk,qdk⟩,⟨qdk,qdk⟩,qdk⟩ (by show 7<n; omega)) ⟨zkn (by omega),ztb,qdk⟩
  have hder:zxJ cs c input=zgd vals c.gates c.gates.length (zcz cs) (zcY c.gates.length):=by unfold zxJ; rw[q1]; rfl
  rw[<- hder]at hd;have hB:(rnB c input [.cells [.ptr 2 0],.cells [zka],.cells [dI 0]] (.sl 7 0 1 c.gates.length (some c.gates.length) c.gates.length)++ [LB.cells zer,.els 1 (esL c.gates.length vals)]).length=8:=rfl;show wp _ _ _ (LSt.put ⟨_,_,rnB c input [.cells [.ptr 2 0],.cells [zka],.cells [dI 0]] (.sl 7 0 1 c.gates.length (some c.gates.length) c.gates.length)++ [.cells zer,.els 1 (esL c.gates.length vals)]⟩ _ _) _;generalize rnB c input [.cells [.ptr 2 0],.cells [zka],.cells [dI 0]] (.sl 7 0 1 c.gates.length (some c.gates.length) c.gates.length)++ [.cells zer,.els 1 (esL c.gates.length vals)]=B at *;simp only[rnA,Nat.reduceEqDiff,reduceIte,Nat.reduceLT,Nat.reduceAdd,Nat.reduceLeDiff,Nat.reduceMul,Nat.reduceSub,Int.reduceLE,Int.reduceLT,Int.reduceBEq,Nat.reduceBEq,reduceCtorEq,hl3];refine EvL.call rfl rfl hd ?_ ?_
  .rintro d L' ⟨rows,ss,r1,r2,rfl,rfl⟩;have hl4:(dvL B cs rows ss)[4]? = some (.cells [zka]):=by simpa using zlS (cs:=cs) (rows:=rows) hB4 ss []
   simp only[rnA,Nat.reduceEqDiff,reduceIte,Nat.reduceLT,Nat.reduceAdd,Nat.reduceLeDiff,Nat.reduceMul,Nat.reduceSub,Int.reduceLE,Int.reduceLT,Int.reduceBEq,Nat.reduceBEq,reduceCtorEq,hl4,zyW hB];exact⟨_,rfl,B.set 4 (.cells [zCJ cs]),rows,ss,r1,r2,by simpa using hB,by simp[hB],by rw[qar (by decide)]; exact hB5,rfl⟩
  rintro d L' ⟨r1,r2,X,rfl⟩;exact⟨r1,r2,zeq hB5 X⟩
 rintro d L' ⟨q1,q2,v,X,rfl⟩;exact⟨by unfold zxJ; rw[q1]; rfl,q2,rfl⟩
theorem zEi(xs:List Nat):cL xs=(iL xs).map ((eI .i64).c true):=by
 simp only[cL,iL,List.map_map];exact List.map_congr_left λa _=>rfl
theorem zwW{L:List LB}:∀(rows:List (List Nat)) (b:Nat),(∀ v (h:v<rows.length),L[b+v]? = some (zqA rows[v]))->Pw (Snp L true) (slW b (rows.map List.length)) ((rows.map iL).map ((eL (eI .i64)).c true))
 | [],b,_=>.nil
 | r :: rs,b,h=>.cons rfl (λj d d' h1 h2=>by
   obtain⟨rfl,rfl⟩:=zhq h1 h2;have h0:=h 0 (Nat.zero_lt_succ _);rw[List.getElem_cons_zero,zqA,zEi]at h0
   exact zf5 (e:=eI .i64) (t:=true) rfl (.inl h0) (by rw[zam]) (by rw[zam]) (λk h=>by cases h; exact qap _) λ_=>rfl) (zwW rs (b+1) λv hv=>by rw[show b+1+v=b+(v+1) by omega]; exact h (v+1) (qdg hv))
theorem RwOk.lens{cs:List Nat}{rows:List (List Nat)}(h:RwOk cs rows):cs=rows.map List.length:=by
 refine qcX (by simp[h.len]) λi h1 h2=>?_
 rw[List.getElem_map,h.row i (by rw[h.len]; exact h1) h1]
def zbs(c:S_api_Circuit)(input:List Int):Option (List (List Int)×Int):=
 bif ztE c input then some (match zxJ (c.cards.map Int.toNat) c input with | none=>([],6)| some rows=>(rows.map iL,0))else none
theorem zht{p0:S_api_Circuit}{p1:List Int}{r:List (List Int)×Int}(h:zbs p0 p1=some r):Lx.Fn mC 21 [(.agg [(fzE false (eI .i64) p0.cards),(fzE false zaa p0.gates)]),(fzE false (eI .i64) p1)] (.tup [(fzE true (eL (eI .i64)) r.1),(dI r.2)]):=by
 unfold zbs at h;cases hb:ztE p0 p1 with
 | false=>rw[hb]at h; cases h
 | true=>
 rw[hb,qdl]at h;obtain⟨cs,ho⟩:=zr1 hb;have hcs:p0.cards.map Int.toNat=cs:=by rw[ho.ok.cards]; simp[iL,qbG]
 rw[hcs]at h;refine gnO ?_;refine zab ?_;simp only[rnA,Nat.reduceEqDiff,reduceIte,Nat.reduceLT,Nat.reduceAdd,Nat.reduceLeDiff,Nat.reduceMul,Nat.reduceSub,Int.reduceLE,Int.reduceLT,Int.reduceBEq,Nat.reduceBEq,reduceCtorEq];refine EvL.call rfl rfl (zmH ho) ?_ (λ_ _ (h:False)=>False.elim h);rintro r L' ⟨rfl,rfl⟩;simp only[rnA,Nat.reduceEqDiff,reduceIte,Nat.reduceLT,Nat.reduceAdd,Nat.reduceLeDiff,Nat.reduceMul,Nat.reduceSub,Int.reduceLE,Int.reduceLT,Int.reduceBEq,Nat.reduceBEq,reduceCtorEq,rnB];refine EvL.call rfl rfl (zxv (L:=rnB p0 p1 tD (.lit (.slice none 0 0))) (first:=[]) (cap:=[.ptr 3 0,.ptr 4 0]) (zz9 ho) ?_ ?_) ?_ (λ_ _ (h:False)=>False.elim h)
 .rintro d L' ⟨B,rows,ss,_,_,hB,_,h5,rfl⟩;have:(dvL B cs rows ss)[5]? = some (.cells [dI 0]):=by simpa using zlS (cs:=cs) (rows:=rows) h5 ss []
  exact this
 .rintro d L' ⟨_,q1,q2⟩; exact⟨q1,q2⟩
 rintro r' L' (⟨rfl,d,B,rows,ss,q1,q2,hB,h4,h5,rfl⟩| ⟨rfl,d,L0,⟨q1,_,q3⟩,rfl⟩)
 .rw[q1]at h;cases h;have hl4:(dvL B cs rows ss)[4]? = some (.cells [zCJ cs]):=by simpa using zlS (cs:=cs) (rows:=rows) h4 ss []
  simp only[rnA,Nat.reduceEqDiff,reduceIte,Nat.reduceLT,Nat.reduceAdd,Nat.reduceLeDiff,Nat.reduceMul,Nat.reduceSub,Int.reduceLE,Int.reduceLT,Int.reduceBEq,Nat.reduceBEq,reduceCtorEq,hl4];have h8:(dvL B cs rows ss)[8]? = some (.els 1 (slW 9 cs)):=by simpa using zxQ (cs:=cs) (rows:=rows) hB ss []
  have hpw:Pw (Snp (dvL B cs rows ss) true) (slW 9 cs) ((rows.map iL).map ((eL (eI .i64)).c true)):=by
   have:=zwW (L:=dvL B cs rows ss) rows 9 λv hv=>by simpa using ztK (cs:=cs) hB hv ss []
   rwa [<- q2.lens]at this
  exact zg4.ret rfl (.zrr (.cons (zhW (e:=eL (eI .i64)) rfl (.inl h8) (zf9 cs 9).symm (zf9 cs 9).symm (λk h=>by cases h; exact qap _) hpw) (.cons (.lit _) .nil)))
 rw[q1]at h;cases h;have hl:(rnB p0 p1 tD (.lit (.slice none 0 0))).length=5:=rfl;simp only[rnA,Nat.reduceEqDiff,reduceIte,Nat.reduceLT,Nat.reduceAdd,Nat.reduceLeDiff,Nat.reduceMul,Nat.reduceSub,Int.reduceLE,Int.reduceLT,Int.reduceBEq,Nat.reduceBEq,reduceCtorEq];exact zg4.ret rfl (.zrr (.cons (zhs _) (.cons (.lit _) .nil)))
def zba(x23:(List Int))(r9:(List Int))(q21:Int)(r6:(S_api_Circuit×Bool)):Nat->Int->Int->Option (Out Int Bool)
 | 0,_,_=>none
 | n+1,v20,v108=>(
bif (decide (v108<(x23.length:Int)))then(
(zaC x23 v108).bind λx31=>
(zfk 8 r9).bind λy33=>
(zaC y33 q21).bind λx35=>
(zd2 y33 q21 v108).bind λy37=>
(zaU r6.1 y37).bind λr39=>
((bif (r39.2 == 0)then(
some (!(r39.1 == x31)))
else(
some true):Option Bool)).bind λv131=>
bif v131 then(
some (.ret false))
else(
(((zaC r9 q21).bind λx43=>
bif (decide (x43<0))then(
some true)
else(
some (x43 == v108)):Option Bool)).bind λv144=>
((bif v144 then(
some (w64 (v20+r39.1)))
else(
some v20):Option Int)).bind λv20'=>
zba x23 r9 q21 r6 n v20' (w64 (v108+1))))
else(
some (.go v20)))
def zcc(N:Nat)(p0:S_haruspexref05_Draft)(p1:S_haruspexref05_Known)(p2:Int):Option Bool:=
(zoz).bind λr1=>
bif r1 then(
(zbH N p0).bind λr4=>
(zej r4).bind λr6=>
bif r6.2 then(
(zco p1 r4).bind λr9=>
(zbK r6.1).bind λr11=>
(zbs r6.1 r9).bind λr13=>
((bif (r11.2.2.2 == 0)then(
bif (r13.2 == 0)then(
bif r11.1 then(
bif r11.2.1 then(
bif r11.2.2.1 then(
some (!((r13.1.length:Int)==(r4.nodes.length:Int))))
else(
some true))
else(
some true))
else(
some true))
else(
some true))
else(
some true):Option Bool)).bind λv78=>
bif v78 then(
some false)
else(
(znx (w64 p2) (r4.nodes.length:Int)).bind λq21=>
(zaC r13.1 q21).bind λx23=>
(zaC r4.nodes q21).bind λx25=>
bif ((x23.length:Int)== x25.card)then(
(zaU r6.1 r9).bind λr28=>
((zba x23 r9 q21 r6 ((x23.length:Int) - 0+2:Int).toNat 0 0:Option (Out Int Bool))).bind λo=>match o with
| .go v20=>(
((bif (r28.2 == 0)then(
some (v20 == r28.1))
else(
some false):Option Bool)).bind λv6=>
some v6)
| .ret r=>some r)
else(
some false)))
else(
some false))
else(
some false)
theorem zgK{N:Nat}{p0:S_haruspexref05_Draft}{p1:S_haruspexref05_Known}{p2:Int}{r:Bool}(h:zcc N p0 p1 p2=some r):Lx.Fn mC 5 [(.agg [(dU8 p0.grain),(fzE false zan p0.nodes),(fzE false (eI .u8) p0.order)]),(.agg [(dU8 p1.which),(dU8 p1.v.a0),(dU8 p1.v.a1),(dU8 p1.v.a2),(dU8 p1.v.a3),(dU8 p1.v.a4),(dU8 p1.v.a5),(dU8 p1.v.a6),(dU8 p1.v.a7)]),(dU8 p2)] (dB r):=by
 refine gnO ?_;unfold zcc at h;refine zab ?_;obtain⟨r1,g2,h⟩:=bsM h;refine sSM ?_;refine fCM (zwf g2) ?_;refine cBM h (λ_ h=>?_) λ_ h=>?_
 .exact rHM h
 obtain⟨r4,g5,h⟩:=bsM h;refine sSM ?_;refine fCM (zhM g5) ?_;obtain⟨r6,g7,h⟩:=bsM h;refine sSM ?_;refine fDM (zoy g7) ?_;refine cBM h (λ_ h=>?_) λ_ h=>?_
 .exact rHM h
 obtain⟨r9,g10,h⟩:=bsM h;refine sSM ?_;refine fCM (ziV g10) ?_;obtain⟨r11,g12,h⟩:=bsM h;refine sSM ?_;refine fCM (zhR g12) ?_;obtain⟨r13,g14,h⟩:=bsM h;refine sSM ?_;refine fCM (zht g14) ?_;obtain⟨o1,j1,h⟩:=bsM h;obtain⟨T1,hT1⟩:=mkT λa:Bool=>⟨156,[(2,(dU8 p2)),(7,(.ptr 2 0)),(8,(.ptr 3 0)),(10,(fzE true (eI .i64) r9)),(15,(fzE true (eL (eI .i64)) r13.1)),(78,(dB a))],[.gone,.gone,.cells [(dI r4.grain),(fzE true zad r4.nodes)],.cells [(fzE false (eI .i64) r6.1.cards),(fzE false zaa r6.1.gates)]]⟩
 refine EvL.jn T1 _ (bJM j1 hT1) ?_;rintro v78 rfl;refine wTM hT1 ?_;refine cBM h (λ_ h=>?_) λ_ h=>?_
 .obtain⟨q21,g22,h⟩:=bsM h;obtain⟨x23,g24,h⟩:=bsM h;obtain⟨x25,g26,h⟩:=bsM h;refine zxN @zal (zhe g22) (zii g22) (zao (n:=1) (e:=(eL (eI .i64))) rfl g24) (zao (n:=3) (e:=zad) rfl g26) ?_;refine cBM h (λ_ h=>?_) λ_ h=>?_
  .exact rHM h
  obtain⟨r28,g29,h⟩:=bsM h;refine sSM ?_;refine fCM (zfd g29) ?_;refine sXM (zao (n:=1) (e:=(eL (eI .i64))) rfl g24) ?_;obtain⟨o11,j11,h⟩:=bsM h;obtain⟨T11,hT11⟩:=mkT λa:Int=>⟨156,[(18,(dI r28.1)),(19,(dI r28.2)),(20,(dI a))],[]⟩
  refine EvL.jn T11 (λa=>o11=.go a) ?_ ?_
  .refine wSM ?_;obtain⟨T18,hT18⟩:=zdD hT1 λa:(Int×Int)=>uKM (T1 v78) [8,10] [(17,(dI q21)),(18,(dI r28.1)),(19,(dI r28.2)),(20,(dI a.1)),(106,(fzE true (eI .i64) x23)),(107,(dI (x23.length:Int))),(108,(dI a.2))] [(2,.gone)] []
   refine rdM hT18 (λn a=>zba x23 r9 q21 r6 n a.1 a.2=some o11) (0,0) j11 ?_;rintro n ⟨v20,v108⟩ j11;simp only[zba]at j11;refine wTM hT18 ?_;refine cBM j11 (λ_ j11=>?_) λ_ j11=>?_
   .exact zzG j11 hT11
   obtain⟨x31,g32,j11⟩:=bsM j11;obtain⟨y33,g34,j11⟩:=bsM j11;refine sXM (ixM g32) ?_;refine EvL.clone (t:=true) (zs:=r9) g34 rfl rfl ?_;obtain⟨x35,g36,j11⟩:=bsM j11;obtain⟨y37,g38,j11⟩:=bsM j11;obtain⟨r39,g40,j11⟩:=bsM j11;refine zwN (zaL g36) (show q21<((y33.length:Nat):Int)from zb3 g36) (giM g36) (siM g38) ?_;refine fCM (zfd g40) ?_;obtain⟨o19,j19,j11⟩:=bsM j11;obtain⟨T19,hT19⟩:=zdD hT18 λa:Bool=>uDM (T18 (v20,v108)) [] [(21,(dI v108)),(24,(dI r39.1)),(131,(dB a))] [] []
   refine EvL.jn T19 _ (bJM j19 hT19) ?_;rintro v131 rfl;refine wTM hT19 ?_;refine cBM j11 (λ_ j11=>?_) λ_ j11=>?_
   .obtain⟨o20,j20,j11⟩:=bsM j11;obtain⟨T20,hT20⟩:=zdD hT19 λa:Bool=>uDM (T19 v131) [21,131] [(144,(dB a))] [] []
    refine EvL.jn T20 (λa=>a=o20) ?_ ?_
    .refine zab ?_;obtain⟨x43,g44,j20⟩:=bsM j20;refine sXM (ixM g44) ?_;refine cBM j20 (λ_ j20=>?_) λ_ j20=>?_
     .refine sXM (ixM g44) ?_;exact zeV j20 hT20
     exact zeV j20 hT20
    rintro v144 rfl;refine wTM hT20 ?_;obtain⟨o21,j21,j11⟩:=bsM j11;obtain⟨T21,hT21⟩:=zdD hT18 λa:Int=>uDM (T18 (v20,v108)) [20] [(20,(dI a))] [] []
    refine EvL.jn T21 _ (bJM j21 hT21) ?_;rintro v20' rfl;refine wTM hT21 ?_;exact zdk hT18 (v20',(w64 (v108+1))) j11
   obtain rfl:=qal j11;exact rHM h
  rintro v20 rfl;dsimp only at h;refine wTM hT11 ?_;obtain⟨o22,j22,h⟩:=bsM h;obtain⟨T22,hT22⟩:=mkT λa:Bool=>⟨156,[(6,(dB a))],[]⟩
  refine EvL.jn T22 _ (bJM j22 hT22) ?_;rintro v6 rfl;refine wTM hT22 ?_;exact rHM h
 exact rHM h
end Go.Dc
