/-
 The value of one gate, in a run. Conditions: none.
-/
import Derived.Test.YtbjogdohfhdaiaaCaJ6
set_option linter.unusedSimpArgs false
set_option linter.unusedVariables false
set_option maxRecDepth 100000
set_option maxHeartbeats 4000000
set_option maxHeartbeats 8000000
set_option maxHeartbeats 16000000
namespace Go.Dc
open Go Go.Mx Go.Lx Go.Proofs
abbrev za2:Nat:=4611686018427387904
def zfc(a b:Nat):Nat:=min (a+b) za2
def zji(a b:Nat):Nat:=min (a * b) za2
theorem zfC:za2=4611686018427387904:=rfl
theorem zfI(a b:Nat):zfc a b<=za2:=qcJ _ _
theorem zfK(a b:Nat):zji a b<=za2:=qcJ _ _
variable{a:Nat}
theorem zmi{b:Nat}(ha:a<=za2)(hb:b<=za2):zco (a:Int) (b:Int)=some ((zfc a b:Nat):Int):=by
 have hT:=zfC;unfold zco zfc;have h1:w64 (4611686018427387904 - (a:Int))=4611686018427387904 - (a:Int):=zd5 (by omega) (by omega);rw[h1];congr 1
 unfold zuZ;split
 .rw[zd5 (by omega) (by omega)]; omega
 rw[zd5 (by omega) (by omega)]; omega
theorem zg1{b:Nat}(ha:a<=za2)(hb:b<=za2):zb9 (a:Int) (b:Int)=some ((zji a b:Nat):Int):=by
 have hT:=zfC;unfold zb9 zji;rw[zbA (by omega),zbA (by omega),zwH (by omega) (by omega),qab];simp only;by_cases h1:0<a * b / 18446744073709551616
 .have:za2<=a * b:=by
   have:=qcA (a * b) 18446744073709551616;omega
  rw[qcT (by omega),qcR,qab,qcR,qcg this];rfl
 have h2:a * b<18446744073709551616:=by
  have:=qcA (a * b) 18446744073709551616;have:=qbv (a * b) (show 0<18446744073709551616 by decide);omega
 rw[qcU (by omega),qcS,qab,qbg h2];by_cases h3:4611686018427387903<a * b
 .rw[qcT (by omega),qcR,qcg (by omega)]; rfl
 rw[qcU (by omega),qcS,zc3 (by omega),qa6 (by omega)]
def zxG(c:S_api_Circuit)(input:List Int)(vs:D):List D:=[fzE false (eI .i64) c.cards,fzE false zab c.gates,fzE false (eI .i64) input,vs]
def esL(m:Nat)(vals:List Nat):List (List D):=vals.map (λv:Nat=>[dI (v:Int)])++ List.replicate (m - vals.length) [dI 0]
variable{m:Nat}{vals:List Nat}
theorem zi9(h:vals.length<=m):(esL m vals).length=m:=by simp[esL]; omega
theorem zi0(h:a<vals.length):(esL m vals)[((a:Nat):Int).toNat]? = some [dI ((vals.getD a 0:Nat):Int)]:=by
 unfold esL;rw[qaq,qai (by simpa using h),qaV,qad h,zah h]; rfl
theorem ztO(h:vals.length<m)(x:Nat):(esL m vals).take vals.length ++ [[dI (x:Int)]]++ (esL m vals).drop (vals.length+1)=esL m (vals ++ [x]):=by
 unfold esL;obtain⟨k,hk⟩:∃ k,m - vals.length=k+1:=⟨m - vals.length - 1,by omega⟩;have e:(vals.map (λv:Nat=>[dI (v:Int)])).length=vals.length:=by simp
 rw[hk,qas,qa3,show m - (vals.length+1)=k by omega,List.take_append_of_le_length (by omega),qaQ (by omega),<- e,<- List.drop_drop,List.drop_left];simp[qa7]
structure RunIn (c:S_api_Circuit) (input:List Int) (m:Nat) (vals:List Nat) (β:Nat) (L:List LB):Prop where
 run:L[2]? = some (.cells (zxG c input (.sl β 0 1 vals.length (some m) m)))
 els:L[β]? = some (.els 1 (esL m vals))
 bnd:∀ a,vals.getD a 0<=za2
 room:vals.length<=m
 sc:zcd L.length L
variable{β:Nat}{L:List LB}
theorem RunIn.es{c:S_api_Circuit}{input:List Int}(h:RunIn c input m vals β L):(if m=(esL m vals).length then some (esL m vals)else none)=some (esL m vals):=if_pos (zi9 h.room).symm
theorem zdi{α:Type}{L:List α}{i:Nat}{x:α}(h:L[i]? = some x)(R':List α):(L ++ R')[i]? = some x:=by
 rw[qai (qaa.1 h).1]; exact h
theorem zj0{α:Type}(L:List α)(x:α):(L ++ [x])[L.length]? = some x:=by simp
theorem zgb{f:Nat}{args:List D}{x:LB}{r:D}(hs:zcd L.length L)(hr:r.pl=true)(h:zbs mC false f args L (λd L'=>d=r/\L'=L ++ [x]) λ_ _=>False):zbs mC false f args L (λd L'=>d=r/\L'=L) λ_ _=>False:=by
 refine zbs.cut h ?_ (λ_ _ h=>h);rintro d L' ⟨rfl,rfl⟩;refine⟨L,[x],rfl,qan _,?_,hs,rfl,rfl⟩;have aux:∀ ds:List D,D.pls ds=true->D.scs L.length ds:=by
  intro ds;induction ds with
  | nil=>intro _; trivial
  | cons d r ih=>
   intro hp;cases d<;>first | (cases hp; done)| skip
   exact⟨qcQ,ih (by simpa [D.pls]using hp)⟩
 cases d<;>first | (cases hr; done)| skip
 .trivial
 .exact aux _ (by simpa [D.pl]using hr)
 exact aux _ (by simpa [D.pl]using hr)
theorem zqc(hs:zcd L.length L)(g:S_api_Gate)(p:D):zbs mC false 106 [p,.agg (zab.c false g)] L (λd L'=>d=dI g.n/\L'=L) λ_ _=>False:=by
 refine zgb (x:=.cells (zab.c false g)) hs rfl (gnL ?_);have e1:(L ++ [LB.cells [dI g.kind,dI g.var,dI g.val,dI g.n,fzE false (eI .i64) g.args]])[L.length]? = some (LB.cells [dI g.kind,dI g.var,dI g.val,dI g.n,fzE false (eI .i64) g.args]):=zj0 _ _;refine zaa ?_;simp only[rnA,Nat.reduceEqDiff,reduceIte,Nat.reduceLT,Nat.reduceAdd,Nat.reduceLeDiff,Nat.reduceMul,Nat.reduceSub,Int.reduceLE,Int.reduceLT,Int.reduceBEq,Nat.reduceBEq,reduceCtorEq,zaE,e1];exact⟨_,rfl,rfl⟩
theorem zlu(c:S_api_Circuit)(input:List Int)(vs:D):zxG c input vs=[fzE false (eI .i64) c.cards,fzE false zab c.gates,fzE false (eI .i64) input,vs]:=rfl
def isV(x v:Int):Nat:=bif decide (0<=x)then(bif x == v then 1 else 0)else 1
theorem zwG{c:S_api_Circuit}{input:List Int}(h:RunIn c input m vals β L)(g:S_api_Gate){x:Int}(hx:zaS input g.var=some x):
  zbs mC false 107 [.ptr 2 0,.agg (zab.c false g)] L (λd L'=>d=dI ((isV x g.val:Nat):Int)/\L'=L) λ_ _=>False:=by
 refine zgb (x:=.cells (zab.c false g)) h.sc rfl (gnL ?_);have e1:(L ++ [LB.cells [dI g.kind,dI g.var,dI g.val,dI g.n,fzE false (eI .i64) g.args]])[L.length]? = some (LB.cells [dI g.kind,dI g.var,dI g.val,dI g.n,fzE false (eI .i64) g.args]):=zj0 _ _;have e2:=zdi h.run [LB.cells [dI g.kind,dI g.var,dI g.val,dI g.n,fzE false (eI .i64) g.args]];rw[zlu]at e2;unfold isV;refine zaa ?_;simp only[rnA,Nat.reduceEqDiff,Nat.reduceLT,Nat.reduceAdd,reduceCtorEq,zaE,e1,e2,zai (n:=1) (e:=eI .i64) rfl hx];refine EvL.scope (zaa ?_);cases h1:decide (0<=x)with
 | false=>
  simp only[rnA,Nat.reduceEqDiff,Nat.reduceLT,reduceCtorEq,h1];exact⟨_,rfl,rfl⟩
 | true=>
  cases h2:(x == g.val)with
  | false=>
   simp only[rnA,Nat.reduceEqDiff,Nat.reduceLT,reduceCtorEq,e1,h1,h2];exact⟨_,rfl,rfl⟩
  | true=>
   simp only[rnA,Nat.reduceEqDiff,Nat.reduceLT,reduceCtorEq,e1,h1,h2];exact⟨_,rfl,rfl⟩
def zr7(vals:List Nat)(ar:List Nat)(s:Nat):Nat:=ar.foldl (λs a=>zfc s (vals.getD a 0)) s
def zet(vals:List Nat)(ar:List Nat)(s:Nat):Nat:=ar.foldl (λs a=>zji s (vals.getD a 0)) s
theorem zvL{c:S_api_Circuit}{input:List Int}(h:RunIn c input m vals β L)(g:S_api_Gate){ar:List Nat}(hg:g.args=iL ar)(hl:ar.length<1000000)(ha:∀ a∈ar,a<vals.length):
  zbs mC false 108 [.ptr 2 0,.agg (zab.c false g)] L (λd L'=>d=dI ((zr7 vals ar 0:Nat):Int)/\L'=L) λ_ _=>False:=by
 refine zgb (x:=.cells (zab.c false g)) h.sc rfl (gnL ?_);have e1:(L ++ [LB.cells [dI g.kind,dI g.var,dI g.val,dI g.n,fzE false (eI .i64) g.args]])[L.length]? = some (LB.cells [dI g.kind,dI g.var,dI g.val,dI g.n,fzE false (eI .i64) g.args]):=zj0 _ _;have e2:=zdi h.run [LB.cells [dI g.kind,dI g.var,dI g.val,dI g.n,fzE false (eI .i64) g.args]];have e4:=zdi h.els [LB.cells [dI g.kind,dI g.var,dI g.val,dI g.n,fzE false (eI .i64) g.args]];rw[zlu]at e2;have e5:(g.args.length:Int)=(ar.length:Int):=by rw[hg,zas]
 refine zaa ?_;simp only[rnA,Nat.reduceEqDiff,Nat.reduceLT,Nat.reduceAdd,reduceCtorEq,zaE,e1,zal,e5];refine EvL.scope (zaa ?_);simp only[rnA];refine EvL.loop (α:=Nat×Nat) (λa=>⟨26,[(0,.ptr 2 0),(5,dI (a.2:Int)),(9,fzE false (eI .i64) g.args),(10,dI (ar.length:Int)),(11,dI (a.1:Int))],L ++ [.cells [dI g.kind,dI g.var,dI g.val,dI g.n,fzE false (eI .i64) g.args]]⟩)
  (λa=>a.1<=ar.length/\a.2<=za2/\zr7 vals (ar.drop a.1) a.2=zr7 vals ar 0) (λa=>ar.length - a.1) (0,0) (za9.sub (by simp[zbY,lk])) ⟨qaB _,qaB _,rfl⟩ ?_
 rintro⟨k,s⟩ ⟨p1,p2,p3⟩;simp only at p1 p2 p3;refine zaa ?_;by_cases hk:k<ar.length
 .have hlt:decide ((k:Int)<(ar.length:Int))=true:=qcT (by omega);have hw2:IntKind.i64.wrap ((k:Int)+1)=((k+1:Nat):Int):=by rw[wrap64 (by omega) (by omega)]; rfl
  have q1:=ha ar[k] (qat hk);have q2:zaS g.args (k:Int)=some ((ar[k]:Nat):Int):=by rw[hg,zaT hk]
  have q3:=zi0 (m:=m) q1;have q4:(((ar[k]:Nat):Int)<((vals.length:Nat):Int)):=by omega
  rw[qau hk]at p3;simp only[rnA,Nat.reduceEqDiff,Nat.reduceLT,reduceCtorEq,hlt,zai (n:=1) (e:=eI .i64) rfl q2,e2,e4,qaA,q4,q3,h.es];refine EvL.fn (zcb (zmi p2 (h.bnd ar[k]))) rfl rfl (.cons (.lit _) (.cons (.lit _) .nil)) ?_;simp only[rnA,Nat.reduceEqDiff,Nat.reduceLT,reduceCtorEq,hw2];exact⟨(k+1,zfc s (vals.getD ar[k] 0)),⟨hk,zfI _ _,p3⟩,by simp only; omega,za9.sub (by simp[zbY,lk])⟩
 have hlt:decide ((k:Int)<(ar.length:Int))=false:=qcU (by omega);rw[qby (by omega)]at p3;simp only[rnA,Nat.reduceEqDiff,Nat.reduceLT,reduceCtorEq,hlt];exact⟨_,rfl,by rw[<- p3]; rfl⟩
theorem znM{c:S_api_Circuit}{input:List Int}(h:RunIn c input m vals β L)(g:S_api_Gate){ar:List Nat}(hg:g.args=iL ar)(hl:ar.length<1000000)(ha:∀ a∈ar,a<vals.length):
  zbs mC false 109 [.ptr 2 0,.agg (zab.c false g)] L (λd L'=>d=dI ((zet vals ar 1:Nat):Int)/\L'=L) λ_ _=>False:=by
 refine zgb (x:=.cells (zab.c false g)) h.sc rfl (gnL ?_);have e1:(L ++ [LB.cells [dI g.kind,dI g.var,dI g.val,dI g.n,fzE false (eI .i64) g.args]])[L.length]? = some (LB.cells [dI g.kind,dI g.var,dI g.val,dI g.n,fzE false (eI .i64) g.args]):=zj0 _ _;have e2:=zdi h.run [LB.cells [dI g.kind,dI g.var,dI g.val,dI g.n,fzE false (eI .i64) g.args]];have e4:=zdi h.els [LB.cells [dI g.kind,dI g.var,dI g.val,dI g.n,fzE false (eI .i64) g.args]];rw[zlu]at e2;have e5:(g.args.length:Int)=(ar.length:Int):=by rw[hg,zas]
 refine zaa ?_;simp only[rnA,Nat.reduceEqDiff,Nat.reduceLT,Nat.reduceAdd,reduceCtorEq,zaE,e1,zal,e5];refine EvL.scope (zaa ?_);simp only[rnA];refine EvL.loop (α:=Nat×Nat) (λa=>⟨26,[(0,.ptr 2 0),(5,dI (a.2:Int)),(9,fzE false (eI .i64) g.args),(10,dI (ar.length:Int)),(11,dI (a.1:Int))],L ++ [.cells [dI g.kind,dI g.var,dI g.val,dI g.n,fzE false (eI .i64) g.args]]⟩)
  (λa=>a.1<=ar.length/\a.2<=za2/\zet vals (ar.drop a.1) a.2=zet vals ar 1) (λa=>ar.length - a.1) (0,1) (za9.sub (by simp[zbY,lk])) ⟨qaB _,by decide,rfl⟩ ?_
 rintro⟨k,s⟩ ⟨p1,p2,p3⟩;simp only at p1 p2 p3;refine zaa ?_;by_cases hk:k<ar.length
 .have hlt:decide ((k:Int)<(ar.length:Int))=true:=qcT (by omega);have hw2:IntKind.i64.wrap ((k:Int)+1)=((k+1:Nat):Int):=by rw[wrap64 (by omega) (by omega)]; rfl
  have q1:=ha ar[k] (qat hk);have q2:zaS g.args (k:Int)=some ((ar[k]:Nat):Int):=by rw[hg,zaT hk]
  have q3:=zi0 (m:=m) q1;have q4:(((ar[k]:Nat):Int)<((vals.length:Nat):Int)):=by omega
  rw[qau hk]at p3;simp only[rnA,Nat.reduceEqDiff,Nat.reduceLT,reduceCtorEq,hlt,zai (n:=1) (e:=eI .i64) rfl q2,e2,e4,qaA,q4,q3,h.es];refine EvL.fn (zbt (zg1 p2 (h.bnd ar[k]))) rfl rfl (.cons (.lit _) (.cons (.lit _) .nil)) ?_;simp only[rnA,Nat.reduceEqDiff,Nat.reduceLT,reduceCtorEq,hw2];exact⟨(k+1,zji s (vals.getD ar[k] 0)),⟨hk,zfK _ _,p3⟩,by simp only; omega,za9.sub (by simp[zbY,lk])⟩
 have hlt:decide ((k:Int)<(ar.length:Int))=false:=qcU (by omega);rw[qby (by omega)]at p3;simp only[rnA,Nat.reduceEqDiff,Nat.reduceLT,reduceCtorEq,hlt];exact⟨_,rfl,by rw[<- p3]; rfl⟩
def gv(input:List Int)(vals:List Nat)(g:S_api_Gate):Nat:=
 bif g.kind == 1 then g.n.toNat else bif g.kind == 2 then isV (input.getD g.var.toNat 0) g.val else bif g.kind == 3 then zr7 vals (ga g) 0 else zet vals (ga g) 1
def zcr(input:List Int):List Nat->List S_api_Gate->Option (List Nat)
 | vals,[]=>some vals
 | vals,g :: r=>bif gv input vals g == za2 then none else zcr input (vals ++ [gv input vals g]) r
def zda:List D:=[.lit .nilFunc,.clo 106 [.ptr 2 0] [],.clo 107 [.ptr 2 0] [],.clo 108 [.ptr 2 0] [],.clo 109 [.ptr 2 0] []]
theorem zh6{op:Nat->Nat->Nat}(hop:∀ a b,op a b<=za2)(vals:List Nat):∀(ar:List Nat) (s:Nat),s<=za2->ar.foldl (λs a=>op s (vals.getD a 0)) s<=za2
 | [],_,h=>h
 | a :: ar,s,_=>zh6 hop vals ar _ (hop _ _)
theorem ztu{c:S_api_Circuit}{cs:List Nat}{input:List Int}(h:RunIn c input m vals β L){g:S_api_Gate}(hg:GOk cs vals.length g)(hi:input.length=cs.length)(hm:vals.length<=4000):
  gv input vals g<=za2/\(0<=g.kind/\g.kind<((5:Nat):Int))/\∃ f,zda[g.kind.toNat]? = some (.clo f [.ptr 2 0] [])/\zbs mC false f [.ptr 2 0,.agg (zab.c false g)] L (λd L'=>d=dI ((gv input vals g:Nat):Int)/\L'=L) λ_ _=>False:=by
 have hT:=zfC;cases hg with
 | num n hn=>
  have e:gv input vals ⟨1,0,0,(n:Int),[]⟩=n:=qaq n;refine⟨by rw[e]; omega,⟨by show(0:Int)<=1; decide,by show(1:Int)<((5:Nat):Int); decide⟩,_,rfl,?_⟩;rw[e];exact zqc h.sc ⟨1,0,0,(n:Int),[]⟩ _
 | is v x hv hx=>
  have hv':v<input.length:=by omega
  have e:gv input vals ⟨2,(v:Int),(x:Int),0,[]⟩=isV (input.getD v 0) (x:Int):=by
   show isV (input.getD ((v:Nat):Int).toNat 0) (x:Int)=_;rw[qaq]
  refine⟨?_,⟨by show(0:Int)<=2; decide,by show(2:Int)<((5:Nat):Int); decide⟩,_,rfl,?_⟩
  .rw[e];unfold isV;cases decide (0<=input.getD v 0)<;> cases(input.getD v 0 ==(x:Int))<;> simp[hT]
  .rw[e];exact zwG h ⟨2,(v:Int),(x:Int),0,[]⟩ (by rw[zau hv',zah hv'])
 | op k hk ar ne inc lt=>
  have hl:=zgq (b:=0) inc λa h=>⟨qaB _,lt a h⟩
  have eg:ga ⟨k,0,0,0,iL ar⟩=ar:=zfA rfl;rcases hk with rfl | rfl
  .have e:gv input vals ⟨3,0,0,0,iL ar⟩=zr7 vals ar 0:=by
    show zr7 vals (ga ⟨3,0,0,0,iL ar⟩) 0=_;rw[eg]
   refine⟨by rw[e]; exact zh6 zfI vals ar 0 (by omega),⟨by show(0:Int)<=3; decide,by show(3:Int)<((5:Nat):Int); decide⟩,_,rfl,?_⟩;rw[e];exact zvL h ⟨3,0,0,0,iL ar⟩ rfl (by omega) lt
  have e:gv input vals ⟨4,0,0,0,iL ar⟩=zet vals ar 1:=by
   show zet vals (ga ⟨4,0,0,0,iL ar⟩) 1=_;rw[eg]
  refine⟨by rw[e]; exact zh6 zfK vals ar 1 (by omega),⟨by show(0:Int)<=4; decide,by show(4:Int)<((5:Nat):Int); decide⟩,_,rfl,?_⟩;rw[e];exact znM h ⟨4,0,0,0,iL ar⟩ rfl (by omega) lt
def rnB(c:S_api_Circuit)(input:List Int)(T:List LB)(v:D):List LB:=
 .cells [fzE false (eI .i64) c.cards,fzE false zab c.gates]:: .cells [fzE false (eI .i64) c.cards,fzE false zab c.gates]:: .cells [fzE false (eI .i64) c.cards,fzE false zab c.gates,fzE false (eI .i64) input,v]:: T
section
variable {c:S_api_Circuit} {input:List Int} {T:List LB} {v v':D} {n0:Nat}
theorem zp1(X:List LB):(rnB c input T v ++ X)[2]? = some (.cells [fzE false (eI .i64) c.cards,fzE false zab c.gates,fzE false (eI .i64) input,v]):=rfl
theorem zlT(X:List LB):(rnB c input T v ++ X).set 2 (.cells [fzE false (eI .i64) c.cards,fzE false zab c.gates,fzE false (eI .i64) input,v'])=rnB c input T v' ++ X:=rfl
theorem at0{B:List LB}{n0:Nat}(h:B.length=n0)(x:LB)(X:List LB):(B ++ x :: X)[n0]? = some x:=by subst h; simp
theorem at1{B:List LB}{n0:Nat}(h:B.length=n0)(x y:LB)(X:List LB):(B ++ x :: y :: X)[n0+1]? = some y:=by subst h; simp
theorem at2{B:List LB}{n0:Nat}(h:B.length=n0)(x y z:LB)(X:List LB):(B ++ x :: y :: z :: X)[n0+2]? = some z:=by subst h; simp
theorem zxB{B:List LB}{n0:Nat}(h:B.length=n0)(x x':LB)(X:List LB):(B ++ x :: X).set n0 x'=B ++ x' :: X:=by subst h; simp
theorem zx4{B:List LB}{n0:Nat}(h:B.length=n0)(x y y':LB)(X:List LB):(B ++ x :: y :: X).set (n0+1) y'=B ++ x :: y' :: X:=by subst h; simp
theorem zx0{B:List LB}{n0:Nat}(h:B.length=n0)(x y z z':LB)(X:List LB):(B ++ x :: y :: z :: X).set (n0+2) z'=B ++ x :: y :: z' :: X:=by subst h; simp
end
variable{n:Nat}
theorem zod{c:S_api_Circuit}{input:List Int}{T:List LB}{v:D}(hT:zcd n T)(hv:v.sc n):zcd n (rnB c input T v):=
 ⟨⟨qcQ,qcQ,qcQ⟩,⟨qcQ,qcQ,qcQ⟩,⟨qcQ,qcQ,qcQ,hv,qcQ⟩,hT⟩
theorem zdB{n:Nat}:∀ {A B:List LB},zcd n A->zcd n B->zcd n (A ++ B)
 | [],_,_,h=>h
 | _ :: _,_,h,h'=>⟨h.1,zdB h.2 h'⟩
theorem at3{B:List LB}{n0:Nat}(h:B.length=n0)(x y z w:LB)(X:List LB):(B ++ x :: y :: z :: w :: X)[n0+3]? = some w:=by subst h; simp
theorem zif(h:3<=n):LB.sc n (.cells zda):=by
 refine⟨qcQ,?_,?_,?_,?_,qcQ⟩<;> exact⟨⟨by show 2<n; omega,qcQ⟩,qcQ⟩
variable{vals:List Nat}
theorem zoJ{m:Nat}:LB.sc n (.els 1 (esL m vals)):=by
 intro cells h;rcases qbT.1 h with h | h
 .obtain⟨v,_,rfl⟩:=qa4.1 h; exact⟨qcQ,qcQ⟩
 rw[qbN h]; exact⟨qcQ,qcQ⟩
theorem zgt{c:S_api_Circuit}{cs:List Nat}(hc:COk cs c){input:List Int}(hi:input.length=cs.length){T:List LB}(hT:∀ n,T.length+3<=n->zcd n T):
  zbs mC false 63 [.ptr 2 0] (rnB c input T (.lit (.slice none 0 0)))
   (λd L'=>∃ vals,zcr input [] c.gates=some vals/\vals.length=c.gates.length/\(∀ a,vals.getD a 0<=za2)/\L'=rnB c input T (.sl (T.length+3+1) 0 1 c.gates.length (some c.gates.length) c.gates.length)++ [.cells zda,.els 1 (esL c.gates.length vals)])
   (λd L'=>zcr input [] c.gates=none/\(∃ t r,d=.ifc t r)/\∃ v X,L'=rnB c input T v ++ X):=by
 refine gnL ?_;have hn1:=hc.gone;have hn2:=hc.glen;obtain⟨n0,hn0⟩:∃ n0,n0=T.length+3:=⟨_,rfl⟩;have hlen:∀ v,(rnB c input T v).length=n0:=λv=>by rw[hn0]; rfl
 rw[<- hn0];have hm:((c.gates.length:Int)* ((8:Nat):Int))<=(zag:Int):=by simp only[zag]; omega
 refine zaa ?_;simp only[rnA,Nat.reduceEqDiff,Nat.reduceLT,Nat.reduceAdd,Nat.reduceLeDiff,reduceCtorEq,zp1,zal,at0 (hlen _),zxB (hlen _),hlen,hm,qaG,qas,zlT,qaA,qaq,Int.toNat_zero,qbU];refine EvL.scope (zaa ?_);simp only[rnA];refine EvL.loop (α:=List Nat) (λvals=>⟨58,[(0,.ptr 2 0),(2,.ptr n0 0),(29,fzE false zab c.gates),(30,dI (c.gates.length:Int)),(31,dI (vals.length:Int))],rnB c input T (.sl (n0+1) 0 1 vals.length (some c.gates.length) c.gates.length)++ [.cells zda,.els 1 (esL c.gates.length vals)]⟩)
  (λvals=>vals.length<=c.gates.length/\(∀ a,vals.getD a 0<=za2)/\zcr input vals (c.gates.drop vals.length)=zcr input [] c.gates) (λvals=>c.gates.length - vals.length) [] (by exact za9.sub (by simp[zbY,lk])) ⟨qaB _,(λa=>qaB _),rfl⟩ ?_
 rintro vals ⟨p1,p2,p3⟩;have hn0':T.length+3<=n0:=Nat.le_of_eq hn0.symm;refine zaa ?_;by_cases hk:vals.length<c.gates.length
 .have hlt:decide ((vals.length:Int)<(c.gates.length:Int))=true:=qcT (by omega);have hw2:IntKind.i64.wrap ((vals.length:Int)+1)=((vals.length+1:Nat):Int):=by rw[wrap64 (by omega) (by omega)]; rfl
  obtain⟨g,hgg⟩:∃ g,g=c.gates[vals.length]:=⟨_,rfl⟩;have hget:zaS c.gates (vals.length:Int)=some g:=by rw[zau hk,hgg]
  have hg:GOk cs vals.length g:=by rw[hgg]; exact hc.gate _ hk
  rw[qau hk,<- hgg]at p3;simp only[zcr]at p3;have hR:RunIn c input c.gates.length vals (n0+1) (rnB c input T (.sl (n0+1) 0 1 vals.length (some c.gates.length) c.gates.length)++ [.cells zda,.els 1 (esL c.gates.length vals),.cells [dI g.kind,dI g.var,dI g.val,dI g.n,fzE false (eI .i64) g.args]]):=by
   refine⟨rfl,at1 (hlen _) _ _ _,p2,p1,?_⟩;rw[qas,hlen];exact zdB (zod (hT _ (by omega)) (by show n0+1<n0+3; omega)) ⟨zif (by omega),zoJ,⟨qcQ,qcQ,qcQ,qcQ,qcQ,qcQ⟩,qcQ⟩
  obtain⟨g1,⟨g3,g4⟩,f,g5,g6⟩:=ztu hR hg hi (by omega);simp only[rnA,Nat.reduceEqDiff,Nat.reduceLT,Nat.reduceAdd,Nat.reduceLeDiff,reduceCtorEq,hlt,zai (n:=5) (e:=zab) rfl hget,zaE,at0 (hlen _),at2 (hlen _),zx0 (hlen _),hlen,qaG,qas,g3,g4,g5,qbV];refine EvL.zc6 (f:=f) (first:=[.ptr 2 0]) (cap:=[]) (ds:=[.agg (zab.c false g)]) rfl rfl rfl g6 ?_ (λ_ _ (h:False)=>False.elim h);rintro r L' ⟨rfl,rfl⟩;simp only[rnA,Nat.reduceEqDiff,Nat.reduceLT,reduceCtorEq];refine EvL.scope (zaa ?_);have hb:(((gv input vals g:Nat):Int)== 4611686018427387904)=(gv input vals g == za2):=zue _ za2;cases hx:(gv input vals g == za2)with
  | true=>
   rw[hx,qcR]at p3;simp only[rnA,Nat.reduceEqDiff,Nat.reduceLT,Nat.reduceLeDiff,reduceCtorEq,hb,hx];exact EvL.panic rfl rfl ⟨p3.symm,⟨_,_,rfl⟩,_,_,rfl⟩
  | false=>
   rw[hx,qcS]at p3;have hq:vals.length+1<=c.gates.length:=hk;have hes:(if c.gates.length=(esL c.gates.length vals).length then some (esL c.gates.length vals)else none)=some (esL c.gates.length vals):=if_pos (zi9 p1).symm;simp only[rnA,Nat.reduceEqDiff,Nat.reduceLT,Nat.reduceAdd,Nat.reduceLeDiff,reduceCtorEq,hb,hx,zp1,at1 (hlen _),at3 (hlen _),zx4 (hlen _),zlT,zi9 p1,ztO hk,hq,hw2,hlen,qaG,qas];have hvl:(vals ++ [gv input vals g]).length=vals.length+1:=by simp
   refine⟨vals ++ [gv input vals g],⟨by rw[hvl]; exact hq,λa=>?_,by rw[hvl]; exact p3⟩,by rw[hvl]; omega,?_⟩
   .rw[qaj];by_cases ha:a<vals.length
    .rw[qai ha,<- qaj]; exact p2 a
    rw[qal (by omega)];cases ha':a - vals.length with
    | zero=>exact g1
    | succ k=>exact qaB _
   rw[hvl,show ∀(B:List LB) (x y z w:LB),B ++ [x,y,z,w]=(B ++ [x,y])++ [z,w]from λB x y z w=>by simp];have hl2:(rnB c input T (.sl (n0+1) 0 1 (vals.length+1) (some c.gates.length) c.gates.length)++ [LB.cells zda,LB.els 1 (esL c.gates.length (vals ++ [gv input vals g]))]).length=n0+2:=by rw[qas,hlen]; rfl
   refine za9.cut (by rw[hl2]; omega) ?_ ?_
   .rw[hl2];exact⟨⟨rfl,by show 2<n0+2; omega⟩,⟨rfl,by show n0<n0+2; omega⟩,⟨rfl,qcQ⟩,⟨rfl,qcQ⟩,⟨rfl,qcQ⟩,qcQ⟩
   rw[hl2];exact zdB (zod (hT _ (by omega)) (by show n0+1<n0+2; omega)) ⟨zif (by omega),zoJ,qcQ⟩
 have hlt:decide ((vals.length:Int)<(c.gates.length:Int))=false:=qcU (by omega);have he:vals.length=c.gates.length:=by omega
 rw[qby (by omega),zcr]at p3;simp only[rnA,Nat.reduceEqDiff,Nat.reduceLT,reduceCtorEq,hlt];exact⟨_,rfl,vals,p3.symm,he,p2,by rw[he]⟩
def zrA:Mx.Fn:=⟨6,
 .seq (.reg false false [
   ⟨some 2,.alloc [(.int .i64 0)],none⟩])
 (.seq (.reg false false [
   ⟨some 3,.clo 105 [] [(.s 2)],none⟩,
   ⟨none,.defer (.s 3) [],none⟩])
 (.seq (.reg false false [
   ⟨some 4,.mov (.s 0),none⟩,
   ⟨some 5,.zc6 (.s 4) [],none⟩])
 (.seq (.reg false false [
   ⟨none,.store 1 (.s 2) (.c (.int .i64 0)),none⟩])
 (.ret)))),
 [.cell 2 none],false⟩
def zrL:Mx.Fn:=⟨3,
 .seq (.reg false false [
   ⟨some 1,.recover,none⟩,
   ⟨some 2,.eqi true (.s 1),none⟩])
 (.cond (.s 2)
  (.reg false false [
    ⟨none,.store 1 (.s 0) (.c (.int .i64 6)),none⟩])
  (.skip)),
 [],false⟩
theorem zl6:mC.has 62 zrA:=⟨zha.ofL (P:=Try.prog) (f:=62) (fn:=zrA) (by kernel_rfl),λB args h=>zcV rfl B args h⟩
theorem zsY:mC.fns 105=some zrL:=zha.ofL (P:=Try.prog) (f:=105) (fn:=zrL) (by kernel_rfl)
theorem zlP(n B f:Nat)(args:List V)(pv:Option V)(h:zaf):(mC.run (n+1)).dcall B f args pv h=zhh (mC.run n) mC.fns B f args pv h:=rfl
theorem zxy:Nat.ble 1 3=true:=rfl
theorem zwM:Nat.ble 1 1=true:=rfl
theorem zxK:Nat.ble 1 6=true:=rfl
theorem zmU(n B b:Nat)(h:zaf):(mC.run (n+1)).dcall B 105 [.ptr b 0] none h=some (none,h):=by
 rw[zlP];unfold zhh;rw[zsY];simp[zrL,zdz,exec,zkE,isRec,zki,wanted,St.put,zae,q,ev,Mx.evB,zbj,zav,List.replicate,zxy]
theorem znk(n B b:Nat)(h:zaf)(t:TypeId)(u:V)(hB:B<=b)(hb:h[b]? = some (.blk [.lit (.int .i64 0)])):(mC.run (n+1)).dcall B 105 [.ptr b 0] (some (.ifc t u)) h=some (none,h.set b (.blk [.lit (.int .i64 6)])):=by
 rw[zlP];unfold zhh;rw[zsY];have hbk:zak h b=some [.lit (.int .i64 0)]:=by simp[zak,hb]
 simp[zrL,zdz,exec,zkE,zax,zbO,isRec,zki,wanted,St.put,zae,q,Mx.eff,ev,Mx.evB,zbj,zav,List.replicate,V.cells,zec,hbk,qap hB,zaR,zxy,zwM]
theorem ztN{B:Nat}{h:zaf}{f:Nat}{us ws:List V}{Q:CR->zaf->Prop}(hB:B<=h.length)
  (hc:EvF mC B f (us ++ []++ ws) (h ++ [.blk [.lit (.int .i64 0)]]) λcr H'=>H'[h.length]? = some (.blk [.lit (.int .i64 0)])/\match cr with
   | .ret v=>Q (.ret (.lit (.int .i64 0))) (H'.set h.length (.blk [.lit (.int .i64 0)]))
   | .pan v=>(∃ t u,v=.ifc t u)/\Q (.ret (.lit (.int .i64 6))) (H'.set h.length (.blk [.lit (.int .i64 6)]))):EvF mC B 62 [.clo f us ws] h Q:=by
 obtain⟨N,cr,H',h1,h2,h3⟩:=hc;have hbk:zak H' h.length=some [.lit (.int .i64 0)]:=by simp[zak,h2]
 have hlt:h.length<H'.length:=(qaa.1 h2).1;have hset:∀ l,zak (H'.set h.length (.blk l)) h.length=some l:=λl=>by simp[zak,hlt]
 rw[qbc]at h1;cases cr with
 | ret v=>
  refine⟨N+3,_,_,λn hn=>?_,h3⟩;obtain⟨m,rfl⟩:∃ m,n=m+2:=⟨n - 2,by omega⟩;rw[Mach.zg3 zl6];unfold zfD;rw[zl6.1];have hh:=h1 (m+1) (by omega);have hdc:=zmU m B h.length (H'.set h.length (.blk [.lit (.int .i64 0)]));simp[zrA,body,exec,zax,zbO,wanted,St.put,zae,q,Mx.eff,ev,evs,zav,List.replicate,V.cells,zec,qap hB,zaR,zhb,zjh,hh,hbk,fin,leave,hdc,zbj,zdD,hset,takeN,zdJ,zwM,zxK]
 | pan v=>
  obtain⟨⟨t,u,rfl⟩,h3⟩:=h3;refine⟨N+3,_,_,λn hn=>?_,h3⟩;obtain⟨m,rfl⟩:∃ m,n=m+2:=⟨n - 2,by omega⟩;rw[Mach.zg3 zl6];unfold zfD;rw[zl6.1];have hh:=h1 (m+1) (by omega);have hdc:=znk m B h.length H' t u hB h2;simp[zrA,body,exec,zax,zbO,wanted,St.put,zae,q,Mx.eff,ev,evs,zav,List.replicate,V.cells,zec,qap hB,zaR,zhb,zjh,hh,hbk,fin,leave,hdc,zbj,zdD,hset,takeN,zdJ,zwM,zxK]
theorem le_trans'{c c' c'':Cx}(h:c.le c')(h':c'.le c''):c.le c'' where
 za b cs hb:=h'.za b cs (h.za b cs hb)
 zf b cs hb:=h'.zf b cs (h.zf b cs hb)
 ρ β x hx:=by
  obtain⟨x',h1,h2⟩:=h.ρ β x hx;obtain⟨x'',h3,h4⟩:=h'.ρ β x' h1;exact⟨x'',h3,h2.trans h4⟩
 apart:=h'.apart
theorem zuV{c:Cx}{v:Value}{vs:List V}(h:Rs c [.lit v] vs):vs=[.lit v]:=by
 obtain⟨u,us,rfl,h1,h2⟩:=h.inv;cases zgg h1;have:=h2.1;cases us with
 | nil=>rfl
 | cons _ _=>simp at this
theorem zsA(c:Cx)(v:Value):Rs c [.lit v] [.lit v]:=(Rs.nil c).cons (.lit v)
theorem zsx{L:List LB}{f:Nat}{first cap:List D}{Q1 Qp1:D->List LB->Prop}(hc:zbs mC false f (first ++ []++ cap) (L ++ [.cells [dI 0]]) Q1 Qp1)(hq:∀ d L',Q1 d L'->L'[L.length]? = some (.cells [dI 0]))
  (hp:∀ d L',Qp1 d L'->(∃ t r,d=.ifc t r)/\L'[L.length]? = some (.cells [dI 0])):
  zbs mC false 62 [.clo f first cap] L (λd L'=>(d=dI 0/\∃ r,Q1 r L')\/(d=dI 6/\∃ r L0,Qp1 r L0/\L'=L0.set L.length (.cells [dI 6]))) λ_ _=>False:=by
 intro c B H vs hH hB hr;obtain⟨v,vs',rfl,h1,h2⟩:=hr.inv;have hvs:vs'=[]:=qaw h2.1.symm;subst hvs;cases h1 with
 | clo q1 q2 q3 q4=>
  rename_i us ws;obtain⟨g1,g2,g3⟩:=hH.new (x:=.cell H.length) (lb:=.cells [dI 0]) (o:=[.blk [.lit (.int .i64 0)]]) (.inr ⟨_,rfl,rfl⟩) λc' hle hρ=>⟨H.length,[.lit (.int .i64 0)],hρ,by simp,zsA _ _⟩
  show EvF mC B 62 [.clo f us ws] H _;have hBl:B<=H.length:=qaD hB hH.base;have hrs:Rs (c.put L.length (.cell H.length)) (first ++ []++ cap) (us ++ []++ ws):=(Rs.append (Rs.append ⟨q1,q3⟩ (Rs.nil _)) ⟨q2,q4⟩).mono g3;refine ztN hBl (EvF.mono (hc _ B _ _ g1 hB hrs) ?_);rintro cr H' ⟨c',d,L',k1,k2,k3,k4⟩;have key:∀(hL':L'[L.length]? = some (.cells [dI 0])),c'.ρ L.length=some (.cell H.length)/\H'[H.length]? = some (.blk [.lit (.int .i64 0)]):=by
   intro hL';obtain⟨b,vs',w1,w2,w3⟩:=k2.obj _ _ hL';obtain⟨x',w4,w5⟩:=k3.ρ L.length _ (zao c L.length (.cell H.length));cases w5;rw[w4]at w1;cases w1;rw[zuV w3]at w2;exact⟨w4,w2⟩
  have wr:∀(n:Int),c'.ρ L.length=some (.cell H.length)->H'[H.length]? = some (.blk [.lit (.int .i64 0)])->RelH c' (L'.set L.length (.cells [dI n])) (H'.set H.length (.blk [.lit (.int .i64 n)]))/\Step c' H' c' (H'.set H.length (.blk [.lit (.int .i64 n)])):=λn hρ ho=>
   k2.write hρ rfl ho λH'' hb=>⟨H.length,_,hρ,hb,zsA _ _⟩
  cases cr with
  | ret v=>
   have hL':=hq d L' k4.2;obtain⟨w1,w2⟩:=key hL';obtain⟨r1,r2⟩:=wr 0 w1 w2;rw[zei hL']at r1;exact⟨w2,c',dI 0,L',(g2.trans k1).trans r2,r1,le_trans' g3 k3,.lit _,.inl ⟨rfl,d,k4.2⟩⟩
  | pan v=>
   obtain⟨⟨t,r,rfl⟩,hL'⟩:=hp d L' k4.2;obtain⟨w1,w2⟩:=key hL';obtain⟨r1,r2⟩:=wr 6 w1 w2;have hv:∃ t u,v=.ifc t u:=by
    cases k4.1 with
    | ifc _=>exact⟨_,_,rfl⟩
   exact⟨w2,hv,c',dI 6,_,(g2.trans k1).trans r2,r1,le_trans' g3 k3,.lit _,.inr ⟨rfl,_,L',k4.2,rfl⟩⟩
def inB:List Int->List Int->Bool
 | card :: r,x :: s=>decide (-1<=x) && decide (x<card) && inB r s
 | _,_=>true
theorem zqM:∀ {cards input:List Int},inB cards input=true->∀ k (h1:k<cards.length) (h2:k<input.length),-1<=input[k]/\input[k]<cards[k]
 | [],_,_,k,h1,_=>absurd h1 (qav _)
 | _ :: _,[],_,k,_,h2=>absurd h2 (qav _)
 | card :: r,x :: s,h,0,_,_=>by
  simp only[inB,qaf,qcX]at h;exact h.1
 | card :: r,x :: s,h,k+1,h1,h2=>by
  simp only[inB,qaf]at h;exact zqM h.2 k (by simpa using h1) (by simpa using h2)
def zqX(c:S_api_Circuit)(input:List Int):Bool:=ziw c && (decide (input.length=c.cards.length) && inB c.cards input)
structure ROk (cs:List Nat) (c:S_api_Circuit) (input:List Int):Prop where
 ok:COk cs c
 b:ziw c=true
 len:input.length=cs.length
 inp:∀ k (h1:k<c.cards.length) (h2:k<input.length),-1<=input[k]/\input[k]<c.cards[k]
theorem zqj{c:S_api_Circuit}{input:List Int}(h:zqX c input=true):∃ cs,ROk cs c input:=by
 unfold zqX at h;simp only[qaf,qcX]at h;obtain⟨cs,hc⟩:=zrW h.1;refine⟨cs,hc,h.1,?_,zqM h.2.2⟩;rw[h.2.1,hc.cards,zas]
theorem COk.small{cs:List Nat}{c:S_api_Circuit}(h:COk cs c):∀ g∈c.gates,g.args.length<4611686018427387904:=λg hg=>by
 obtain⟨i,hi,rfl⟩:=qbP.1 hg;obtain⟨ar,e,_,hl⟩:=(h.gate i hi).ar;have:=h.glen;rw[e,zas]; omega
theorem zj8{cs:List Nat}{c:S_api_Circuit}{input:List Int}(h:ROk cs c input):
  zbs mC false 61 [.agg [fzE false (eI .i64) c.cards,fzE false zab c.gates],fzE false (eI .i64) input] [.cells [fzE false (eI .i64) c.cards,fzE false zab c.gates]]
   (λd L'=>d=.tup [.ptr 2 0,dI 0]/\L'=rnB c input [] (.lit (.slice none 0 0))) λ_ _=>False:=by
 have hck:=zqV c h.ok.small;rw[h.b,qcR]at hck;have hl8:=h.ok.len;have hlc:c.cards.length=cs.length:=by rw[h.ok.cards,zas]
 have hln:(input.length:Int)=(c.cards.length:Int):=by rw[h.len,hlc]
 refine gnL ?_;refine zaa ?_;simp only[rnA,Nat.reduceEqDiff,Nat.reduceLT,Nat.reduceAdd,Nat.reduceLeDiff,reduceCtorEq];refine EvL.fn (zdC hck) rfl rfl (.cons (.zl2 (.cons (zaM _ _ (λh=>nomatch h)) (.cons (zaM _ _ (λh=>nomatch h)) .nil))) .nil) ?_;simp only[rnA,Nat.reduceEqDiff,Nat.reduceLT,reduceCtorEq,zal,hln];refine EvL.scope (zaa ?_);simp only[rnA];refine EvL.loop (α:=Nat) (λk=>⟨43,[(1,fzE false (eI .i64) input),(2,.ptr 1 0),(20,fzE false (eI .i64) input),(21,dI (c.cards.length:Int)),(22,dI (k:Int))],[.cells [fzE false (eI .i64) c.cards,fzE false zab c.gates],.cells [fzE false (eI .i64) c.cards,fzE false zab c.gates]]⟩)
  (λk=>k<=c.cards.length) (λk=>c.cards.length - k) 0 (za9.sub (by simp[zbY,lk])) (qaB _) ?_
 rintro k p1;refine zaa ?_;by_cases hk:k<c.cards.length
 .have hlt:decide ((k:Int)<(c.cards.length:Int))=true:=qcT (by omega);have hki:k<input.length:=by omega
  have hw2:IntKind.i64.wrap ((k:Int)+1)=((k+1:Nat):Int):=by rw[wrap64 (by omega) (by omega)]; rfl
  obtain⟨q1,q2⟩:=h.inp k hk hki;have q3:decide (input[k] < -1)=false:=qcU (by omega);have q4:decide (c.cards[k]<=input[k])=false:=qcU (by omega);simp only[rnA,Nat.reduceEqDiff,Nat.reduceLT,hlt,zai (n:=1) (e:=eI .i64) rfl (zau hki)];refine EvL.scope (zaa ?_);simp only[rnA,Nat.reduceEqDiff,Nat.reduceLT,zai (n:=1) (e:=eI .i64) rfl (zau hk),q3,q4,hw2];exact⟨k+1,hk,by omega,za9.sub (by simp[zbY,lk])⟩
 have hlt:decide ((k:Int)<(c.cards.length:Int))=false:=qcU (by omega);simp only[rnA,Nat.reduceEqDiff,Nat.reduceLT,Nat.reduceAdd,Nat.reduceLeDiff,hlt];exact⟨_,rfl,rfl,rfl⟩
def zaV(c:S_api_Circuit)(input:List Int):Option (Int×Int):=
 bif zqX c input then some (match zcr input [] c.gates with | none=>(0,6)| some vals=>(((vals.getD (vals.length - 1) 0:Nat):Int),0))else none
theorem zea{p0:S_api_Circuit}{p1:List Int}{r:Int×Int}(h:zaV p0 p1=some r):Lx.Fn mC 20 [(.agg [(fzE false (eI .i64) p0.cards),(fzE false zab p0.gates)]),(fzE false (eI .i64) p1)] (.tup [(dI r.1),(dI r.2)]):=by
 unfold zaV at h;cases hb:zqX p0 p1 with
 | false=>rw[hb]at h; cases h
 | true=>
 rw[hb,qcR]at h;obtain⟨cs,ho⟩:=zqj hb;have h1:=ho.ok.gone;have h4:=ho.ok.glen;refine gnO ?_;refine zaa ?_;simp only[rnA,Nat.reduceEqDiff,Nat.reduceLT,Nat.reduceAdd,Nat.reduceLeDiff,reduceCtorEq];refine EvL.call rfl rfl (zj8 ho) ?_ (λ_ _ (h:False)=>False.elim h);rintro r L' ⟨rfl,rfl⟩;simp only[rnA,Nat.reduceEqDiff,Nat.reduceLT,reduceCtorEq];have hev:=zgt ho.ok ho.len (T:=[.cells [dI 0]]) (λn _=>⟨⟨qcQ,qcQ⟩,qcQ⟩);refine EvL.call rfl rfl (zsx (L:=rnB p0 p1 [] (.lit (.slice none 0 0))) (first:=[.ptr 2 0]) (cap:=[]) hev ?_ ?_) ?_ (λ_ _ (h:False)=>False.elim h)
 .rintro d L' ⟨vals,_,_,_,rfl⟩; rfl
 .rintro d L' ⟨_,q1,v,X,rfl⟩; exact⟨q1,rfl⟩
 rintro r' L' (⟨rfl,d,vals,q1,q2,q3,rfl⟩| ⟨rfl,d,L0,⟨q1,_,_⟩,rfl⟩)
 .rw[q1]at h;cases h;have hl:vals.length - 1<vals.length:=by omega
  have hw:IntKind.i64.wrap ((p0.gates.length:Int) - 1)=((vals.length - 1:Nat):Int):=by
   rw[wrap64 (by omega) (by omega)]; omega
  have hlt:((vals.length - 1:Nat):Int)<((p0.gates.length:Nat):Int):=by omega
  have hg:=zi0 (m:=p0.gates.length) hl;have hes:(if p0.gates.length=(esL p0.gates.length vals).length then some (esL p0.gates.length vals)else none)=some (esL p0.gates.length vals):=if_pos (zi9 (by omega)).symm;simp only[rnA,Nat.reduceEqDiff,Nat.reduceLT,Nat.reduceAdd,reduceCtorEq,rnB,hw,hlt,qaA,hg,hes];exact zc7.pl rfl rfl
 rw[q1]at h;cases h;simp only[rnA,Nat.reduceEqDiff,Nat.reduceLT,Int.reduceBEq,reduceCtorEq];exact zc7.pl rfl rfl
def cL(xs:List Nat):List (List D):=xs.map λv:Nat=>[dI (v:Int)]
theorem zfo(xs:List Nat):(cL xs).length=xs.length:=by simp[cL]
theorem zhY(ys:List Nat)(k x:Nat):(cL ys).set k [dI (x:Int)]=cL (ys.set k x):=by simp[cL,qcu]
theorem zpD(n:Nat):List.replicate n [dI 0]=cL (List.replicate n 0):=by simp[cL]
variable{k:Nat}
theorem zkJ{ys:List Nat}(h:k<ys.length):(cL ys)[((k:Nat):Int).toNat]? = some [dI ((ys.getD k 0:Nat):Int)]:=by
 rw[qaq]; simp[cL,h]
theorem zvg(xs:List Nat)(n:Nat):LB.sc n (.els 1 (cL xs)):=by
 intro cells h;obtain⟨v,_,rfl⟩:=qa4.1 h;exact⟨qcQ,qcQ⟩
def zlZ(vals ar:List Nat)(i:Nat):Nat:=zet vals (ar.take i) 1
def zpO(vals ar:List Nat)(i:Nat):Nat:=zet vals (ar.drop i).reverse 1
def zkF(vals ar:List Nat):List Nat:=(List.range ar.length).map λi=>zji (zlZ vals ar i) (zpO vals ar (i+1))
theorem zuU{α:Type}(L:List α)(x y:α):(L ++ [x]).set L.length y=L ++ [y]:=by simp
theorem zn0{ar:List Nat}(hk:k<ar.length):zlZ vals ar (k+1)=zji (zlZ vals ar k) (vals.getD ar[k] 0):=by
 unfold zlZ zet;rw[List.take_add_one,qad hk];simp only[Option.toList_some,List.foldl_append,qbF,List.foldl_nil]
theorem zqT{ar:List Nat}(hk:k<ar.length):zpO vals ar k=zji (zpO vals ar (k+1)) (vals.getD ar[k] 0):=by
 unfold zpO zet;rw[qau hk,List.reverse_cons,List.foldl_append];rfl
theorem zf7(vals ar:List Nat):zet vals ar 1<=za2:=zh6 zfK vals ar 1 (by decide)
theorem zpu{c:S_api_Circuit}{input:List Int}{m:Nat}{β:Nat}{L:List LB}(h:RunIn c input m vals β L)(ar:List Nat)(hl:ar.length<1000000)(ha:∀ a∈ar,a<vals.length):
  zbs mC false 111 [.ptr 2 0,fzE false (eI .i64) (iL ar)] L (λd L'=>d=.sl L.length 0 1 ar.length (some ar.length) ar.length/\L'=L ++ [.els 1 (cL (zkF vals ar))]) λ_ _=>False:=by
 refine gnL ?_;have hm':((ar.length:Int)* ((8:Nat):Int))<=(zag:Int):=by simp only[zag]; omega
 have hrun:∀ x,(L ++ [x])[2]? = some (.cells [fzE false (eI .i64) c.cards,fzE false zab c.gates,fzE false (eI .i64) input,.sl β 0 1 vals.length (some m) m]):=λx=>zdi h.run _
 have hels:∀ x,(L ++ [x])[β]? = some (.els 1 (esL m vals)):=λx=>zdi h.els _
 have hme:∀ x,(L ++ [x])[L.length]? = some x:=λx=>zj0 L x
 have hval:∀ {k:Nat} (hk:k<ar.length),((((ar[k]:Nat):Int)<((vals.length:Nat):Int))=True)/\(esL m vals)[((ar[k]:Nat):Int).toNat]? = some [dI ((vals.getD ar[k] 0:Nat):Int)]:=λ{k} hk=>by
  have q:=ha ar[k] (qat hk);exact⟨eq_true (by omega),zi0 q⟩
 refine zaa ?_;simp only[rnA,Nat.reduceEqDiff,Nat.reduceLT,Nat.reduceAdd,reduceCtorEq,zal,zas,qaA,qbU,hm',qaq,zpD];refine EvL.scope (zaa ?_);simp only[rnA];refine EvL.loop (α:=Nat×List Nat) (λa=>⟨64,[(0,.ptr 2 0),(1,fzE false (eI .i64) (iL ar)),(5,.sl L.length 0 1 ar.length (some ar.length) ar.length),(6,dI ((zlZ vals ar a.1:Nat):Int)),(7,dI 1),(14,fzE false (eI .i64) (iL ar)),(15,dI (ar.length:Int)),(16,dI (a.1:Int))],L ++ [.els 1 (cL a.2)]⟩)
  (λa=>a.1<=ar.length/\a.2.length=ar.length/\∀ i,i<a.1->a.2.getD i 0=zlZ vals ar i) (λa=>ar.length - a.1) (0,List.replicate ar.length 0) (za9.sub (by simp[zbY,lk,zlZ,zet])) ⟨qaB _,by simp,λi hi=>absurd hi (qav _)⟩ ?_
 rintro⟨k,res⟩ ⟨p1,p2,p3⟩;simp only at p1 p2 p3;refine zaa ?_;by_cases hk:k<ar.length
 .have hlt:decide ((k:Int)<(ar.length:Int))=true:=qcT (by omega);have hltp:((k:Int)<((ar.length:Nat):Int))=True:=eq_true (by omega);have hw2:IntKind.i64.wrap ((k:Int)+1)=((k+1:Nat):Int):=by rw[wrap64 (by omega) (by omega)]; rfl
  obtain⟨v1,v2⟩:=hval hk;have hkr:k<res.length:=by omega
  have hget:=zkJ hkr;have hli:(ar.length=(cL res).length)=True:=eq_true (by rw[zfo,p2]);have hst:∀ x:Nat,(cL res).set ((k:Nat):Int).toNat [dI (x:Int)]=cL (res.set k x):=λx=>by rw[qaq,zhY]
  simp only[rnA,Nat.reduceEqDiff,Nat.reduceLT,Nat.reduceLeDiff,reduceCtorEq,hltp,zai (n:=1) (e:=eI .i64) rfl (zaT hk),qaA,hme,hli,hget,hst,zuU,hrun,hels,v1,v2,h.es];refine EvL.fn (zbt (zg1 (zf7 vals (ar.take k)) (h.bnd ar[k]))) rfl rfl (.cons (.lit _) (.cons (.lit _) .nil)) ?_;have hbs:=zn0 (vals:=vals) hk;unfold zlZ at hbs;rw[<- hbs];simp only[rnA,Nat.reduceEqDiff,Nat.reduceLT,reduceCtorEq,hw2];refine⟨(k+1,res.set k (zlZ vals ar k)),⟨hk,by rw[qaI]; exact p2,λi hi=>?_⟩,by simp only; omega,za9.sub (by simp[zbY,lk,zlZ])⟩;simp only at hi ⊢;rw[zbp _ _ _ _ _ hkr];split
  .next e=>rw[e]
  exact p3 i (by omega)
 have hlt:decide ((k:Int)<(ar.length:Int))=false:=qcU (by omega);have hke:k=ar.length:=by omega
 have hw3:IntKind.i64.wrap ((ar.length:Int) - 1)=(ar.length:Int) - 1:=wrap64 (by omega) (by omega);simp only[rnA,Nat.reduceEqDiff,Nat.reduceLT,reduceCtorEq,hlt,zal,zas,hw3];refine EvL.scope (zaa ?_);simp only[rnA];refine EvL.loop (α:=Nat×List Nat) (λa=>⟨64,[(0,.ptr 2 0),(1,fzE false (eI .i64) (iL ar)),(5,.sl L.length 0 1 ar.length (some ar.length) ar.length),(7,dI ((zpO vals ar a.1:Nat):Int)),(10,dI ((a.1:Int) - 1))],L ++ [.els 1 (cL a.2)]⟩)
  (λa=>a.1<=ar.length/\a.2.length=ar.length/\(∀ i,i<a.1->a.2.getD i 0=zlZ vals ar i)/\∀ i,a.1<=i->i<ar.length->a.2.getD i 0=zji (zlZ vals ar i) (zpO vals ar (i+1))) (λa=>a.1) (ar.length,res)
  (za9.sub (by simp[zbY,lk,zpO,zet])) ⟨qan _,p2,λi hi=>p3 i (by omega),λi h1 h2=>by simp only at h1; omega⟩ ?_
 rintro⟨j,rs⟩ ⟨q1,q2,q3,q4⟩;simp only at q1 q2 q3 q4;refine zaa ?_;cases j with
 | zero=>
  have hge:decide ((0:Int)<=((0:Nat):Int) - 1)=false:=by decide
  simp only[rnA,Nat.reduceEqDiff,Nat.reduceLT,reduceCtorEq,hge];refine⟨_,rfl,rfl,?_⟩;have:rs=zkF vals ar:=by
   refine List.ext_getElem (by simp[zkF,q2]) λi h1 h2=>?_
   have:=q4 i (qaB _) (by omega);rw[zah h1]at this;rw[this];simp[zkF]
  rw[this]
 | succ j=>
  have hj:j<ar.length:=by omega
  have hcast:(((j+1:Nat):Int) - 1)=(j:Int):=by omega
  have hge:decide ((0:Int)<=(j:Int))=true:=qcT (by omega);have hjp:((j:Int)<((ar.length:Nat):Int))=True:=eq_true (by omega);have hw4:IntKind.i64.wrap ((j:Int) - 1)=(j:Int) - 1:=wrap64 (by omega) (by omega);obtain⟨v1,v2⟩:=hval hj;have hjr:j<rs.length:=by omega
  have hget:=zkJ hjr;rw[q3 j (qa1 j)]at hget;have hli:(ar.length=(cL rs).length)=True:=eq_true (by rw[zfo,q2]);have hst:∀ x:Nat,(cL rs).set ((j:Nat):Int).toNat [dI (x:Int)]=cL (rs.set j x):=λx=>by rw[qaq,zhY]
  simp only[rnA,Nat.reduceEqDiff,Nat.reduceLT,reduceCtorEq,hcast,hjp,qaA,hme,hli,hget];refine EvL.fn (zbt (zg1 (zf7 vals (ar.take j)) (zf7 vals (ar.drop (j+1)).reverse))) rfl rfl (.cons (.lit _) (.cons (.lit _) .nil)) ?_;simp only[rnA,Nat.reduceEqDiff,Nat.reduceLT,Nat.reduceLeDiff,reduceCtorEq,hjp,qaA,hme,hli,hget,hst,zuU,hrun,hels,zai (n:=1) (e:=eI .i64) rfl (zaT hj),v1,v2,h.es];refine EvL.fn (zbt (zg1 (zf7 vals (ar.drop (j+1)).reverse) (h.bnd ar[j]))) rfl rfl (.cons (.lit _) (.cons (.lit _) .nil)) ?_;have hbs:=zqT (vals:=vals) hj;unfold zpO at hbs;rw[<- hbs];simp only[rnA,Nat.reduceEqDiff,Nat.reduceLT,reduceCtorEq,hw4];refine⟨(j,rs.set j (zji (zlZ vals ar j) (zpO vals ar (j+1)))),⟨by omega,by rw[qaI]; exact q2,λi hi=>?_,λi h1 h2=>?_⟩,qa1 j,za9.sub (by simp[zbY,lk,zpO])⟩
  .simp only at hi ⊢;rw[zbp _ _ _ _ _ hjr,if_neg (by omega)];exact q3 i (by omega)
  simp only at h1 ⊢;rw[zbp _ _ _ _ _ hjr];split
  .next e=>rw[e]
  exact q4 i (by omega) h2
abbrev zh3:D:=.lit (.slice none 0 0)
def slW:Nat->List Nat->List (List D)
 | _,[]=>[]
 | b,k :: r=>[.sl b 0 1 k (some k) k]:: slW (b+1) r
theorem zeG:∀(cs:List Nat) (b:Nat),(slW b cs).length=cs.length
 | [],_=>rfl
 | k :: r,b=>by simp[slW,zeG r]
theorem zou:∀(cs:List Nat) (b v:Nat) (h:v<cs.length),(slW b cs)[v]? = some [.sl (b+v) 0 1 cs[v] (some cs[v]) cs[v]]
 | [],_,v,h=>by simp at h
 | k :: r,b,0,_=>by simp[slW]
 | k :: r,b,v+1,h=>by
  simp only[slW,qaZ,qcD];rw[zou r (b+1) v (by simpa using h),show b+1+v=b+(v+1) by omega]
theorem zqd:∀(cs:List Nat) (b k:Nat),slW b (cs ++ [k])=slW b cs ++ [[.sl (b+cs.length) 0 1 k (some k) k]]
 | [],b,k=>by simp[slW]
 | x :: r,b,k=>by
  simp only[slW,qaH,qaP];rw[zqd r (b+1) k,show b+1+r.length=b+(r.length+1) by omega]
theorem zsU{n:Nat}:∀(cs:List Nat) (b:Nat),b+cs.length<=n->∀ cells∈slW b cs,D.scs n cells
 | [],b,_,cells,h=>by simp[slW]at h
 | k :: r,b,hb,cells,h=>by
  simp only[slW,qa2,qaP]at h hb;rcases h with rfl | h
  .exact⟨by show b<n; omega,qcQ⟩
  exact zsU r (b+1) (by omega) cells h
abbrev znu(r:List Nat):LB:=.els 1 (cL r)
def dvP(B:List LB)(cs:List Nat)(v:Nat):List LB:=B ++ .els 1 (slW 9 (cs.take v)++ List.replicate (cs.length - v) [zh3])::(cs.take v).map λk=>znu (List.replicate k 0)
def dvL(B:List LB)(cs:List Nat)(rows:List (List Nat))(ss:List Nat):List LB:=B ++ .els 1 (slW 9 cs)::(rows.map znu ++ [znu ss])
def zcw(cs:List Nat):List (List Nat):=cs.map λk=>List.replicate k 0
section
variable {B:List LB} {cs:List Nat} {rows:List (List Nat)} {ss:List Nat}
theorem zof(hB:B.length=8){v:Nat}(hv:v<=cs.length):(dvP B cs v).length=9+v:=by simp[dvP,hB]; omega
theorem zt2(hB:B.length=8)(v:Nat)(X:List LB):(dvP B cs v ++ X)[8]? = some (.els 1 (slW 9 (cs.take v)++ List.replicate (cs.length - v) [zh3])):=by
 unfold dvP;rw[qaG,qal (by omega),hB];rfl
theorem zty{i:Nat}{b:LB}(h:B[i]? = some b)(v:Nat)(X:List LB):(dvP B cs v ++ X)[i]? = some b:=by
 unfold dvP;exact zdi (zdi h _) _
theorem zrJ(hB:B.length=8){v:Nat}(hv:v<cs.length):(dvP B cs v ++ [znu (List.replicate cs[v] 0)]).set 8 (.els 1 ((slW 9 (cs.take v)++ List.replicate (cs.length - v) [zh3]).set v [.sl (9+v) 0 1 cs[v] (some cs[v]) cs[v]]))=dvP B cs (v+1):=by
 have hl:(slW 9 (cs.take v)).length=v:=by rw[zeG]; simp; omega
 have h1:cs.length - v=(cs.length - (v+1))+1:=by omega
 have ht:cs.take (v+1)=cs.take v ++ [cs[v]]:=by rw[List.take_add_one,qad hv]; rfl
 unfold dvP;rw[qaG,qbp _ _ (by omega),hB,qbK,qaH,qbM,ht,zqd,qcz,qbp _ _ (by omega),hl,qbK,h1,qa7,qbM];simp[qa6 (Nat.le_of_lt hv)]
theorem ztf(ss:List Nat):dvP B cs cs.length ++ [znu ss]=dvL B cs (zcw cs) ss:=by
 unfold dvP dvL zcw;simp
theorem zsV(hB:B.length=8)(hr:rows.length=cs.length)(ss:List Nat):(dvL B cs rows ss).length=10+cs.length:=by simp[dvL,hB,hr]; omega
theorem zjC{i:Nat}{b:LB}(h:B[i]? = some b)(ss:List Nat)(X:List LB):(dvL B cs rows ss ++ X)[i]? = some b:=zdi (zdi h _) _
theorem zsB(hB:B.length=8)(ss:List Nat)(X:List LB):(dvL B cs rows ss ++ X)[8]? = some (.els 1 (slW 9 cs)):=by
 unfold dvL;rw[qaG,qal (by omega),hB];rfl
theorem zoZ(hB:B.length=8){v:Nat}(hv:v<rows.length)(ss:List Nat)(X:List LB):(dvL B cs rows ss ++ X)[9+v]? = some (znu rows[v]):=by
 unfold dvL;rw[qaG,qal (by omega),hB,show 9+v - 8=v+1 by omega,qaH,qaZ,qaG,qai (by simpa using hv)];simp[hv]
theorem zoz(hB:B.length=8)(hr:rows.length=cs.length)(ss:List Nat)(X:List LB):(dvL B cs rows ss ++ X)[9+cs.length]? = some (znu ss):=by
 unfold dvL;rw[qaG,qal (by omega),hB,show 9+cs.length - 8=cs.length+1 by omega,qaH,qaZ,qaG,qal (by simp[hr])];simp[hr]
theorem zpg(hB:B.length=8){v:Nat}(hv:v<rows.length)(ss r:List Nat)(X:List LB):(dvL B cs rows ss ++ X).set (9+v) (znu r)=dvL B cs (rows.set v r) ss ++ X:=by
 unfold dvL;rw[qaG,qbp _ _ (by omega),hB,show 9+v - 8=v+1 by omega,qaH,qb2,qaG,qcq _ _ (by simpa using hv)];simp[qcu]
theorem zj9(hB:B.length=8)(hr:rows.length=cs.length)(ss s':List Nat)(X:List LB):(dvL B cs rows ss ++ X).set (9+cs.length) (znu s')=dvL B cs rows s' ++ X:=by
 unfold dvL;rw[qaG,qbp _ _ (by omega),hB,show 9+cs.length - 8=cs.length+1 by omega,qaH,qb2,qaG,qbp _ _ (by simp[hr])];simp[hr]
theorem zhv{n:Nat}:∀(rows:List (List Nat)),zcd n (rows.map znu)
 | []=>trivial
 | r :: rows=>⟨zvg r n,zhv rows⟩
theorem zu3{n:Nat}(hb:zcd n B)(hn:9+cs.length<=n)(rows:List (List Nat))(ss:List Nat):zcd n (dvL B cs rows ss):=zdB hb ⟨λcells h=>zsU cs 9 hn cells h,zdB (zhv rows) ⟨zvg ss n,qcQ⟩⟩
theorem zmR{N:Nat}{E E':List (Nat×D)}{X:List LB}{k0:Nat}(hB:B.length=8)(hsc:∀ n,8<=n->zcd n B)(hr:rows.length=cs.length)(hk:k0<=10+cs.length)(he:zj4 E (10+cs.length) E'):
  za9 k0 ⟨N,E,dvL B cs rows ss ++ X⟩ ⟨N,E',dvL B cs rows ss⟩:=by
 have hl:=zsV hB hr ss;exact za9.cut (by rw[hl]; exact hk) (by rw[hl]; exact he) (by rw[hl]; exact zu3 (hsc _ (by omega)) (by omega) rows ss)
end
def zdb(slope:Nat):List Nat->List Nat->List Nat
 | ss,[]=>ss
 | ss,a :: r=>zdb slope (ss.set a (zfc (ss.getD a 0) slope)) r
def zdg(slope:Nat):List Nat->List Nat->List Nat->List Nat
 | ss,a :: r,q :: s=>zdg slope (ss.set a (zfc (ss.getD a 0) (zji slope q))) r s
 | ss,_,_=>ss
def rowAt(rows:List (List Nat))(v:Nat):List Nat:=rows.getD v []
def zc4(vals:List Nat)(g:S_api_Gate)(slope:Nat)(rows:List (List Nat))(ss:List Nat):Option (List (List Nat)×List Nat):=
 bif slope == za2 then none else
 bif g.kind == 2 then(bif zfc ((rowAt rows g.var.toNat).getD g.val.toNat 0) slope == za2 then none else some (rows.set g.var.toNat ((rowAt rows g.var.toNat).set g.val.toNat (zfc ((rowAt rows g.var.toNat).getD g.val.toNat 0) slope)),ss))else
 bif g.kind == 3 then some (rows,zdb slope ss (ga g))else
 bif g.kind == 4 then some (rows,zdg slope ss (ga g) (zkF vals (ga g)))else some (rows,ss)
def zfh(vals:List Nat)(gs:List S_api_Gate):Nat->List (List Nat)->List Nat->Option (List (List Nat))
 | 0,rows,_=>some rows
 | j+1,rows,ss=>match zc4 vals (gs.getD j ⟨0,0,0,0,[]⟩) (ss.getD j 0) rows ss with
  | none=>none
  | some (rows',ss')=>zfh vals gs j rows' ss'
def zcP(m:Nat):List Nat:=(List.replicate m 0).set (m - 1) 1
structure RowsOk (cs:List Nat) (rows:List (List Nat)):Prop where
 len:rows.length=cs.length
 row:∀ v (h:v<rows.length) (h2:v<cs.length),rows[v].length=cs[v]
 bnd:∀ r∈rows,∀ x∈r,x<=za2
structure SloOk (m:Nat) (ss:List Nat):Prop where
 len:ss.length=m
 bnd:∀ x∈ss,x<=za2
theorem SloOk.set{m:Nat}{ss:List Nat}(h:SloOk m ss)(k:Nat){x:Nat}(h1:x<=za2):SloOk m (ss.set k x):=by
 refine⟨by simp[h.len],λy hy=>?_⟩;rcases qbj hy with hy | rfl
 .exact h.bnd y hy
 exact h1
theorem SloOk.le{m:Nat}{ss:List Nat}(h:SloOk m ss)(a:Nat):ss.getD a 0<=za2:=by
 rw[qaj];by_cases ha:a<ss.length
 .rw[qad ha]; exact h.bnd _ (qat ha)
 rw[qaL (by omega)]; exact qaB _
theorem ziN(cs:List Nat):RowsOk cs (zcw cs):=by
 refine⟨by simp[zcw],λv h h2=>by simp[zcw],λr hr x hx=>?_⟩;obtain⟨k,_,rfl⟩:=qa4.1 hr;rw[qbN hx];exact qaB _
theorem zgx(m:Nat):SloOk m (zcP m):=SloOk.set ⟨by simp,λx hx=>by rw[qbN hx]; exact qaB _⟩ _ (by decide)
theorem RowsOk.set{cs:List Nat}{rows:List (List Nat)}(h:RowsOk cs rows){v:Nat}(hv:v<rows.length){r:List Nat}(hr:r.length=rows[v].length)(hb:∀ x∈r,x<=za2):RowsOk cs (rows.set v r):=by
 refine⟨by simp[h.len],λu hu h2=>?_,λs hs=>?_⟩
 .rw[List.getElem_set];split
  .rename_i e; subst e; rw[hr]; exact h.row v hv h2
  exact h.row u (by simpa using hu) h2
 rcases qbj hs with hs | rfl
 .exact h.bnd s hs
 exact hb
theorem zrT(vals ar:List Nat):(zkF vals ar).length=ar.length:=by simp[zkF]
theorem zrh(vals ar:List Nat):∀ q∈zkF vals ar,q<=za2:=by
 intro q hq;obtain⟨i,_,rfl⟩:=qa4.1 hq;exact zfK _ _
def zmt:C:=
 .seq (rg [⟨some 2,.mov (.c (.slice none 0 0)),none⟩])
 (.seq (rg [oM 16 0,
 oZ 17 16,
 oF 18 0 17,
 oF 19 0 18,
 oL 20 19,
 oE 21 20,
 ⟨some 22,.mk 1 24 [(.slice none 0 0)] (.s 21) (.s 21),none⟩,
 oM 3 22])
 (.seq (.seq (rg [oM 23 0,
 oZ 24 23,
 oF 25 0 24,
 oF 26 0 25,
 oL 27 26,
 oE 28 27,
 oK 29 0])
 (.scope (.block 0 (.loop (.seq (rg [oB 30 .lss 29 28])
 (.seq (.cond (.s 30) (.skip)
 (.exit 0))
 (.seq (.block 1 (.seq (rg [oM 31 29,
 oI 32 1 27 29,
 oL 33 32,
 oM 4 31,
 oM 5 33])
 (rg [oM 34 3,
 oM 35 4,
 oM 36 5,
 ⟨some 37,.mk 1 8 [(.int .i64 0)] (.s 36) (.s 36),none⟩,
 oI 38 1 34 35,
 oS 1 38 37])))
 (rg [oD 39 .add 29 1,
 oM 29 39]))))))))
 (.seq (rg [oM 40 0,
 oZ 41 40,
 oF 42 0 41,
 oF 43 1 42,
 oL 44 43,
 oE 45 44,
 oD 46 .sub 45 1,
 oM 6 46])
 (.seq (rg [oM 47 0,
 oZ 48 47,
 oF 49 0 48,
 oF 50 1 49,
 oL 51 50,
 oE 52 51,
 ⟨some 53,.mk 1 8 [(.int .i64 0)] (.s 52) (.s 52),none⟩,
 oM 7 53])
 (.seq (rg [oM 54 7,
 oM 55 6,
 oI 56 1 54 55,
 ⟨none,.store 1 (.s 56) (.c (.int .i64 1)),none⟩])
 (.seq (.seq (rg [oM 57 6,
 oM 8 57])
 (.scope (.block 2 (.loop (.seq (.seq (rg [oM 58 8,
 oD 59 .geq 58 0])
 (.cond (.s 59) (.skip)
 (.exit 2)))
 (.seq (.block 3 (.seq (rg [oM 62 7,
 oM 63 8,
 oI 64 1 62 63,
 oL 65 64,
 oM 9 65])
 (.seq (.seq (rg [oM 66 9,
 oD 67 .eql 66 4611686018427387904])
 (.scope (.cond (.s 67) (rg [oM 68 8,
 ⟨some 69,.build [(.int .i64 0)] [(0,1,(.s 68))],none⟩,
 ⟨some 70,.mkI 185 (.s 69),none⟩,
 ⟨none,.panic (.s 70),none⟩])
 (.skip))))
 (.seq (rg [oM 71 0,
 oZ 72 71,
 oF 73 0 72,
 oF 74 1 73,
 oL 75 74,
 oM 76 8,
 oI 77 5 75 76,
 oN 78 5 77,
 ⟨some 10,.alloc [(.int .i64 0),(.int .i64 0),(.int .i64 0),(.int .i64 0),(.slice none 0 0)],none⟩,
 oS 5 10 78])
 (.seq (rg [oF 79 0 10,
 oL 80 79])
 (.block 4 (.seq (rg [oD 82 .eql 80 2,
 oM 81 82])
 (.scope (.cond (.s 81) (.seq (.reg true false [oM 83 3,
 oF 84 1 10,
 oL 85 84,
 oI 86 1 83 85,
 oL 87 86,
 oF 88 2 10,
 oL 89 88,
 oI 90 1 87 89,
 oM 11 90])
 (.seq (rg [oM 91 11,
 oM 92 11,
 oZ 93 92,
 oL 94 93,
 oM 95 9,
 oV 96 110 94 95,
 oZ 97 91,
 oS 1 97 96])
 (.seq (rg [oM 98 11,
 oZ 99 98,
 oL 100 99,
 oD 101 .eql 100 4611686018427387904])
 (.cond (.s 101) (rg [oM 102 8,
 ⟨some 103,.build [(.int .i64 0)] [(0,1,(.s 102))],none⟩,
 ⟨some 104,.mkI 185 (.s 103),none⟩,
 ⟨none,.panic (.s 104),none⟩])
 (.skip)))))
 (.seq (rg [oD 106 .eql 80 3,
 oM 105 106])
 (.cond (.s 105) (.seq (rg [oF 107 4 10,
 oL 108 107,
 oE 109 108,
 oK 110 0])
 (.scope (.block 5 (.loop (.seq (rg [oB 111 .lss 110 109])
 (.seq (.cond (.s 111) (.skip)
 (.exit 5))
 (.seq (.block 6 (.seq (rg [oI 112 1 108 110,
 oL 113 112,
 oM 13 113])
 (rg [oM 114 7,
 oM 115 13,
 oM 116 7,
 oM 117 13,
 oI 118 1 116 117,
 oL 119 118,
 oM 120 9,
 oV 121 110 119 120,
 oI 122 1 114 115,
 oS 1 122 121])))
 (rg [oD 123 .add 110 1,
 oM 110 123]))))))))
 (.seq (rg [oD 125 .eql 80 4,
 oM 124 125])
 (.cond (.s 124) (.seq (rg [oM 126 0,
 oF 127 4 10,
 oL 128 127,
 oV 129 111 126 128,
 oE 130 129,
 oK 131 0])
 (.scope (.block 7 (.loop (.seq (rg [oB 132 .lss 131 130])
 (.seq (.cond (.s 132) (.skip)
 (.exit 7))
 (.seq (.block 8 (.seq (rg [oM 133 131,
 oI 134 1 129 131,
 oL 135 134,
 oM 14 133,
 oM 15 135])
 (.reg true true [oM 136 7,
 oF 137 4 10,
 oL 138 137,
 oM 139 14,
 oI 140 1 138 139,
 oL 141 140,
 oM 142 7,
 oF 143 4 10,
 oL 144 143,
 oM 145 14,
 oI 146 1 144 145,
 oL 147 146,
 oI 148 1 142 147,
 oL 149 148,
 oM 150 9,
 oM 151 15,
 oV 152 112 150 151,
 oV 153 110 149 152,
 oI 154 1 136 141,
 oS 1 154 153])))
 (rg [oD 155 .add 131 1,
 oM 131 155]))))))))
 (.skip))))))))))))))
 (rg [oM 60 8,
 oD 61 .sub 60 1,
 oM 8 61])))))))
 (.seq (rg [oM 156 3,
 oM 2 156])
 (.ret))))))))
theorem znc:zn1 mC 65=some (157,zmt,[.tmp 2],false):=zgp (by kernel_rfl)
theorem zpm{cs:List Nat}{c:S_api_Circuit}(hc:COk cs c){input:List Int}{vals:List Nat}(hvl:vals.length=c.gates.length)(hvb:∀ a,vals.getD a 0<=za2){B:List LB}(hB:B.length=8)
  (hB2:B[2]? = some (.cells [fzE false (eI .i64) c.cards,fzE false zab c.gates,fzE false (eI .i64) input,.sl 7 0 1 c.gates.length (some c.gates.length) c.gates.length])) (hB7:B[7]? = some (.els 1 (esL c.gates.length vals))) (hsc:∀ n,8<=n->zcd n B):
  zbs mC false 65 [.ptr 2 0] B
   (λd L'=>∃ rows ss,zfh vals c.gates c.gates.length (zcw cs) (zcP c.gates.length)=some rows/\RowsOk cs rows/\d=.sl 8 0 1 cs.length (some cs.length) cs.length/\L'=dvL B cs rows ss)
   (λd L'=>zfh vals c.gates c.gates.length (zcw cs) (zcP c.gates.length)=none/\(∃ t r,d=.ifc t r)/\∃ X,L'=B ++ X):=by
 refine zbs.ofM znc (zcV rfl) (qak rfl) ?_;simp only[zmt,zxN];have hm1:=hc.gone;have hm2:=hc.glen;have hn1:=hc.one;have hn2:=hc.len;have hcl:c.cards.length=cs.length:=by rw[hc.cards,zas]
 have hgate:=hc.gate;have hk24:((cs.length:Int)* ((24:Nat):Int))<=(zag:Int):=by simp only[zag]; omega
 have hk8:((c.gates.length:Int)* ((8:Nat):Int))<=(zag:Int):=by simp only[zag]; omega
 have hBx2:∀ x,(B ++ [x])[2]? = some (.cells [fzE false (eI .i64) c.cards,fzE false zab c.gates,fzE false (eI .i64) input,.sl 7 0 1 c.gates.length (some c.gates.length) c.gates.length]):=λx=>zdi hB2 _
 refine zaa ?_;simp only[rnA,Nat.reduceEqDiff,Nat.reduceLT,reduceCtorEq,hB2,zal,hcl,qaA,qbU,hk24,qaq,hB,hBx2];refine EvL.scope (zaa ?_);simp only[rnA];refine EvL.loop (α:=Nat) (λv=>⟨157,[(0,.ptr 2 0),(3,.sl 8 0 1 cs.length (some cs.length) cs.length),(27,fzE false (eI .i64) c.cards),(28,dI (cs.length:Int)),(29,dI (v:Int))],dvP B cs v⟩) (λv=>v<=cs.length) (λv=>cs.length - v) 0 ?_ (qaB _) ?_
 .have e0:B ++ [.els 1 (List.replicate cs.length [zh3])]=dvP B cs 0:=by simp[dvP,slW]
  rw[e0];exact za9.sub (by simp[zbY,lk])
 intro v p1;refine zaa ?_;by_cases hv2:v<cs.length
 .have hlt:decide ((v:Int)<(cs.length:Int))=true:=qcT (by omega);have hltp:((v:Int)<((cs.length:Nat):Int))=True:=eq_true (by omega);have hw2:IntKind.i64.wrap ((v:Int)+1)=((v+1:Nat):Int):=by rw[wrap64 (by omega) (by omega)]; rfl
  have hc8:=hc.card _ (qat hv2);have hPl:(dvP B cs v).length=9+v:=zof hB (by omega);have h8:=λX=>zt2 (cs:=cs) hB v X
  have hRl:(slW 9 (cs.take v)++ List.replicate (cs.length - v) [zh3]).length=cs.length:=by simp[zeG]; omega
  have hRg:(slW 9 (cs.take v)++ List.replicate (cs.length - v) [zh3])[v]? = some [zh3]:=by
   have hsl:(slW 9 (cs.take v)).length=v:=by rw[zeG]; simp; omega
   rw[qal (by omega),hsl,qbK,qbx,if_pos (by omega)]
  have hst:=zrJ (cs:=cs) hB hv2;have hci:zaS c.cards (v:Int)=some ((cs[v]:Nat):Int):=by rw[hc.cards,zaT hv2]
  have ck:(((cs[v]:Nat):Int)* ((8:Nat):Int))<=(zag:Int):=by simp only[zag]; omega
  have hli:(cs.length=(slW 9 (cs.take v)++ List.replicate (cs.length - v) [zh3]).length)=True:=eq_true hRl.symm;generalize (slW 9 (cs.take v)++ List.replicate (cs.length - v) [zh3])=rsl at *;generalize cs[v]=k at *;simp only[rnA,Nat.reduceEqDiff,Nat.reduceLT,Nat.reduceLeDiff,reduceCtorEq,hltp,zai (n:=1) (e:=eI .i64) rfl hci,qaA,qbU,ck,hPl,h8,hRl,hRg,qaq,zpD,hst,hw2];exact⟨v+1,by omega,by omega,za9.sub (by simp[zbY,lk])⟩
 have hlt:decide ((v:Int)<(cs.length:Int))=false:=qcU (by omega);have hve:v=cs.length:=by omega
 subst hve;have hw3:IntKind.i64.wrap ((c.gates.length:Int) - 1)=((c.gates.length - 1:Nat):Int):=by rw[wrap64 (by omega) (by omega)]; omega
 have hP2:∀ X,(dvP B cs cs.length ++ X)[2]? = some (.cells [fzE false (eI .i64) c.cards,fzE false zab c.gates,fzE false (eI .i64) input,.sl 7 0 1 c.gates.length (some c.gates.length) c.gates.length]):=λX=>zty hB2 _ X
 have hP20:(dvP B cs cs.length)[2]? = some (.cells [fzE false (eI .i64) c.cards,fzE false zab c.gates,fzE false (eI .i64) input,.sl 7 0 1 c.gates.length (some c.gates.length) c.gates.length]):=by simpa using hP2 []
 have hPl:(dvP B cs cs.length).length=9+cs.length:=zof hB (qan _);have hPA:∀ ss,dvP B cs cs.length ++ [.els 1 (cL ss)]=dvL B cs (zcw cs) ss:=λss=>ztf ss
 have hS0:∀ ss,(dvL B cs (zcw cs) ss)[9+cs.length]? = some (.els 1 (cL ss)):=λss=>by simpa using zoz (cs:=cs) hB (ziN cs).len ss []
 have hS1:∀ ss s',(dvL B cs (zcw cs) ss).set (9+cs.length) (.els 1 (cL s'))=dvL B cs (zcw cs) s':=λss s'=>by simpa using zj9 (cs:=cs) hB (ziN cs).len ss s' []
 have hltm:(((c.gates.length - 1:Nat):Int)<((c.gates.length:Nat):Int))=True:=eq_true (by omega);have hz:(cL (List.replicate c.gates.length 0))[c.gates.length - 1]? = some [dI 0]:=by simp[cL,show c.gates.length - 1<c.gates.length by omega]
 have hli:(c.gates.length=(cL (List.replicate c.gates.length 0)).length)=True:=eq_true (by rw[zfo]; simp);have hset1:(cL (List.replicate c.gates.length 0)).set (c.gates.length - 1) [dI 1]=cL (zcP c.gates.length):=zhY _ _ 1;simp only[rnA,Nat.reduceEqDiff,Nat.reduceLT,Nat.reduceLeDiff,reduceCtorEq,hlt,hP20,zal,hw3,qaA,qbU,hk8,qaq,hPl,zpD,hPA,hS0,hltm,hz,hli,hset1,hS1];refine EvL.scope (zaa ?_);simp only[rnA];refine EvL.loop (α:=Nat×List (List Nat)×List Nat) (λa=>⟨157,[(0,.ptr 2 0),(3,.sl 8 0 1 cs.length (some cs.length) cs.length),(7,.sl (9+cs.length) 0 1 c.gates.length (some c.gates.length) c.gates.length),(8,dI ((a.1:Int) - 1))],dvL B cs a.2.1 a.2.2⟩)
  (λa=>a.1<=c.gates.length/\RowsOk cs a.2.1/\SloOk c.gates.length a.2.2/\zfh vals c.gates a.1 a.2.1 a.2.2=zfh vals c.gates c.gates.length (zcw cs) (zcP c.gates.length)) (λa=>a.1) (c.gates.length,zcw cs,zcP c.gates.length) ?_ ⟨qan _,ziN cs,zgx _,rfl⟩ ?_
 .refine za9.sub ?_;simp[zbY,lk];omega
 rintro⟨j,rows,ss⟩ ⟨q1,q2,q3,q4⟩;simp only at q1 q2 q3 q4;refine zaa ?_;have hrl:=q2.len;have hsl:=q3.len;have g2:∀ s' X,(dvL B cs rows s' ++ X)[2]? = some (.cells [fzE false (eI .i64) c.cards,fzE false zab c.gates,fzE false (eI .i64) input,.sl 7 0 1 c.gates.length (some c.gates.length) c.gates.length]):=λs' X=>zjC hB2 s' X
 have g20:(dvL B cs rows ss)[2]? = some (.cells [fzE false (eI .i64) c.cards,fzE false zab c.gates,fzE false (eI .i64) input,.sl 7 0 1 c.gates.length (some c.gates.length) c.gates.length]):=by simpa using g2 ss []
 have gS0:(dvL B cs rows ss)[9+cs.length]? = some (.els 1 (cL ss)):=by simpa using zoz (cs:=cs) hB hrl ss []
 have gS:∀ s' X,(dvL B cs rows s' ++ X)[9+cs.length]? = some (.els 1 (cL s')):=λs' X=>zoz hB hrl s' X
 have gSet:∀ s1 s2 X,(dvL B cs rows s1 ++ X).set (9+cs.length) (.els 1 (cL s2))=dvL B cs rows s2 ++ X:=λs1 s2 X=>zj9 hB hrl s1 s2 X
 have gl:∀ s',(dvL B cs rows s').length=10+cs.length:=λs'=>zsV hB hrl s'
 cases j with
 | zero=>
  have hge:decide ((0:Int)<=((0:Nat):Int) - 1)=false:=by decide
  rw[zfh]at q4;simp only[rnA,Nat.reduceEqDiff,Nat.reduceLT,reduceCtorEq,hge];exact⟨_,rfl,rows,ss,q4.symm,q2,rfl,rfl⟩
 | succ j=>
  have hj:j<c.gates.length:=by omega
  have hcast:(((j+1:Nat):Int) - 1)=(j:Int):=by omega
  have hge:decide ((0:Int)<=(j:Int))=true:=qcT (by omega);have hjp:((j:Int)<((c.gates.length:Nat):Int))=True:=eq_true (by omega);have hw4:IntKind.i64.wrap ((j:Int) - 1)=(j:Int) - 1:=wrap64 (by omega) (by omega);have hjs:j<ss.length:=by omega
  have hsj:=zkJ hjs;have hli:(c.gates.length=(cL ss).length)=True:=eq_true (by rw[zfo,hsl]);obtain⟨g,hgg⟩:∃ g,g=c.gates[j]:=⟨_,rfl⟩;have hget:zaS c.gates (j:Int)=some g:=by rw[zau hj,hgg]
  have hg:GOk cs j g:=by rw[hgg]; exact hgate _ hj
  have hgd:c.gates.getD j ⟨0,0,0,0,[]⟩=g:=by rw[zah hj,hgg]
  rw[zfh,hgd]at q4;have hs1:=q3.le j;generalize hslo:ss.getD j 0=slope at *;have hbq:(((slope:Nat):Int)== 4611686018427387904)=(slope == za2):=zue _ za2;simp only[rnA,Nat.reduceEqDiff,Nat.reduceLT,reduceCtorEq,hcast,gS0,hjp,qaA,hli,hsj];refine EvL.scope (zaa ?_);cases hbig:(slope == za2)with
  | true=>
   have hst:zc4 vals g slope rows ss=none:=by unfold zc4; rw[hbig]; rfl
   rw[hst]at q4;simp only[rnA,Nat.reduceEqDiff,Nat.reduceLT,Nat.reduceLeDiff,reduceCtorEq,hbq,hbig];exact EvL.panic rfl rfl ⟨q4.symm,⟨_,_,rfl⟩,_,rfl⟩
  | false=>
   simp only[rnA,Nat.reduceEqDiff,Nat.reduceLT,Nat.reduceAdd,Nat.reduceLeDiff,reduceCtorEq,hbq,hbig,g20,zai (n:=5) (e:=zab) rfl hget,zaE,at0 (gl _),zxB (gl _),gl];refine EvL.scope (zaa ?_);cases hg with
   | num n hn=>
    have hst:zc4 vals ⟨1,0,0,(n:Int),[]⟩ slope rows ss=some (rows,ss):=by unfold zc4; rw[hbig]; rfl
    rw[hst]at q4;simp only[rnA,Nat.reduceEqDiff,Nat.reduceLT,Int.reduceBEq,reduceCtorEq,Int.reduceBEq,hw4];exact⟨(j,rows,ss),⟨by simp only; omega,q2,q3,q4⟩,qa1 j,zmR hB hsc hrl (by omega) (by simp[zj4,lk,D.sc]; omega)⟩
   | is v x hv hx=>
    have hvr:v<rows.length:=by omega
    have hrow:rowAt rows v=rows[v]:=zah hvr;have hcd:cs.getD v 0=cs[v]:=zah hv;have hrlen:rows[v].length=cs[v]:=q2.row v hvr hv;rw[hcd]at hx;have hxr:x<rows[v].length:=by omega
    have hslr:(slW 9 cs)[((v:Nat):Int).toNat]? = some [.sl (9+v) 0 1 cs[v] (some cs[v]) cs[v]]:=by rw[qaq]; exact zou cs 9 v hv
    have hrb:=q2.bnd _ (qat hvr);have gr:=λs' X=>zoZ (cs:=cs) hB hvr s' X
    have gset2:=λs' r X=>zpg (cs:=cs) hB hvr s' r X
    have grs:∀ s' r X,(dvL B cs (rows.set v r) s' ++ X)[9+v]? = some (znu r):=λs' r X=>by
     have:=zoZ (cs:=cs) (rows:=rows.set v r) hB (v:=v) (by simpa using hvr) s' X;simpa using this
    have hst:zc4 vals ⟨2,(v:Int),(x:Int),0,[]⟩ slope rows ss=(bif zfc (rows[v].getD x 0) slope == za2 then none else some (rows.set v (rows[v].set x (zfc (rows[v].getD x 0) slope)),ss)):=by
     unfold zc4;rw[hbig,qcS];show(bif zfc ((rowAt rows ((v:Nat):Int).toNat).getD ((x:Nat):Int).toNat 0) slope == za2 then none else some (rows.set ((v:Nat):Int).toNat ((rowAt rows ((v:Nat):Int).toNat).set ((x:Nat):Int).toNat (zfc ((rowAt rows ((v:Nat):Int).toNat).getD ((x:Nat):Int).toNat 0) slope)),ss))=_;rw[qaq,qaq,hrow]
    rw[hst]at q4;have hRset:=λr h1 h2=>q2.set hvr (r:=r) h1 h2
    have g8:=λs' X=>zsB (cs:=cs) (rows:=rows) hB s' X
    have hvp:((v:Int)<((cs.length:Nat):Int))=True:=eq_true (by omega);have hsl9:(cs.length=(slW 9 cs).length)=True:=eq_true (zeG cs 9).symm;generalize hrowe:rows[v]=row at *;have hgv:=zkJ hxr;have hvb2:row.getD x 0<=za2:=by rw[zah hxr]; exact hrb _ (qat hxr)
    have hxp:((x:Int)<((cs[v]:Nat):Int))=True:=eq_true (by omega);have hrl2:(cs[v]=(cL row).length)=True:=eq_true (by rw[zfo,hrlen]);generalize cs[v]=k at *;simp only[rnA,Nat.reduceEqDiff,Nat.reduceLT,reduceCtorEq,g8,hsl9,qaA,hvp,hslr,gr,hxp,hrl2,hgv,at0 (gl _)];refine EvL.fn (zcb (zmi hvb2 hs1)) rfl rfl (.cons (.lit _) (.cons (.lit _) .nil)) ?_;have hy2:=zfI (row.getD x 0) slope;generalize hye:zfc (row.getD x 0) slope=y at *;have hstr:(cL row).set ((x:Nat):Int).toNat [dI (y:Int)]=cL (row.set x y):=by rw[qaq,zhY]
    have hgy:(cL (row.set x y))[((x:Nat):Int).toNat]? = some [dI (y:Int)]:=by rw[qaq]; simp[cL,hxr]
    have hrl3:(k=(cL (row.set x y)).length)=True:=eq_true (by rw[zfo,qaI,hrlen]);have hbq2:(((y:Nat):Int)== 4611686018427387904)=(y == za2):=zue _ za2;simp only[rnA,Nat.reduceEqDiff,Nat.reduceLT,Nat.reduceLeDiff,reduceCtorEq,gr,hrl2,hgv,hstr,gset2,grs,hgy,hrl3,hbq2];cases hyb:(y == za2)with
    | true=>
     rw[hyb,qcR]at q4;simp only[rnA,Nat.reduceEqDiff,Nat.reduceLT,Nat.reduceLeDiff,reduceCtorEq];exact EvL.panic rfl rfl ⟨q4.symm,⟨_,_,rfl⟩,_,by unfold dvL; rw[qaG]⟩
    | false=>
     rw[hyb,qcS]at q4;simp only[rnA,Nat.reduceEqDiff,Nat.reduceLT,reduceCtorEq,hw4];refine⟨(j,rows.set v (row.set x y),ss),⟨by simp only; omega,hRset _ (by simp) (λz hz=>?_),q3,q4⟩,qa1 j,zmR hB hsc (by simp[hrl]) (by omega) (by simp[zj4,lk,D.sc]; omega)⟩;rcases qbj hz with hz | rfl
     .exact hrb z hz
     .exact hy2
   | op k hk ar ne inc lt=>
    have hal:=zgq (b:=0) inc λa h=>⟨qaB _,lt a h⟩
    have eg:ga ⟨k,0,0,0,iL ar⟩=ar:=zfA rfl;rcases hk with rfl | rfl
    .have hst:zc4 vals ⟨3,0,0,0,iL ar⟩ slope rows ss=some (rows,zdb slope ss ar):=by
      unfold zc4;rw[hbig,qcS];show some (rows,zdb slope ss (ga ⟨3,0,0,0,iL ar⟩))=_;rw[eg]
     rw[hst]at q4;simp only[rnA,Nat.reduceEqDiff,Nat.reduceLT,Int.reduceBEq,reduceCtorEq,Int.reduceBEq,at0 (gl _),zal,zas];refine EvL.scope (zaa ?_);simp only[rnA];refine EvL.loop (α:=Nat×List Nat) (λa=>⟨157,[(0,.ptr 2 0),(3,.sl 8 0 1 cs.length (some cs.length) cs.length),(7,.sl (9+cs.length) 0 1 c.gates.length (some c.gates.length) c.gates.length),(8,dI (j:Int)),(9,dI (slope:Int)),(108,fzE false (eI .i64) (iL ar)),(109,dI (ar.length:Int)),(110,dI (a.1:Int))],dvL B cs rows a.2 ++ [.cells [dI 3,dI 0,dI 0,dI 0,fzE false (eI .i64) (iL ar)]]⟩)
      (λa=>a.1<=ar.length/\SloOk c.gates.length a.2/\zdb slope a.2 (ar.drop a.1)=zdb slope ss ar) (λa=>ar.length - a.1) (0,ss) (by exact za9.sub (by simp[zbY,lk])) ⟨qaB _,q3,rfl⟩ ?_
     rintro⟨k,s'⟩ ⟨r1,r2,r3⟩;simp only at r1 r2 r3;refine zaa ?_;by_cases hk:k<ar.length
     .have hlt:decide ((k:Int)<(ar.length:Int))=true:=qcT (by omega);have hw2:IntKind.i64.wrap ((k:Int)+1)=((k+1:Nat):Int):=by rw[wrap64 (by omega) (by omega)]; rfl
      have a1:=lt _ (qat hk);rw[qau hk]at r3;simp only[zdb]at r3;have hia:=zaT hk;generalize ar[k]=a at *;have hs'l:=r2.len;have has:a<s'.length:=by omega
      have hga:=zkJ has;have a2p:((a:Int)<((c.gates.length:Nat):Int))=True:=eq_true (by omega);have hli2:(c.gates.length=(cL s').length)=True:=eq_true (by rw[zfo,hs'l]);have hse:∀ y:Nat,(cL s').set ((a:Nat):Int).toNat [dI (y:Int)]=cL (s'.set a y):=λy=>by rw[qaq,zhY]
      simp only[rnA,Nat.reduceEqDiff,Nat.reduceLT,reduceCtorEq,hlt,zai (n:=1) (e:=eI .i64) rfl hia,gS,qaA,a2p,hli2,hga];refine EvL.fn (zcb (zmi (r2.le a) hs1)) rfl rfl (.cons (.lit _) (.cons (.lit _) .nil)) ?_;simp only[rnA,Nat.reduceEqDiff,Nat.reduceLT,Nat.reduceLeDiff,reduceCtorEq,gS,qaA,a2p,hli2,hga,hse,gSet,hw2];exact⟨(k+1,s'.set a (zfc (s'.getD a 0) slope)),⟨hk,r2.set _ (zfI _ _),r3⟩,by simp only; omega,za9.sub (by simp[zbY,lk])⟩
     have hlt:decide ((k:Int)<(ar.length:Int))=false:=qcU (by omega);rw[qby (by omega)]at r3;simp only[zdb]at r3;simp only[rnA,Nat.reduceEqDiff,Nat.reduceLT,reduceCtorEq,hlt,hw4];exact⟨(j,rows,s'),⟨by simp only; omega,q2,r2,by rw[r3]; exact q4⟩,qa1 j,zmR hB hsc hrl (by omega) (by simp[zj4,lk,D.sc]; omega)⟩
    have hst:zc4 vals ⟨4,0,0,0,iL ar⟩ slope rows ss=some (rows,zdg slope ss ar (zkF vals ar)):=by
     unfold zc4;rw[hbig,qcS];show some (rows,zdg slope ss (ga ⟨4,0,0,0,iL ar⟩) (zkF vals (ga ⟨4,0,0,0,iL ar⟩)))=_;rw[eg]
    rw[hst]at q4;have hR:RunIn c input c.gates.length vals 7 (dvL B cs rows ss ++ [.cells [dI 4,dI 0,dI 0,dI 0,fzE false (eI .i64) (iL ar)]]):=by
     refine⟨by rw[hvl]; exact g2 ss _,zjC hB7 _ _,hvb,by omega,?_⟩;rw[qas,gl];exact zdB (zu3 (hsc _ (by simp; omega)) (by simp; omega) rows ss) ⟨⟨qcQ,qcQ,qcQ,qcQ,qcQ,qcQ⟩,qcQ⟩
    have hol:=zrT vals ar;have hob:=zrh vals ar;simp only[rnA,Nat.reduceEqDiff,Nat.reduceLT,Int.reduceBEq,reduceCtorEq,Int.reduceBEq,at0 (gl _)];refine EvL.call rfl rfl (zpu hR ar (by omega) (λa ha=>by have:=lt a ha; omega)) ?_ (λ_ _ (h:False)=>False.elim h);rintro r L' ⟨rfl,rfl⟩;generalize zkF vals ar=oth at *;have hlo:(ar.length=(cL oth).length)=True:=eq_true (by rw[zfo,hol]);simp only[rnA,Nat.reduceEqDiff,Nat.reduceLT,reduceCtorEq,gl,at1 (gl _),hlo,qaG,qas];refine EvL.scope (zaa ?_);simp only[rnA];refine EvL.loop (α:=Nat×List Nat) (λa=>⟨157,[(0,.ptr 2 0),(3,.sl 8 0 1 cs.length (some cs.length) cs.length),(7,.sl (9+cs.length) 0 1 c.gates.length (some c.gates.length) c.gates.length),(8,dI (j:Int)),(9,dI (slope:Int)),(10,.ptr (10+cs.length) 0),(129,.sl (10+cs.length+1) 0 1 ar.length (some ar.length) ar.length),(130,dI (ar.length:Int)),(131,dI (a.1:Int))],dvL B cs rows a.2 ++ [.cells [dI 4,dI 0,dI 0,dI 0,fzE false (eI .i64) (iL ar)],.els 1 (cL oth)]⟩)
     (λa=>a.1<=ar.length/\SloOk c.gates.length a.2/\zdg slope a.2 (ar.drop a.1) (oth.drop a.1)=zdg slope ss ar oth) (λa=>ar.length - a.1) (0,ss) (by exact za9.sub (by simp[zbY,lk])) ⟨qaB _,q3,rfl⟩ ?_
    rintro⟨k,s'⟩ ⟨r1,r2,r3⟩;simp only at r1 r2 r3;refine zaa ?_;by_cases hk:k<ar.length
    .have hlt:decide ((k:Int)<(ar.length:Int))=true:=qcT (by omega);have hltp:((k:Int)<((ar.length:Nat):Int))=True:=eq_true (by omega);have hw2:IntKind.i64.wrap ((k:Int)+1)=((k+1:Nat):Int):=by rw[wrap64 (by omega) (by omega)]; rfl
     have a1:=lt _ (qat hk);have hko:k<oth.length:=by omega
     have hqo:=zkJ hko;rw[zah hko]at hqo;have ho2:=hob _ (qat hko);rw[qau hk,qau hko]at r3;simp only[zdg]at r3;have hia:=zaT hk;generalize ar[k]=a at *;generalize oth[k]=q at *;have hs'l:=r2.len;have has:a<s'.length:=by omega
     have hga:=zkJ has;have a2p:((a:Int)<((c.gates.length:Nat):Int))=True:=eq_true (by omega);have hli2:(c.gates.length=(cL s').length)=True:=eq_true (by rw[zfo,hs'l]);have hse:∀ y:Nat,(cL s').set ((a:Nat):Int).toNat [dI (y:Int)]=cL (s'.set a y):=λy=>by rw[qaq,zhY]
     have gl':∀ s',(dvL B cs rows s').length=10+cs.length:=gl;simp only[rnA,Nat.reduceEqDiff,Nat.reduceLT,reduceCtorEq,hltp,qaA,at0 (gl _),at1 (gl _),hlo,hqo,zai (n:=1) (e:=eI .i64) rfl hia,gS,a2p,hli2,hga];refine EvL.fn (zbt (zg1 hs1 ho2)) rfl rfl (.cons (.lit _) (.cons (.lit _) .nil)) ?_;simp only[rnA,Nat.reduceLT];refine EvL.fn (zcb (zmi (r2.le a) (zfK slope q))) rfl rfl (.cons (.lit _) (.cons (.lit _) .nil)) ?_;simp only[rnA,Nat.reduceEqDiff,Nat.reduceLT,Nat.reduceLeDiff,reduceCtorEq,gS,qaA,a2p,hli2,hga,hse,gSet,hw2];exact⟨(k+1,s'.set a (zfc (s'.getD a 0) (zji slope q))),⟨hk,r2.set _ (zfI _ _),r3⟩,by simp only; omega,za9.sub (by simp[zbY,lk])⟩
    have hlt:decide ((k:Int)<(ar.length:Int))=false:=qcU (by omega);rw[qby (by omega)]at r3;have r4:s'=zdg slope ss ar oth:=by rw[<- r3]; rfl
    simp only[rnA,Nat.reduceEqDiff,Nat.reduceLT,reduceCtorEq,hlt,hw4];exact⟨(j,rows,s'),⟨by simp only; omega,q2,r2,by rw[r4]; exact q4⟩,qa1 j,zmR hB hsc hrl (by omega) (by simp[zj4,lk,D.sc]; omega)⟩
def zqJ(cs:List Nat)(c:S_api_Circuit)(input:List Int):Option (List (List Nat)):=(zcr input [] c.gates).bind λvals=>zfh vals c.gates c.gates.length (zcw cs) (zcP c.gates.length)
abbrev zxt(cs:List Nat):D:=.sl 8 0 1 cs.length (some cs.length) cs.length
theorem ztk{B:List LB}(hB:B.length=8)(cs:List Nat)(rows:List (List Nat))(ss:List Nat)(y:LB):(dvL B cs rows ss).set 4 y=dvL (B.set 4 y) cs rows ss:=by
 unfold dvL;rw[qcq _ _ (by omega)]
def zyi(cs:List Nat)(c:S_api_Circuit)(input:List Int)(L':List LB):Prop:=∃ B rows ss,zqJ cs c input=some rows/\RowsOk cs rows/\B.length=8/\B[4]? = some (.cells [zxt cs])/\B[5]? = some (.cells [dI 0])/\L'=dvL B cs rows ss
abbrev tD:List LB:=[.cells [.ptr 2 0],.cells [zh3]]
theorem zvN{cs:List Nat}{c:S_api_Circuit}{input:List Int}(h:ROk cs c input):
  zbs mC false 64 ([]++ []++ [.ptr 3 0,.ptr 4 0]) (rnB c input tD (.lit (.slice none 0 0))++ [.cells [dI 0]]) (λd L'=>zyi cs c input L') λd L'=>zqJ cs c input=none/\(∃ t r,d=.ifc t r)/\L'[5]? = some (.cells [dI 0]):=by
 refine gnL ?_;have hl3:(rnB c input tD (.lit (.slice none 0 0))++ [.cells [dI 0]])[3]? = some (.cells [.ptr 2 0]):=rfl;refine zaa ?_;simp only[rnA,Nat.reduceLT,Nat.reduceAdd,reduceCtorEq,hl3];have hev:=zgt h.ok h.len (T:=[.cells [.ptr 2 0],.cells [zh3],.cells [dI 0]]) (λn hn=>⟨⟨by show 2<n; simp at hn; omega,qcQ⟩,⟨qcQ,qcQ⟩,⟨qcQ,qcQ⟩,qcQ⟩);refine EvL.call rfl rfl hev ?_ ?_
 .rintro d L' ⟨vals,q1,q2,q3,rfl⟩;have hl3:(rnB c input [.cells [.ptr 2 0],.cells [zh3],.cells [dI 0]] (.sl 7 0 1 c.gates.length (some c.gates.length) c.gates.length)++ [.cells zda,.els 1 (esL c.gates.length vals)])[3]? = some (.cells [.ptr 2 0]):=rfl;have hB4:(rnB c input [.cells [.ptr 2 0],.cells [zh3],.cells [dI 0]] (.sl 7 0 1 c.gates.length (some c.gates.length) c.gates.length)++ [.cells zda,.els 1 (esL c.gates.length vals)])[4]? = some (.cells [zh3]):=rfl;have hB5:(rnB c input [.cells [.ptr 2 0],.cells [zh3],.cells [dI 0]] (.sl 7 0 1 c.gates.length (some c.gates.length) c.gates.length)++ [.cells zda,.els 1 (esL c.gates.length vals)])[5]? = some (.cells [dI 0]):=rfl;have hd:=zpm h.ok (input:=input) q2 q3 (B:=rnB c input [.cells [.ptr 2 0],.cells [zh3],.cells [dI 0]] (.sl 7 0 1 c.gates.length (some c.gates.length) c.gates.length)++ [.cells zda,.els 1 (esL c.gates.length vals)]) rfl rfl rfl
   λn hn=>zdB (zod ⟨⟨by show 2<n; omega,qcQ⟩,⟨qcQ,qcQ⟩,⟨qcQ,qcQ⟩,qcQ⟩ (by show 7<n; omega)) ⟨zif (by omega),zoJ,qcQ⟩
  have hder:zqJ cs c input=zfh vals c.gates c.gates.length (zcw cs) (zcP c.gates.length):=by unfold zqJ; rw[q1]; rfl
  rw[<- hder]at hd;have hB:(rnB c input [.cells [.ptr 2 0],.cells [zh3],.cells [dI 0]] (.sl 7 0 1 c.gates.length (some c.gates.length) c.gates.length)++ [LB.cells zda,.els 1 (esL c.gates.length vals)]).length=8:=rfl;show wp _ _ _ (LSt.put ⟨_,_,rnB c input [.cells [.ptr 2 0],.cells [zh3],.cells [dI 0]] (.sl 7 0 1 c.gates.length (some c.gates.length) c.gates.length)++ [.cells zda,.els 1 (esL c.gates.length vals)]⟩ _ _) _;generalize rnB c input [.cells [.ptr 2 0],.cells [zh3],.cells [dI 0]] (.sl 7 0 1 c.gates.length (some c.gates.length) c.gates.length)++ [.cells zda,.els 1 (esL c.gates.length vals)]=B at *;simp only[rnA,Nat.reduceLT,reduceCtorEq,hl3];refine EvL.call rfl rfl hd ?_ ?_
  .rintro d L' ⟨rows,ss,r1,r2,rfl,rfl⟩;have hl4:(dvL B cs rows ss)[4]? = some (.cells [zh3]):=by simpa using zjC (cs:=cs) (rows:=rows) hB4 ss []
   simp only[rnA,Nat.reduceEqDiff,Nat.reduceLT,Nat.reduceLeDiff,reduceCtorEq,hl4,ztk hB];exact⟨_,rfl,B.set 4 (.cells [zxt cs]),rows,ss,r1,r2,by simpa using hB,by simp[hB],by rw[qao (by decide)]; exact hB5,rfl⟩
  rintro d L' ⟨r1,r2,X,rfl⟩;exact⟨r1,r2,zdi hB5 X⟩
 rintro d L' ⟨q1,q2,v,X,rfl⟩;exact⟨by unfold zqJ; rw[q1]; rfl,q2,rfl⟩
theorem zyx(xs:List Nat):cL xs=(iL xs).map ((eI .i64).c true):=by
 simp only[cL,iL,List.map_map];exact List.map_congr_left λa _=>rfl
theorem zsH{L:List LB}:∀(rows:List (List Nat)) (b:Nat),(∀ v (h:v<rows.length),L[b+v]? = some (znu rows[v]))->Pw (Snp L true) (slW b (rows.map List.length)) ((rows.map iL).map ((eL (eI .i64)).c true))
 | [],b,_=>.nil
 | r :: rs,b,h=>.cons rfl (λj d d' h1 h2=>by
   obtain⟨rfl,rfl⟩:=zgN h1 h2;have h0:=h 0 (Nat.zero_lt_succ _);rw[List.getElem_cons_zero,znu,zyx]at h0
   exact zcS (e:=eI .i64) (t:=true) rfl (.inl h0) (by rw[zas]) (by rw[zas]) (λk h=>by cases h; exact qan _) λ_=>rfl) (zsH rs (b+1) λv hv=>by rw[show b+1+v=b+(v+1) by omega]; exact h (v+1) (qcK hv))
theorem RowsOk.lens{cs:List Nat}{rows:List (List Nat)}(h:RowsOk cs rows):cs=rows.map List.length:=by
 refine List.ext_getElem (by simp[h.len]) λi h1 h2=>?_
 rw[List.getElem_map,h.row i (by rw[h.len]; exact h1) h1]
def zbu(c:S_api_Circuit)(input:List Int):Option (List (List Int)×Int):=
 bif zqX c input then some (match zqJ (c.cards.map Int.toNat) c input with | none=>([],6)| some rows=>(rows.map iL,0))else none
theorem zfN{p0:S_api_Circuit}{p1:List Int}{r:List (List Int)×Int}(h:zbu p0 p1=some r):Lx.Fn mC 21 [(.agg [(fzE false (eI .i64) p0.cards),(fzE false zab p0.gates)]),(fzE false (eI .i64) p1)] (.tup [(fzE true (eL (eI .i64)) r.1),(dI r.2)]):=by
 unfold zbu at h;cases hb:zqX p0 p1 with
 | false=>rw[hb]at h; cases h
 | true=>
 rw[hb,qcR]at h;obtain⟨cs,ho⟩:=zqj hb;have hcs:p0.cards.map Int.toNat=cs:=by rw[ho.ok.cards]; simp[iL,qca]
 rw[hcs]at h;refine gnO ?_;refine zaa ?_;simp only[rnA,Nat.reduceEqDiff,Nat.reduceLT,Nat.reduceAdd,Nat.reduceLeDiff,reduceCtorEq];refine EvL.call rfl rfl (zj8 ho) ?_ (λ_ _ (h:False)=>False.elim h);rintro r L' ⟨rfl,rfl⟩;simp only[rnA,Nat.reduceEqDiff,Nat.reduceLT,Nat.reduceAdd,Nat.reduceLeDiff,reduceCtorEq,rnB];refine EvL.call rfl rfl (zsx (L:=rnB p0 p1 tD (.lit (.slice none 0 0))) (first:=[]) (cap:=[.ptr 3 0,.ptr 4 0]) (zvN ho) ?_ ?_) ?_ (λ_ _ (h:False)=>False.elim h)
 .rintro d L' ⟨B,rows,ss,_,_,hB,_,h5,rfl⟩;have:(dvL B cs rows ss)[5]? = some (.cells [dI 0]):=by simpa using zjC (cs:=cs) (rows:=rows) h5 ss []
  exact this
 .rintro d L' ⟨_,q1,q2⟩; exact⟨q1,q2⟩
 rintro r' L' (⟨rfl,d,B,rows,ss,q1,q2,hB,h4,h5,rfl⟩| ⟨rfl,d,L0,⟨q1,_,q3⟩,rfl⟩)
 .rw[q1]at h;cases h;have hl4:(dvL B cs rows ss)[4]? = some (.cells [zxt cs]):=by simpa using zjC (cs:=cs) (rows:=rows) h4 ss []
  simp only[rnA,Nat.reduceEqDiff,Nat.reduceLT,reduceCtorEq,hl4];have h8:(dvL B cs rows ss)[8]? = some (.els 1 (slW 9 cs)):=by simpa using zsB (cs:=cs) (rows:=rows) hB ss []
  have hpw:Pw (Snp (dvL B cs rows ss) true) (slW 9 cs) ((rows.map iL).map ((eL (eI .i64)).c true)):=by
   have:=zsH (L:=dvL B cs rows ss) rows 9 λv hv=>by simpa using zoZ (cs:=cs) hB hv ss []
   rwa [<- q2.lens]at this
  exact zc7.ret rfl (.ztX (.cons (zmS (e:=eL (eI .i64)) rfl (.inl h8) (zeG cs 9).symm (zeG cs 9).symm (λk h=>by cases h; exact qan _) hpw) (.cons (.lit _) .nil)))
 rw[q1]at h;cases h;have hl:(rnB p0 p1 tD (.lit (.slice none 0 0))).length=5:=rfl;simp only[rnA,Nat.reduceEqDiff,Nat.reduceLT,Int.reduceBEq,reduceCtorEq];exact zc7.ret rfl (.ztX (.cons (zqm _) (.cons (.lit _) .nil)))
end Go.Dc
