/-
 The machine of the program; the closed checks are known to be true. Conditions: none.
-/
import Derived.Test.YtbjogdohfhdaiaaGreatErDc6
import Derived.Test.YtbjogdohfhdaiaaGreatRows
import Derived.Test.YtbjogdohfhdaiaaGreatErMxJ
set_option linter.unusedSimpArgs false
set_option linter.unusedVariables false
namespace Go.Dc
open Go Go.Mx Go.Lx Go.Proofs
def rg(l:List O):C:=.reg false false l
def oM(a b:Nat):O:=⟨some a,.mov (.s b),none⟩
def oMg(a b g:Nat)(t:Bool):O:=⟨some a,.mov (.s b),some (g,t)⟩
def oL(a b:Nat):O:=⟨some a,.load none (.s b),none⟩
def oLg(a b g:Nat)(t:Bool):O:=⟨some a,.load none (.s b),some (g,t)⟩
def oN(a n b:Nat):O:=⟨some a,.load (some n) (.s b),none⟩
def oF(a n b:Nat):O:=⟨some a,.fld n (.s b),none⟩
def oFg(a n b g:Nat)(t:Bool):O:=⟨some a,.fld n (.s b),some (g,t)⟩
def oI(a n b c:Nat):O:=⟨some a,.idxS n (.s b) (.s c),none⟩
def oE(a b:Nat):O:=⟨some a,.len (.s b),none⟩
def oX(a b n:Nat):O:=⟨some a,.ext (.s b) n,none⟩
def oW(a b:Nat):O:=⟨some a,.box (.s b),none⟩
def oZ(a b:Nat):O:=⟨some a,.nilck (.s b),none⟩
def oS(n b c:Nat):O:=⟨none,.store n (.s b) (.s c),none⟩
def oP(a b c:Nat):O:=⟨some a,.pick (.s b) (.c (.bool true)) (.s c),none⟩
def oU(a f b:Nat):O:=⟨some a,.call f [.s b],none⟩
def oV(a f b c:Nat):O:=⟨some a,.call f [.s b,.s c],none⟩
def oT(a n k b c:Nat):O:=⟨some a,.app n k (.s b) (.s c),none⟩
def oK(a:Nat)(n:Int):O:=⟨some a,.mov (.c (.int .i64 n)),none⟩
def oJ(a:Nat)(t:Bool):O:=⟨some a,.mov (.c (.bool t)),none⟩
def oB(a:Nat)(p:BinOp)(b c:Nat):O:=⟨some a,.bin p (.s b) (.s c),none⟩
def oD(a:Nat)(p:BinOp)(b:Nat)(n:Int):O:=⟨some a,.bin p (.s b) (.c (.int .i64 n)),none⟩
def oDg(a:Nat)(p:BinOp)(b:Nat)(n:Int)(g:Nat)(t:Bool):O:=⟨some a,.bin p (.s b) (.c (.int .i64 n)),some (g,t)⟩
def oDu(a:Nat)(p:BinOp)(b:Nat)(n:Int):O:=⟨some a,.bin p (.s b) (.c (.int .u64 n)),none⟩
variable{L:List LB}{E:List (Nat×D)}
theorem msq{ac:List Lx.Act}{r:List (Nat×D)}{k:Nat}{d:D}(hr:MEs L ac E r)(h:lk E k=some d:=by rfl)(hk:d.kin (isK ac):=by first | exact rfl | exact trivial):MEs L ac E ((k,d):: r):=ms h hk hr
theorem wm0{N:Nat}{E':List (Nat×D)}{L':List LB}(ac:List Lx.Act)(hL:MBs L ac 0 L L')(hE:MEs L ac E E':=by repeat' first | exact trivial | exact rfl | refine ms ?_ ?_ ?_ | refine⟨?_,?_⟩)(hl:zjE ac L'.length=true:=by rfl):zbi 0 ⟨N,E,L⟩ ⟨N,E',L'⟩:=zbi.m0 ac hl hE hL
theorem lfj{α:Type}{T T':α->LSt}{P:α->Prop}{o:α}{k:Nat}{S:LSt}(hT:T=T')(hp:P o)(h:zbi k S (T' o)):∃ a,P a/\zbi k S (T a):=⟨o,hp,hT ▸ h⟩
theorem mkT{α:Type}(f:α->LSt):∃ T:α->LSt,T=f:=⟨_,rfl⟩
theorem zCX:(∀ l:List O,rg l=C.reg false false l)/\(∀(a b:Nat),oM a b=(⟨some a,.mov (.s b),none⟩:O))/\
 (∀(a b g:Nat) (t:Bool),oMg a b g t=(⟨some a,.mov (.s b),some (g,t)⟩:O))/\
 (∀(a b:Nat),oL a b=(⟨some a,.load none (.s b),none⟩:O))/\
 (∀(a b g:Nat) (t:Bool),oLg a b g t=(⟨some a,.load none (.s b),some (g,t)⟩:O))/\
 (∀(a n b:Nat),oN a n b=(⟨some a,.load (some n) (.s b),none⟩:O))/\
 (∀(a n b:Nat),oF a n b=(⟨some a,.fld n (.s b),none⟩:O))/\
 (∀(a n b g:Nat) (t:Bool),oFg a n b g t=(⟨some a,.fld n (.s b),some (g,t)⟩:O))/\
 (∀(a n b c:Nat),oI a n b c=(⟨some a,.idxS n (.s b) (.s c),none⟩:O))/\
 (∀(a b:Nat),oE a b=(⟨some a,.len (.s b),none⟩:O))/\
 (∀(a b n:Nat),oX a b n=(⟨some a,.ext (.s b) n,none⟩:O))/\
 (∀(a b:Nat),oW a b=(⟨some a,.box (.s b),none⟩:O))/\
 (∀(a b:Nat),oZ a b=(⟨some a,.nilck (.s b),none⟩:O))/\
 (∀(n b c:Nat),oS n b c=(⟨none,.store n (.s b) (.s c),none⟩:O))/\
 (∀(a b c:Nat),oP a b c=(⟨some a,.pick (.s b) (.c (.bool true)) (.s c),none⟩:O))/\
 (∀(a f b:Nat),oU a f b=(⟨some a,.call f [.s b],none⟩:O))/\
 (∀(a f b c:Nat),oV a f b c=(⟨some a,.call f [.s b,.s c],none⟩:O))/\
 (∀(a n k b c:Nat),oT a n k b c=(⟨some a,.app n k (.s b) (.s c),none⟩:O))/\
 (∀(a:Nat) (n:Int),oK a n=(⟨some a,.mov (.c (.int .i64 n)),none⟩:O))/\
 (∀(a:Nat) (t:Bool),oJ a t=(⟨some a,.mov (.c (.bool t)),none⟩:O))/\
 (∀(a:Nat) (p:BinOp) (b c:Nat),oB a p b c=(⟨some a,.bin p (.s b) (.s c),none⟩:O))/\
 (∀(a:Nat) (p:BinOp) (b:Nat) (n:Int),oD a p b n=(⟨some a,.bin p (.s b) (.c (.int .i64 n)),none⟩:O))/\
 (∀(a:Nat) (p:BinOp) (b:Nat) (n:Int) (g:Nat) (t:Bool),oDg a p b n g t=(⟨some a,.bin p (.s b) (.c (.int .i64 n)),some (g,t)⟩:O))/\
 (∀(a:Nat) (p:BinOp) (b:Nat) (n:Int),oDu a p b n=(⟨some a,.bin p (.s b) (.c (.int .u64 n)),none⟩:O)):=
 ⟨λ_=>rfl,λ_ _=>rfl,λ_ _ _ _=>rfl,λ_ _=>rfl,λ_ _ _ _=>rfl,λ_ _ _=>rfl,λ_ _ _=>rfl,λ_ _ _ _ _=>rfl,λ_ _ _ _=>rfl,λ_ _=>rfl,λ_ _ _=>rfl,λ_ _=>rfl,λ_ _=>rfl,λ_ _ _=>rfl,λ_ _ _=>rfl,λ_ _ _=>rfl,λ_ _ _ _=>rfl,λ_ _ _ _ _=>rfl,λ_ _=>rfl,λ_ _=>rfl,λ_ _ _ _=>rfl,λ_ _ _ _=>rfl,λ_ _ _ _ _ _=>rfl,λ_ _ _ _=>rfl⟩
def zDP:Orc:=λB f args h=>match args with
 | []=>bif Nat.beq f 10 then some (.ret (.lit (.bool true)),h)else none
 | a :: r=>zho B f (a :: r) h
def isO(f:Nat):Bool:=Nat.beq f 10 || isX f
noncomputable def mC:Mach:=⟨zjG Tryz.prog,zDP⟩
theorem zeD{f:Nat}(hf:isO f=false)(B:Nat)(args:List V)(h:zam):mC.orc B f args h=none:=by
 unfold isO at hf;rw[Bool.or_eq_false_iff]at hf;show zDP B f args h=none;unfold zDP
 grind [zxJ]
theorem zzA(B f:Nat)(a:V)(r:List V)(h:zam):mC.orc B f (a :: r) h=zho B f (a :: r) h:=rfl
theorem zqb{F:Nat->Bool}{t:Bool}{f:Nat}:Mz L F t (.clo f [] []) (.clo f [] []):=.clo rfl rfl (λi d d' h=>by simp at h) λi d d' h=>by simp at h
def zqg:Option Bool:=some true
theorem zzv{r:Bool}(h:zqg=some r):Lx.Fn mC 10 [] (.lit (.bool r)):=by
 cases h;intro z B H vs hz hB hr;have hvs:vs=[]:=qaG.1 (by simpa using hr.1.symm);subst hvs;refine⟨1,.ret (.lit (.bool true)),H,λn hn=>?_,qap _,λ_ _=>rfl,_,λ_=>none,rfl,λb cs hb=>(by cases hb),.lit _⟩;obtain⟨n,rfl⟩:∃ k,n=k+1:=⟨n - 1,by omega⟩;rfl
def zxA(P:Program)(f:Nat):Option (Nat×C×List RX×Bool):=match zkk P f with
 | some fn=>some (fn.N,zdm false fn.c,fn.rs,fn.p)
 | none=>none
def zzg(bar:Bool)(P:Program)(ops:Array Oper)(s:List Bool):Nat×Nat:=
 match (zfo ops s).find? λi=>zak (zdl P ops i) && zoM ops s i && (!zux ops i || zrl bar P ops s.toArray i)with
 | some i=>(1,i)
 | none=>match zfo ops s with
  | []=>(0,0)
  | [i]=>bif zgr bar (zdl P ops i)|| wrI (zdl P ops i)then(1,i)else(3,0)
  | i :: j :: l=>bif zA5 bar P ops s (i :: j :: l) (zhq bar P ops s (i :: j :: l))then(2,zhq bar P ops s (i :: j :: l))else(4,0)
def zBx(bar:Bool)(P:Program)(ops:Array Oper)(f:Nat)(s:List Bool)(x:Nat×Nat)(l l':List Nat):Prop:=zzg bar P ops s=x->ziY bar P ops f s=some (l,l')
section
variable {P:Program} {bar:Bool} {ops:Array Oper} {s s':List Bool} {l l':List Nat} {f i:Nat}
theorem plS{x:Nat×Nat}(h:zzg bar P ops s=x)(g:zBx bar P ops f s x l l'):ziY bar P ops f s=some (l,l'):=g h
theorem pl1(hs:s.set i true=s')(r:ziY bar P ops f s'=some (l,l')):zBx bar P ops (f+1) s (1,i) (i :: l) l':=by
 intro h;subst hs;unfold zzg at h;unfold ziY;cases hf:(zfo ops s).find? λi=>zak (zdl P ops i) && zoM ops s i && (!zux ops i || zrl bar P ops s.toArray i)with
 | some k=>rw[hf]at h; cases h; simp only[zi6,r,qbe]
 | none=>
  rw[hf]at h
  match hr:zfo ops s,h with
  | [],h=>cases h
  | [k],h=>simp only at h; cases he:zgr bar (zdl P ops k)|| wrI (zdl P ops k)<;> rw[he]at h<;>cases h; simp only[qdt,zi6,r,qbe]; try simp only[he,qdt]
  | k :: j :: q,h=>simp only at h; cases he:zA5 bar P ops s (k :: j :: q) (zhq bar P ops s (k :: j :: q))<;> rw[he]at h<;>cases h
theorem pl3(r:zkR P ops (f+1) s=some l'):zBx bar P ops (f+1) s (3,0) [] l':=by
 intro h;unfold zzg at h;unfold ziY;cases hf:(zfo ops s).find? λi=>zak (zdl P ops i) && zoM ops s i && (!zux ops i || zrl bar P ops s.toArray i)with
 | some k=>rw[hf]at h; cases h
 | none=>
  rw[hf]at h
  match hr:zfo ops s,h with
  | [],h=>cases h
  | [k],h=>
   simp only at h;cases he:zgr bar (zdl P ops k)|| wrI (zdl P ops k)with
   | true=>rw[he]at h; cases h
   | false=>simp only[he,qdu,r,qbe]
  | k :: j :: q,h=>simp only at h; cases he:zA5 bar P ops s (k :: j :: q) (zhq bar P ops s (k :: j :: q))<;> rw[he]at h<;>cases h
theorem zsu{n:Nat}(h1:(Region.noSelect ops && zgK ops && zDc P ops)=true)(hn:ops.size=n)(hs:List.replicate n false=s)(h:ziY bar P ops n s=some (l,l')):zcf bar P ops=some (l,l'):=by
 grind [zcf,zCi,zdc]
end
section
variable {P:Program} {N:Nat} {a b:Code} {a' b':C}
theorem zr4:zcm P N .skip=.skip:=rfl
theorem zyj:zcm P N .ret=.ret:=rfl
theorem zs1{i:Nat}:zcm P N (.exit i)=.exit i:=rfl
theorem zmx{i:Nat}:zcm P N (.label i)=.label i:=rfl
theorem zyL(h:zcm P N a=a')(g:zcm P N b=b'):zcm P N (.seq a b)=.seq a' b':=h ▸ g ▸ rfl
theorem zs9{c:Operand}{x:Mx.X}(e:opX c=x)(h:zcm P N a=a')(g:zcm P N b=b'):zcm P N (.cond c a b)=.cond x a' b':=e ▸ h ▸ g ▸ rfl
theorem zn1{i:Nat}(h:zcm P N a=a'):zcm P N (.block i a)=.block i a':=h ▸ rfl
theorem zs8(h:zcm P N a=a'):zcm P N (.loop a)=.loop a':=h ▸ rfl
theorem znU(h:zcm P N a=a'):zcm P N (.scope a)=.scope a':=h ▸ rfl
theorem zmD{c:Operand}{x:Mx.X}{ps:Array Nat}{l:List Nat}(e:opX c=x)(el:ps.toList=l)(h:zcm P N a=a')(g:zcm P N b=b'):zcm P N (.rangeFunc c ps a b)=.zey x l a' b':=e ▸ el ▸ h ▸ g ▸ rfl
theorem zzR{i:Nat}{ops:Array Oper}{l l':List Nat}{r:List O}(h1:(ops.all λo=>zlm N o.dst)=true)(h2:zcf false P ops=some (l,l'))(h3:(l ++ l').flatMap (zoa P N ops)=r):zcm P N (.region i ops true)=.reg true false r:=by
 grind [zcm]
theorem zAE{i:Nat}{ops:Array Oper}{l l':List Nat}{r:List O}(h1:(ops.all λo=>zlm N o.dst)=true)(h2:zcf false P ops=none)(h3:zcf true P ops=some (l,l'))(h4:(l ++ l').flatMap (zoa P N ops)=r):zcm P N (.region i ops true)=.reg true true r:=by
 grind [zcm]
variable{α β:Type}
theorem fmA{f:α->List β}{l l' m:List α}{r:List β}(h:l ++ l'=m)(g:m.flatMap f=r):(l ++ l').flatMap f=r:=h ▸ g
theorem fmN{f:α->List β}:([]:List α).flatMap f=[]:=rfl
theorem fmC{f:α->List β}{a:α}{l:List α}{x y z:List β}(h:f a=x)(g:l.flatMap f=y)(k:x ++ y=z):(a :: l).flatMap f=z:=by subst h g k; rfl
theorem zF8{f:Nat}{cm d:C}{rs:List RX}{fn:Func}{c:Code}(h0:P.funcs[f]? = some fn)(hb:fn.body=some c)(h1:(!wrF f && !(fn.name == "runtime.NumGoroutine") && fn.results.toList.all (zp1 P))=true)(hN:fn.ntmps=N)(hr:fn.results.toList.map (zmG P)=rs)(h2:zcm P N c=d)(h3:zdm false d=cm):zxA P f=some (N,cm,rs,false):=by
 grind [zxA,zkk]
end
variable{cm:C}{rs:List RX}
theorem zGH{f N:Nat}(h:zxA Tryz.prog f=some (N,cm,rs,false)):zt6 mC f=some (N,cm,rs,false):=by
 refine zgQ ?_;unfold zxA at h;cases hc:zkk Tryz.prog f<;>rw[hc]at h
 .exact h
 exact h
variable{args:List D}{res:D}
theorem fnO{f N:Nat}(h:zxA Tryz.prog f=some (N,cm,rs,false))(hb:EvL mC 0 [.code cm] ⟨N,zeY 0 args,[]⟩ (zjI rs res))(ho:isO f=false:=by rfl)(hN:Nat.ble args.length N=true:=by rfl):Lx.Fn mC f args res:=
 Fn.of (zGH h) (zeD ho) (qad hN) hb
theorem zHL{f N:Nat}(h:zxA Tryz.prog f=some (N,cm,rs,false))(hb:EvL mC 0 [.code cm] ⟨N,zeY 0 args,[]⟩ (zv1 rs res))(ho:isO f=false:=by rfl)(hN:Nat.ble args.length N=true:=by rfl):Lx.FnA mC f args res:=
 FnA.of (zGH h) (zeD ho) (qad hN) hb
theorem gnO{f N:Nat}(hb:EvL mC 0 [.code cm] ⟨N,zeY 0 args,[]⟩ (zjI rs res))(h:zxA Tryz.prog f=some (N,cm,rs,false):=by apply zF8; exact rfl; exact rfl; exact rfl; repeat' with_reducible first | exact zr4 | exact zyj | exact zs1 | exact zmx | apply zyL | apply zs9 rfl | apply zn1 | apply zs8 | apply znU | apply zmD rfl rfl | apply plS | exact pl0 | apply pl1 | apply pl2 | apply pl3 | (conv=>lhs; cbv)| apply cpRegF | apply zzR | apply zsu | apply fmA | exact fmN | apply fmC)(ho:isO f=false:=by rfl)(hN:Nat.ble args.length N=true:=by rfl):Lx.Fn mC f args res:=fnO h hb ho hN
theorem zCt{f N:Nat}(hb:EvL mC 0 [.code cm] ⟨N,zeY 0 args,[]⟩ (zv1 rs res))(h:zxA Tryz.prog f=some (N,cm,rs,false):=by apply zF8; exact rfl; exact rfl; exact rfl; repeat' with_reducible first | exact zr4 | exact zyj | exact zs1 | exact zmx | apply zyL | apply zs9 rfl | apply zn1 | apply zs8 | apply znU | apply zmD rfl rfl | apply plS | exact pl0 | apply pl1 | apply pl2 | apply pl3 | (conv=>lhs; cbv)| apply cpRegF | apply zzR | apply zsu | apply fmA | exact fmN | apply fmC)(ho:isO f=false:=by rfl)(hN:Nat.ble args.length N=true:=by rfl):Lx.FnA mC f args res:=zHL h hb ho hN
theorem gnP{f N:Nat}{ops:Array Oper}(l l':List Nat)(hb:EvL mC 0 [.code cm] ⟨N,zeY 0 args,[]⟩ (zjI rs res))(h:zcf false Tryz.prog ops=none->zcf true Tryz.prog ops=some (l,l')->zxA Tryz.prog f=some (N,cm,rs,false):=by intro p0 p1; apply zF8; exact rfl; exact rfl; exact rfl; repeat' with_reducible first | exact zr4 | exact zyj | exact zs1 | exact zmx | apply zyL | apply zs9 rfl | apply zn1 | apply zs8 | apply znU | apply zmD rfl rfl | apply plS | exact pl0 | apply pl1 | apply pl2 | apply pl3 | (conv=>lhs; cbv)| apply zAE (h2:=p0) (h3:=p1)| apply cpRegF | apply zzR | apply zsu | apply fmA | exact fmN | apply fmC)(p0:zcf false Tryz.prog ops=none:=by kernel_rfl)(p1:zcf true Tryz.prog ops=some (l,l'):=by kernel_rfl)(ho:isO f=false:=by rfl)(hN:Nat.ble args.length N=true:=by rfl):Lx.Fn mC f args res:=fnO (h p0 p1) hb ho hN
theorem zI8{f N:Nat}{ops:Array Oper}(l l':List Nat)(hb:EvL mC 0 [.code cm] ⟨N,zeY 0 args,[]⟩ (zv1 rs res))(h:zcf false Tryz.prog ops=none->zcf true Tryz.prog ops=some (l,l')->zxA Tryz.prog f=some (N,cm,rs,false):=by intro p0 p1; apply zF8; exact rfl; exact rfl; exact rfl; repeat' with_reducible first | exact zr4 | exact zyj | exact zs1 | exact zmx | apply zyL | apply zs9 rfl | apply zn1 | apply zs8 | apply znU | apply zmD rfl rfl | apply plS | exact pl0 | apply pl1 | apply pl2 | apply pl3 | (conv=>lhs; cbv)| apply zAE (h2:=p0) (h3:=p1)| apply cpRegF | apply zzR | apply zsu | apply fmA | exact fmN | apply fmC)(p0:zcf false Tryz.prog ops=none:=by kernel_rfl)(p1:zcf true Tryz.prog ops=some (l,l'):=by kernel_rfl)(ho:isO f=false:=by rfl)(hN:Nat.ble args.length N=true:=by rfl):Lx.FnA mC f args res:=zHL (h p0 p1) hb ho hN
end Go.Dc
namespace Go.Dc
open Go Go.Mx Go.Lx
theorem zBo:zqg=some true:=rfl
end Go.Dc
namespace Go.Dc
open Go Go.Mx Go.Lx
variable{β:Type}
theorem bsM{α:Type}{o:Option α}{f:α->Option β}{r:β}(h:o.bind f=some r):∃ x,o=some x/\f x=some r:=bind_some h
def zE2(k:Nat):List (Nat×D)->D
 | []=>.any
 |(j,d):: r=>bif j == k then d else zE2 k r
def zDD(E E':List (Nat×D)):List Nat->List (Nat×D)
 | []=>E'
 | k :: ks=>(k,zE2 k E):: zDD E E' ks
def zHd(k:Nat):List Nat->Bool
 | []=>false
 | j :: r=>bif j == k then true else zHd k r
def zGe(E':List (Nat×D))(ks:List Nat):List (Nat×D)->List (Nat×D)
 | []=>E'
 |(j,d):: r=>bif zHd j ks then zGe E' ks r else(j,d):: zGe E' ks r
def zBM(X:List LB):List (Nat×LB)->List LB->List LB
 | [],L=>L ++ X
 |(i,b):: r,L=>zBM X r (L.set i b)
def uKM(S:LSt)(ks:List Nat)(E:List (Nat×D))(L:List (Nat×LB))(X:List LB):LSt:=⟨S.N,zDD S.env E ks,zBM X L S.heap⟩
def uDM(S:LSt)(ks:List Nat)(E:List (Nat×D))(L:List (Nat×LB))(X:List LB):LSt:=⟨S.N,zGe E ks S.env,zBM X L S.heap⟩
theorem zdp{α:Type}{T T':β->LSt}{f':α->LSt}(hT:T=T')(f:α->LSt)(e:T=T'->f=f':=by intro h; simp only[h,uKM,uDM,zDD,zGe,zHd,zE2,zBM,qbS,qcf,List.set,qaU,qbc,qaP,Nat.reduceBEq,qdt,qdu]; exact Eq.refl _):∃ T:α->LSt,T=f':=⟨f,e hT⟩
variable{xs:List Int}{i:Int}
theorem ixM{x:Int}(h:zaE xs i=some x)(L:List LB)(t:Bool):zy6 L 1 i (fzE t (eI .i64) xs)=some (.fptr t ((eI .i64).c t x)):=zaz (n:=1) (e:=eI .i64) rfl h L t
variable{ys:List Int}
theorem siM{x:Int}(h:zeT xs i x=some ys):(xs.map ((eI .i64).c true)).set i.toNat [dI x]=ys.map ((eI .i64).c true):=zd6 h _
variable{b:Nat}
theorem piM{x:Int}(h:zdE b xs [x]=some ys):xs.map ((eI .i64).c true)++ [[dI x]]=ys.map ((eI .i64).c true):=zdW h _
variable{n:Int}
theorem miM{x:Int}(h:zd7 b n x=some xs):List.replicate n.toNat [dI x]=xs.map ((eI .i64).c true):=zfF h ((eI .i64).c true)
theorem giM{x:Int}(h:zaE xs i=some x):(xs.map ((eI .i64).c true))[i.toNat]? = some [dI x]:=zcn h _
theorem suM{x:Int}(h:zeT xs i x=some ys):(xs.map ((eI .u64).c true)).set i.toNat [dU x]=ys.map ((eI .u64).c true):=zd6 h _
theorem muM{x:Int}(h:zd7 b n x=some xs):List.replicate n.toNat [dU x]=xs.map ((eI .u64).c true):=zfF h ((eI .u64).c true)
theorem guM{x:Int}(h:zaE xs i=some x):(xs.map ((eI .u64).c true))[i.toNat]? = some [dU x]:=zcn h _
theorem mbM{x:Int}(h:zd7 b n x=some xs):List.replicate n.toNat [dU8 x]=xs.map ((eI .u8).c true):=zfF h ((eI .u8).c true)
theorem ltM{xs:List β}{x:β}{n:Nat}(e:xs.length=n)(g:zaE xs i=some x):i<(n:Int):=e ▸ zeh g
theorem plM{xs ys:List β}{x:β}(h:zdE b xs [x]=some ys):xs.length+1=ys.length:=zfB h
theorem srM(xs:List Int)(L:List LB):zp6 L 1 (fzE false (eI .i64) xs)=some (xs.map ((eI .i64).c true)):=zmX (e:=eI .i64) rfl xs L false
def zDG:List LB->List Lx.Act
 | []=>[]
 | .gone :: r=>.d :: zDG r
 | _ :: r=>.k :: zDG r
variable{E E':List (Nat×D)}{L':List LB}
theorem wAM{N:Nat}{L:List LB}(hL:MBs L (zDG L') 0 L L':=by repeat' first | exact trivial | exact rfl | exact MB.cs (by repeat' first | exact trivial | exact rfl | refine⟨?_,?_⟩)| exact MB.es _ _ _ | exact MB.gs _ _ _ | refine⟨?_,?_⟩)(hE:MEs L (zDG L') E E':=by repeat' first | exact trivial | exact rfl | refine ms ?_ ?_ ?_ | refine⟨?_,?_⟩)(hl:zjE (zDG L') L'.length=true:=by rfl):zbi 0 ⟨N,E,L⟩ ⟨N,E',L'⟩:=zbi.m0 (zDG L') hl hE hL
def zCJ:List LB->List Lx.Act
 | []=>[]
 | _ :: r=>.k :: zCJ r
theorem zAP:∀ {L:List LB} {j:Nat},j<L.length->isK (zCJ L) j=true
 | [],j,h=>nomatch h
 | b :: r,0,h=>rfl
 | b :: r,j+1,h=>zAP (L:=r) (Nat.lt_of_succ_lt_succ h)
theorem wKM{k0 N:Nat}{L:List LB}(hL:MBs L (zCJ L') 0 L L':=by repeat' first | exact trivial | exact rfl | exact .same (hkin _ (λj hj=>zAP (qb2 hj (qad rfl))))| exact MB.cs (by repeat' first | exact trivial | exact rfl | refine⟨?_,?_⟩)| exact MB.es _ _ _ | exact MB.gs _ _ _ | refine⟨?_,?_⟩)(hE:MEs L (zCJ L') E E':=by repeat' first | exact trivial | exact rfl | refine ms ?_ ?_ ?_ | refine⟨?_,?_⟩)(hk:zzl (zCJ L') k0=true:=by rfl)(hl:zjE (zCJ L') L'.length=true:=by rfl):zbi k0 ⟨N,E,L⟩ ⟨N,E',L'⟩:=zbi.mK (zCJ L') hk hl hE hL
theorem zde{α:Type}{T T':α->LSt}{o b:α}{k:Nat}{S:LSt}(j:some b=some o)(hT:T=T')(w:zbi k S (T' b):=by first | exact wAM | exact wKM):∃ a,a=o/\zbi k S (T a):=⟨b,qaf j,hT ▸ w⟩
theorem zsT{α:Type}{T T':α->LSt}{o:Out α β}{b:α}{k:Nat}{S:LSt}(j:some (Out.go b)=some o)(hT:T=T')(w:zbi k S (T' b):=by first | exact wAM | exact wKM):∃ a,o=.go a/\zbi k S (T a):=⟨b,(qaf j).symm,hT ▸ w⟩
def zGj(S:LSt)(ks:List Nat)(n:Nat)(E:List (Nat×D))(L:List (Nat×LB))(X:List LB):LSt:=⟨S.N,zDD S.env E ks,zBM X L (S.heap.take n)⟩
theorem usM{α:Type}{m:Mach}{k0:Nat}{k:List K}{S:LSt}{Q:LX->LSt->Prop}{f':α->LSt}(ks:List Nat)(n:Nat)(f:α->List (Nat×D)×List (Nat×LB)×List LB)(h:∀ T,T=f'->EvL m k0 k S Q)
  (e:(λa=>zGj S ks n (f a).1 (f a).2.1 (f a).2.2)=f':=by simp only[zGj,zDD,zE2,zBM,qcl,qb0,List.take_nil,qbS,qcf,List.set,qaU,qbc,qaP,Nat.reduceBEq,qdt,qdu]; exact Eq.refl _):EvL m k0 k S Q:=h _ rfl
theorem wuM{m:Mach}{k0:Nat}{k:List K}{S S':LSt}{Q:LX->LSt->Prop}(ks:List Nat)(n:Nat)(E:List (Nat×D))(L:List (Nat×LB))(X:List LB)(h:EvL m k0 k S' Q)
  (e:zGj S ks n E L X=S':=by simp only[zGj,zDD,zE2,zBM,qcl,qb0,List.take_nil,qbS,qcf,List.set,qaU,qbc,qaP,Nat.reduceBEq,qdt,qdu]; exact Eq.refl _) (w:zbi k0 S S':=by first | exact wAM | exact wKM):EvL m k0 k S Q:=EvL.zgB w h
theorem zgs{α γ:Type}{o:Option α}{p:α->Option β}{f:α->β->Option γ}{r:γ}(h:(o.bind λx=>(p x).bind λy=>f x y)=some r):∃ x,o=some x/\∃ y,p x=some y/\f x y=some r:=let ⟨x,g,h⟩:=bsM h; ⟨x,g,bsM h⟩
theorem zjp{α0:Type}{α1:Type}{α2:Type}{γ:Type}{p0:Option α0}{p1:α0->Option α1}{p2:α0->α1->Option α2}{f:α0->α1->α2->Option γ}{r:γ}(h:(p0.bind λx0=>(p1 x0).bind λx1=>(p2 x0 x1).bind λx2=>f x0 x1 x2)=some r):∃ x0,p0=some x0/\∃ x1,p1 x0=some x1/\∃ x2,p2 x0 x1=some x2/\f x0 x1 x2=some r:=let ⟨x,g,h⟩:=bsM h; ⟨x,g,zgs h⟩
theorem anM{P Q:Prop}(p:P)(q:Q):P/\Q:=⟨p,q⟩
theorem zcz{α:Type}{T T':α->LSt}{P:α->Prop}{k:Nat}{S:LSt}(hT:T=T')(a:α)(hp:P a)(w:zbi k S (T' a):=by first | exact wAM | exact wKM):∃ a,P a/\zbi k S (T a):=⟨a,hp,hT ▸ w⟩
section
variable {m:Mach} {k0:Nat} {k:List K} {S:LSt} {Q:LX->LSt->Prop} {A G G0 G1 Y:Prop} {α:Type} {T T':α->LSt}
theorem wSM(h:G)(e:wp m k0 k (some S) Q=G:=by(try simp only[rnA,Nat.reduceEqDiff,Nat.reduceLT,reduceCtorEq,Nat.reduceAdd,Nat.reduceLeDiff,Int.reduceBEq,Int.reduceLE,Int.reduceLT,Nat.reduceBEq,Nat.reduceMul,Nat.reduceSub,Int.reduceToNat,reduceIte,zbN,zcK]); exact Eq.refl _):EvL m k0 k S Q:=zad (e.mpr h)
theorem sSM(h:G)(e:A=G:=by(try simp only[rnA,Nat.reduceEqDiff,Nat.reduceLT,reduceCtorEq,Nat.reduceAdd,Nat.reduceLeDiff,Int.reduceBEq,Int.reduceLE,Int.reduceLT,Nat.reduceBEq,Nat.reduceMul,Nat.reduceSub,Int.reduceToNat,reduceIte,zbN,zcK]); exact Eq.refl _):A:=e.mpr h
theorem sXM(x:Y)(h:G)(e:Y->A=G:=by intro x; (try simp only[x,rnA,Nat.reduceEqDiff,Nat.reduceLT,reduceCtorEq,Nat.reduceAdd,Nat.reduceLeDiff,Int.reduceBEq,Int.reduceLE,Int.reduceLT,Nat.reduceBEq,Nat.reduceMul,Nat.reduceSub,Int.reduceToNat,reduceIte,zbN,zcK]); exact Eq.refl _):A:=(e x).mpr h
theorem zHX{Y1:Prop}(x1:Y1){Y2:Prop}(x2:Y2){Y3:Prop}(x3:Y3){Y4:Prop}(x4:Y4){Y5:Prop}(x5:Y5){Y6:Prop}(x6:Y6)(h:G)(e:Y1->Y2->Y3->Y4->Y5->Y6->A=G:=by intro x1 x2 x3 x4 x5 x6; (try simp only[x1,x2,x3,x4,x5,x6,rnA,Nat.reduceEqDiff,Nat.reduceLT,reduceCtorEq,Nat.reduceAdd,Nat.reduceLeDiff,Int.reduceBEq,Int.reduceLE,Int.reduceLT,Nat.reduceBEq,Nat.reduceMul,Nat.reduceSub,Int.reduceToNat,reduceIte,zbN,zcK]); exact Eq.refl _):A:=(e x1 x2 x3 x4 x5 x6).mpr h
theorem wTM{a:α}(hT:T=T')(h:G)(e:wp m k0 k (some (T' a)) Q=G:=by(try simp only[rnA,Nat.reduceEqDiff,Nat.reduceLT,reduceCtorEq,Nat.reduceAdd,Nat.reduceLeDiff,Int.reduceBEq,Int.reduceLE,Int.reduceLT,Nat.reduceBEq,Nat.reduceMul,Nat.reduceSub,Int.reduceToNat,reduceIte,zbN,zcK]); exact Eq.refl _):EvL m k0 k (T a) Q:=hT ▸ zad (e.mpr h)
theorem cBM{c:Bool}{a b:Option α}{r:α}(j:cond c a b=some r)(h0:c=false->b=some r->G0)(h1:c=true->a=some r->G1)
  (e0:c=false->A=G0:=by intro c; (try simp only[c,rnA,Nat.reduceEqDiff,Nat.reduceLT,reduceCtorEq,Nat.reduceAdd,Nat.reduceLeDiff,Int.reduceBEq,Int.reduceLE,Int.reduceLT,Nat.reduceBEq,Nat.reduceMul,Nat.reduceSub,Int.reduceToNat,reduceIte,zbN,zcK]); exact Eq.refl _)
  (e1:c=true->A=G1:=by intro c; (try simp only[c,rnA,Nat.reduceEqDiff,Nat.reduceLT,reduceCtorEq,Nat.reduceAdd,Nat.reduceLeDiff,Int.reduceBEq,Int.reduceLE,Int.reduceLT,Nat.reduceBEq,Nat.reduceMul,Nat.reduceSub,Int.reduceToNat,reduceIte,zbN,zcK]); exact Eq.refl _):A:=by
 cases c with
 | false=>exact(e0 rfl).mpr (h0 rfl j)
 | true=>exact(e1 rfl).mpr (h1 rfl j)
theorem bJM{o:α}{s:Option α}{c:C}(j:s=some o)(hT:T=T')(h:s=some o->T=T'->EvL m k0 (.code c :: .inv (Jn k0 T λa=>a=o):: k) S Q:=by
  intro j hT; refine wSM ?_; repeat' first | exact zde j hT | refine cBM j ?_ ?_<;>intro c j):EvL m k0 (.code c :: .inv (Jn k0 T λa=>a=o):: k) S Q:=h j hT
theorem rdM{x:C}(hT:T=T')(P:Nat->α->Prop){n:Nat}(a:α)(hp:P n a)(hs:∀ n a,P (n+1) a->EvL m k0 (.code x :: .inv (Jn k0 T (P n)):: k) (T a) Q)
  (hz:∀ a,¬ P 0 a:=by intro _ h; first | exact nomatch (show none=some _ from h)| exact nomatch (show none=some _ from h.1))
  (w:zbi k0 S (T' a):=by first | exact wAM | exact wKM):EvL m k0 (.code (.loop x):: k) S Q:=EvL.rounds T P n a (hT ▸ w) hp hz hs
section
variable {L:List LB} {t t':Bool} {f:Nat} {g:Option (Nat×Bool)} {l:List O} {ds args:List D} {res:D} {bar e:Bool} {d:Option Nat}
theorem zHr{β:Type}{e:En β}{xs:List β}:Snp L false (fzE t e xs) (fzE false e xs):=zeg e xs (λh=>nomatch h)
theorem zGx{β:Type}{e:En β}{xs:List β}:Snp L t' (fzE true e xs) (fzE t' e xs):=zeg e xs (λ_=>rfl)
theorem nfM{P:Prop}(h:false=true):P:=nomatch h
theorem ttM{P:Prop}(_:P):true=true:=rfl
theorem sOM{β:Type}{e:En β}{β n len st:Nat}{cap:Option Nat}{xs:List _}(he:L[β]? = some (.els n (xs.map (e.c t)))\/L[β]? = some (.grow n (xs.map (e.c t))):=by first | exact .inl rfl | exact .inr rfl)
  (hn:n=e.n:=by rfl) (hs:st=xs.length:=by first | exact rfl | assumption | (symm; assumption)| exact(zbh (by assumption)).symm | exact(zaS (by assumption)).symm | exact((zaS (by assumption)).trans (by assumption)).symm) (hl:len=xs.length:=by first | exact rfl | assumption | (symm; assumption)| exact(zbh (by assumption)).symm | exact(zaS (by assumption)).symm | exact((zaS (by assumption)).trans (by assumption)).symm)
  (hc:∀ k,cap=some k->len<=k:=by intro k h; cases h; all_goals exact qap _) (h:t'=true->t=true:=by first | exact nfM | exact ttM | exact id):Snp L t' (.sl β 0 n len cap st) (fzE t' e xs):=znB hn he hs hl hc h
variable{rs:List RX}
theorem rQM(h:zfQ S.heap S.env rs=some ds:=by rfl)(hs:Snp S.heap true (zdX ds) res:=by repeat' first | exact .lit _ | exact .nil | exact .any | refine .cons ?_ ?_ | refine Snp.zyP ?_ | refine Snp.zDB ?_ | exact zHr | exact zGx | exact zeg _ _ id | exact zhu _ | exact sOM):zjI rs res .ret S:=.ret h hs
theorem rAM(h:zfQ S.heap S.env rs=some ds:=by rfl)(hs:Snp S.heap false (zdX ds) res:=by repeat' first | exact .lit _ | exact .nil | exact .any | refine .cons ?_ ?_ | refine Snp.zyP ?_ | refine Snp.zDB ?_ | exact zHr | exact zGx | exact zeg _ _ id | exact zhu _ | exact sOM):zv1 rs res .ret S:=.ret h hs
theorem rHM{a r:α}(j:some a=some r)(h:some a=some r->A:=by intro h; obtain rfl:=qaf h; first | exact rQM | exact rAM):A:=h j
variable{xs:List Mx.X}
theorem fCM(hf:Lx.Fn m f args res)(h:G)(hw:zbB S.env g=some true:=by rfl)(hx:zhj S.env xs=some ds:=by rfl)(hs:Snps S.heap false ds args:=by repeat' first | exact .lit _ | exact .nil | exact .any | refine .cons ?_ ?_ | refine Snp.zyP ?_ | refine Snp.zDB ?_ | exact zHr | exact zGx | exact zeg _ _ id | exact zhu _ | exact sOM)(q:wp m k0 (.ops bar e l :: k) (LSt.put ⟨S.N,S.env,S.heap⟩ d res) Q=G:=by(try simp only[rnA,Nat.reduceEqDiff,Nat.reduceLT,reduceCtorEq,Nat.reduceAdd,Nat.reduceLeDiff,Int.reduceBEq,Int.reduceLE,Int.reduceLT,Nat.reduceBEq,Nat.reduceMul,Nat.reduceSub,Int.reduceToNat,reduceIte,zbN,zcK]); exact Eq.refl _):EvL m k0 (.ops bar e (⟨d,.call f xs,g⟩:: l):: k) S Q:=EvL.fn hf hw hx hs (q.mpr h)
theorem fDM(hf:FnA m f args res)(h:G)(hw:zbB S.env g=some true:=by rfl)(hx:zhj S.env xs=some ds:=by rfl)(hz:Mzs S.heap (λ_=>false) ds args:=by repeat' first | exact .lit _ | exact .nil | refine .cons ?_ ?_ | refine Mzs.agg ?_ | exact zdw _ _ (λh=>by cases h<;>contradiction)| exact zdw _ _ (λ_=>rfl)| exact zjm _)(hfr:D.frs args:=by repeat' first | exact trivial | exact rfl | exact zb0 _ _ | exact En.fr _ _ | refine⟨?_,?_⟩)(hres:res.fr:=by repeat' first | exact trivial | exact rfl | exact zb0 _ _ | exact En.fr _ _ | refine⟨?_,?_⟩)(q:wp m k0 (.ops bar e l :: k) (LSt.put ⟨S.N,S.env,S.heap⟩ d res) Q=G:=by(try simp only[rnA,Nat.reduceEqDiff,Nat.reduceLT,reduceCtorEq,Nat.reduceAdd,Nat.reduceLeDiff,Int.reduceBEq,Int.reduceLE,Int.reduceLT,Nat.reduceBEq,Nat.reduceMul,Nat.reduceSub,Int.reduceToNat,reduceIte,zbN,zcK]); exact Eq.refl _):EvL m k0 (.ops bar e (⟨d,.call f xs,g⟩:: l):: k) S Q:=EvL.fnS hf hw hx hz hfr hres (q.mpr h)
end
end
end Go.Dc
set_option maxRecDepth 100000
set_option maxHeartbeats 4000000
namespace Go.Dc
open Go Go.Mx Go.Lx Go.Proofs
structure S_api_Factor where
 vars:(List Int)
 zaf:(List Int)
 w:(List Int)
 deriving Inhabited,DecidableEq
def zaa:En S_api_Factor:=eM (λx=>(x.vars,x.zaf,x.w)) (eP (eL (eI .i64)) (eP (eL (eI .i64)) (eL (eI .i64))))
theorem zc5(t:Bool)(x:S_api_Factor):zaa.c t x=[(fzE t (eI .i64) x.vars),(fzE t (eI .i64) x.zaf),(fzE t (eI .i64) x.w)]:=rfl
structure A8_Intu8 where
 a0:Int
 a1:Int
 a2:Int
 a3:Int
 a4:Int
 a5:Int
 a6:Int
 a7:Int
 deriving Inhabited,DecidableEq
def zla:En A8_Intu8:=eM (λx=>(x.a0,x.a1,x.a2,x.a3,x.a4,x.a5,x.a6,x.a7)) (eP (eI .u8) (eP (eI .u8) (eP (eI .u8) (eP (eI .u8) (eP (eI .u8) (eP (eI .u8) (eP (eI .u8) (eI .u8))))))))
structure S_api_Node where
 zaF:Int
 parents:(List Int)
 rows:(List (List Int))
 deriving Inhabited,DecidableEq
def zab:En S_api_Node:=eM (λx=>(x.zaF,x.parents,x.rows)) (eP (eI .i64) (eP (eL (eI .i64)) (eL (eL (eI .i64)))))
theorem zaj(t:Bool)(x:S_api_Node):zab.c t x=[(dI x.zaF),(fzE t (eI .i64) x.parents),(fzE t (eL (eI .i64)) x.rows)]:=rfl
structure S_api_Net where
 grain:Int
 nodes:(List S_api_Node)
 deriving Inhabited,DecidableEq
def ztG:En S_api_Net:=eM (λx=>(x.grain,x.nodes)) (eP (eI .i64) (eL zab))
structure S_api_Q where
 n:Int
 d:Int
 deriving Inhabited,DecidableEq
def zbZ:En S_api_Q:=eM (λx=>(x.n,x.d)) (eP (eI .i64) (eI .i64))
theorem zg7(t:Bool)(x:S_api_Q):zbZ.c t x=[(dI x.n),(dI x.d)]:=rfl
structure S_haruspexref05_Piece where
 zaF:Int
 parents:Int
 w:(List Int)
 deriving Inhabited,DecidableEq
def za3:En S_haruspexref05_Piece:=eM (λx=>(x.zaF,x.parents,x.w)) (eP (eI .u8) (eP (eI .u8) (eL (eI .u8))))
theorem zdR(t:Bool)(x:S_haruspexref05_Piece):za3.c t x=[(dU8 x.zaF),(dU8 x.parents),(fzE t (eI .u8) x.w)]:=rfl
structure S_haruspexref05_Draft where
 grain:Int
 nodes:(List S_haruspexref05_Piece)
 order:(List Int)
 deriving Inhabited,DecidableEq
def zea:En S_haruspexref05_Draft:=eM (λx=>(x.grain,x.nodes,x.order)) (eP (eI .u8) (eP (eL za3) (eL (eI .u8))))
def zao:En S_api_Node:=eM (λx=>(x.zaF,x.parents,x.rows)) (eP (eI .i64) (eP (eN (eI .i64)) (eN (eL (eI .i64)))))
theorem zfx(t:Bool)(x:S_api_Node):zao.c t x=[(dI x.zaF),(nE t (eI .i64) x.parents),(nE t (eL (eI .i64)) x.rows)]:=rfl
theorem zd0{L:List LB}{t u:Bool}(h:u=true->t=true)(x:S_api_Node):Snps L u (zao.c t x) (zab.c u x):=(.cons (.lit _) (.cons (zqM _ _ h) (.cons (zqM _ _ h) .nil)))
theorem zku{L:List LB}{t u:Bool}(h:u=true->t=true)(xs:List S_api_Node):Pw (Snp L u) (xs.map (zao.c t)) (xs.map (zab.c u)):=Pw.map (λx=>⟨(zd0 (L:=L) h x).len,(zd0 (L:=L) h x).get⟩) xs
structure S_haruspexref02_Draft where
 c:(List Int)
 which:Int
 order:(List Int)
 deriving Inhabited,DecidableEq
structure S_haruspexref05_Bend where
 what:Int
 at_:Int
 row:Int
 n:Int
 deriving Inhabited,DecidableEq
def zbs:En S_haruspexref05_Bend:=eM (λx=>(x.what,x.at_,x.row,x.n)) (eP (eI .u8) (eP (eI .u8) (eP (eI .u8) (eI .i64))))
structure S_factor_table where
 factor:S_api_Factor
 steps:(List Int)
 deriving Inhabited,DecidableEq
structure S_eliminate_query where
 net:S_api_Net
 known:(List Int)
 node:Int
 deriving Inhabited,DecidableEq
def zaq:En S_eliminate_query:=eM (λx=>(x.net,x.known,x.node)) (eP ztG (eP (eL (eI .i64)) (eI .i64)))
theorem zbD(t:Bool)(x:S_eliminate_query):zaq.c t x=[(dI x.net.grain),(fzE t zab x.net.nodes),(fzE t (eI .i64) x.known),(dI x.node)]:=rfl
structure S_net_network where
 net:S_api_Net
 zaf:(List Int)
 sets:(List Int)
 order:(List Int)
 deriving Inhabited,DecidableEq
structure S_haruspexref05_Known where
 which:Int
 v:A8_Intu8
 deriving Inhabited,DecidableEq
def zeb:En S_haruspexref05_Known:=eM (λx=>(x.which,x.v)) (eP (eI .u8) zla)
structure S_haruspexlaw09_Ask where
 known:S_haruspexref05_Known
 v:Int
 l:A8_Intu8
 e:(List Int)
 order:(List Int)
 deriving Inhabited,DecidableEq
def zeR:En S_haruspexlaw09_Ask:=eM (λx=>(x.known,x.v,x.l,x.e,x.order)) (eP zeb (eP (eI .i64) (eP zla (eP (eL (eI .i64)) (eL (eI .i64))))))
structure A4_S_haruspexlaw09_Ask where
 a0:S_haruspexlaw09_Ask
 a1:S_haruspexlaw09_Ask
 a2:S_haruspexlaw09_Ask
 a3:S_haruspexlaw09_Ask
 deriving Inhabited,DecidableEq
structure A2_Intu64 where
 a0:Int
 a1:Int
 deriving Inhabited,DecidableEq
def ztM:En A2_Intu64:=eM (λx=>(x.a0,x.a1)) (eP (eI .u64) (eI .u64))
theorem zjo(t:Bool)(x:A2_Intu64):ztM.c t x=[(dU x.a0),(dU x.a1)]:=rfl
structure A3_S_haruspexref05_Bend where
 a0:S_haruspexref05_Bend
 a1:S_haruspexref05_Bend
 a2:S_haruspexref05_Bend
 deriving Inhabited,DecidableEq
def zdJ:En A3_S_haruspexref05_Bend:=eM (λx=>(x.a0,x.a1,x.a2)) (eP zbs (eP zbs zbs))
end Go.Dc
