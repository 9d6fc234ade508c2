/-
 The machine of the program; the closed checks are known to be true. Conditions: none.
-/
import Derived.Test.YtbjogdohfhdaiaaCkDc6
import Derived.Test.YtbjogdohfhdaiaaRows
import Derived.Test.YtbjogdohfhdaiaaCkMo
set_option linter.unusedSimpArgs false
set_option linter.unusedVariables false
namespace Go.Dc
open Go Go.Mx Go.Lx Go.Proofs
def rg(l:List O):C:=.reg false false l
def oM(a b:Nat):O:=⟨some a,.mov (.s b),none⟩
def oMg(a b g:Nat)(t:Bool):O:=⟨some a,.mov (.s b),some (g,t)⟩
def oL(a b:Nat):O:=⟨some a,.load none (.s b),none⟩
def oLg(a b g:Nat)(t:Bool):O:=⟨some a,.load none (.s b),some (g,t)⟩
def oN(a n b:Nat):O:=⟨some a,.load (some n) (.s b),none⟩
def oF(a n b:Nat):O:=⟨some a,.fld n (.s b),none⟩
def oFg(a n b g:Nat)(t:Bool):O:=⟨some a,.fld n (.s b),some (g,t)⟩
def oI(a n b c:Nat):O:=⟨some a,.idxS n (.s b) (.s c),none⟩
def oE(a b:Nat):O:=⟨some a,.len (.s b),none⟩
def oX(a b n:Nat):O:=⟨some a,.ext (.s b) n,none⟩
def oW(a b:Nat):O:=⟨some a,.box (.s b),none⟩
def oZ(a b:Nat):O:=⟨some a,.nilck (.s b),none⟩
def oS(n b c:Nat):O:=⟨none,.store n (.s b) (.s c),none⟩
def oP(a b c:Nat):O:=⟨some a,.pick (.s b) (.c (.bool true)) (.s c),none⟩
def oU(a f b:Nat):O:=⟨some a,.call f [.s b],none⟩
def oV(a f b c:Nat):O:=⟨some a,.call f [.s b,.s c],none⟩
def oT(a n k b c:Nat):O:=⟨some a,.app n k (.s b) (.s c),none⟩
def oK(a:Nat)(n:Int):O:=⟨some a,.mov (.c (.int .i64 n)),none⟩
def oJ(a:Nat)(t:Bool):O:=⟨some a,.mov (.c (.bool t)),none⟩
def oB(a:Nat)(p:BinOp)(b c:Nat):O:=⟨some a,.bin p (.s b) (.s c),none⟩
def oD(a:Nat)(p:BinOp)(b:Nat)(n:Int):O:=⟨some a,.bin p (.s b) (.c (.int .i64 n)),none⟩
def oDg(a:Nat)(p:BinOp)(b:Nat)(n:Int)(g:Nat)(t:Bool):O:=⟨some a,.bin p (.s b) (.c (.int .i64 n)),some (g,t)⟩
def oDu(a:Nat)(p:BinOp)(b:Nat)(n:Int):O:=⟨some a,.bin p (.s b) (.c (.int .u64 n)),none⟩
variable{E:List (Nat×D)}
theorem msq{L:List LB}{ac:List Lx.Act}{r:List (Nat×D)}{k:Nat}{d:D}(hr:MEs L ac E r)(h:lk E k=some d:=by rfl)(hk:d.kin (isK ac):=by first | exact rfl | exact trivial):MEs L ac E ((k,d):: r):=ms h hk hr
theorem wm0{N:Nat}{E':List (Nat×D)}{L L':List LB}(ac:List Lx.Act)(hL:MBs L ac 0 L L')(hE:MEs L ac E E':=by repeat' first | exact trivial | exact rfl | refine ms ?_ ?_ ?_ | refine⟨?_,?_⟩)(hl:zmV ac L'.length=true:=by rfl):zbQ 0 ⟨N,E,L⟩ ⟨N,E',L'⟩:=zbQ.m0 ac hl hE hL
theorem lfj{α:Type}{T T':α->LSt}{P:α->Prop}{o:α}{k:Nat}{S:LSt}(hT:T=T')(hp:P o)(h:zbQ k S (T' o)):∃ a,P a/\zbQ k S (T a):=⟨o,hp,hT ▸ h⟩
theorem mkT{α:Type}(f:α->LSt):∃ T:α->LSt,T=f:=⟨_,rfl⟩
theorem zvq:(∀ l:List O,rg l=C.reg false false l)/\(∀(a b:Nat),oM a b=(⟨some a,.mov (.s b),none⟩:O))/\
 (∀(a b g:Nat) (t:Bool),oMg a b g t=(⟨some a,.mov (.s b),some (g,t)⟩:O))/\
 (∀(a b:Nat),oL a b=(⟨some a,.load none (.s b),none⟩:O))/\
 (∀(a b g:Nat) (t:Bool),oLg a b g t=(⟨some a,.load none (.s b),some (g,t)⟩:O))/\
 (∀(a n b:Nat),oN a n b=(⟨some a,.load (some n) (.s b),none⟩:O))/\
 (∀(a n b:Nat),oF a n b=(⟨some a,.fld n (.s b),none⟩:O))/\
 (∀(a n b g:Nat) (t:Bool),oFg a n b g t=(⟨some a,.fld n (.s b),some (g,t)⟩:O))/\
 (∀(a n b c:Nat),oI a n b c=(⟨some a,.idxS n (.s b) (.s c),none⟩:O))/\
 (∀(a b:Nat),oE a b=(⟨some a,.len (.s b),none⟩:O))/\
 (∀(a b n:Nat),oX a b n=(⟨some a,.ext (.s b) n,none⟩:O))/\
 (∀(a b:Nat),oW a b=(⟨some a,.box (.s b),none⟩:O))/\
 (∀(a b:Nat),oZ a b=(⟨some a,.nilck (.s b),none⟩:O))/\
 (∀(n b c:Nat),oS n b c=(⟨none,.store n (.s b) (.s c),none⟩:O))/\
 (∀(a b c:Nat),oP a b c=(⟨some a,.pick (.s b) (.c (.bool true)) (.s c),none⟩:O))/\
 (∀(a f b:Nat),oU a f b=(⟨some a,.call f [.s b],none⟩:O))/\
 (∀(a f b c:Nat),oV a f b c=(⟨some a,.call f [.s b,.s c],none⟩:O))/\
 (∀(a n k b c:Nat),oT a n k b c=(⟨some a,.app n k (.s b) (.s c),none⟩:O))/\
 (∀(a:Nat) (n:Int),oK a n=(⟨some a,.mov (.c (.int .i64 n)),none⟩:O))/\
 (∀(a:Nat) (t:Bool),oJ a t=(⟨some a,.mov (.c (.bool t)),none⟩:O))/\
 (∀(a:Nat) (p:BinOp) (b c:Nat),oB a p b c=(⟨some a,.bin p (.s b) (.s c),none⟩:O))/\
 (∀(a:Nat) (p:BinOp) (b:Nat) (n:Int),oD a p b n=(⟨some a,.bin p (.s b) (.c (.int .i64 n)),none⟩:O))/\
 (∀(a:Nat) (p:BinOp) (b:Nat) (n:Int) (g:Nat) (t:Bool),oDg a p b n g t=(⟨some a,.bin p (.s b) (.c (.int .i64 n)),some (g,t)⟩:O))/\
 (∀(a:Nat) (p:BinOp) (b:Nat) (n:Int),oDu a p b n=(⟨some a,.bin p (.s b) (.c (.int .u64 n)),none⟩:O)):=
 ⟨λ_=>rfl,λ_ _=>rfl,λ_ _ _ _=>rfl,λ_ _=>rfl,λ_ _ _ _=>rfl,λ_ _ _=>rfl,λ_ _ _=>rfl,λ_ _ _ _ _=>rfl,λ_ _ _ _=>rfl,λ_ _=>rfl,λ_ _ _=>rfl,λ_ _=>rfl,λ_ _=>rfl,λ_ _ _=>rfl,λ_ _ _=>rfl,λ_ _ _=>rfl,λ_ _ _ _=>rfl,λ_ _ _ _ _=>rfl,λ_ _=>rfl,λ_ _=>rfl,λ_ _ _ _=>rfl,λ_ _ _ _=>rfl,λ_ _ _ _ _ _=>rfl,λ_ _ _ _=>rfl⟩
def zuc:Orc:=λB f args h=>match args with
 | []=>bif Nat.beq f 8 then some (.ret (.lit (.bool true)),h)else none
 | a :: r=>zvi B f (a :: r) h
def isO(f:Nat):Bool:=Nat.beq f 8 || isX f
noncomputable def mC:Mach:=⟨zg3 Try.prog,zuc⟩
theorem zdc{f:Nat}(hf:isO f=false)(B:Nat)(args:List V)(h:zaj):mC.orc B f args h=none:=by
 unfold isO at hf;rw[Bool.or_eq_false_iff]at hf;show zuc B f args h=none;unfold zuc;cases args with
 | nil=>simp only; rw[hf.1]; rfl
 | cons _ _=>exact zpt hf.2 _ _ _
def zld:Option Bool:=some true
theorem zqY{r:Bool}(h:zld=some r):Lx.Fn mC 8 [] (.lit (.bool r)):=by
 cases h;intro z B H vs hz hB hr;have hvs:vs=[]:=qa5.1 (by simpa using hr.1.symm);subst hvs;refine⟨1,.ret (.lit (.bool true)),H,λn hn=>?_,qam _,λ_ _=>rfl,_,λ_=>none,rfl,λb cs hb=>(by cases hb),.lit _⟩;obtain⟨n,rfl⟩:∃ k,n=k+1:=⟨n - 1,by omega⟩;rfl
def zq6(P:Program)(f:Nat):Option (Nat×C×List RX×Bool):=match zhc P f with
 | some fn=>some (fn.N,zbr false fn.c,fn.rs,fn.p)
 | none=>none
def zo1(bar:Bool)(P:Program)(ops:Array Oper)(s:List Bool):Nat×Nat:=
 match (zcQ ops s).find? λi=>zae (zbU P ops i) && zir ops s i && (!znw ops i || zjU bar P ops s.toArray i)with
 | some i=>(1,i)
 | none=>match zcQ ops s with
  | []=>(0,0)
  | [i]=>bif zd0 bar (zbU P ops i)|| wrI (zbU P ops i)then(1,i)else(3,0)
  | i :: j :: l=>bif zrr bar P ops s (i :: j :: l) (zed bar P ops s (i :: j :: l))then(2,zed bar P ops s (i :: j :: l))else(4,0)
def zqW(bar:Bool)(P:Program)(ops:Array Oper)(f:Nat)(s:List Bool)(x:Nat×Nat)(l l':List Nat):Prop:=zo1 bar P ops s=x->zfb bar P ops f s=some (l,l')
section
variable {P:Program} {bar:Bool} {ops:Array Oper} {s s':List Bool} {l l':List Nat} {f i:Nat}
theorem plS{x:Nat×Nat}(h:zo1 bar P ops s=x)(g:zqW bar P ops f s x l l'):zfb bar P ops f s=some (l,l'):=g h
theorem pl0:zqW bar P ops f s (0,0) [] []:=by
 intro h;unfold zo1 at h;cases hf:(zcQ ops s).find? λi=>zae (zbU P ops i) && zir ops s i && (!znw ops i || zjU bar P ops s.toArray i)with
 | some i=>rw[hf]at h; cases h
 | none=>
  rw[hf]at h
  match hr:zcQ ops s,h with
  | [],_=>
   cases f with
   | zero=>unfold zfb; rw[hr]; rfl
   | succ f=>unfold zfb; rw[hr]; rfl
  | [i],h=>simp only at h; cases he:zd0 bar (zbU P ops i)|| wrI (zbU P ops i)<;> rw[he]at h<;>cases h
  | i :: j :: r,h=>simp only at h; cases he:zrr bar P ops s (i :: j :: r) (zed bar P ops s (i :: j :: r))<;> rw[he]at h<;>cases h
theorem pl1(hs:s.set i true=s')(r:zfb bar P ops f s'=some (l,l')):zqW bar P ops (f+1) s (1,i) (i :: l) l':=by
 intro h;subst hs;unfold zo1 at h;unfold zfb;cases hf:(zcQ ops s).find? λi=>zae (zbU P ops i) && zir ops s i && (!znw ops i || zjU bar P ops s.toArray i)with
 | some k=>rw[hf]at h; cases h; simp only[zfX,r,qaD]
 | none=>
  rw[hf]at h
  match hr:zcQ ops s,h with
  | [],h=>cases h
  | [k],h=>simp only at h; cases he:zd0 bar (zbU P ops k)|| wrI (zbU P ops k)<;> rw[he]at h<;>cases h; simp only[qcE,zfX,r,qaD]; try simp only[he,qcE]
  | k :: j :: q,h=>simp only at h; cases he:zrr bar P ops s (k :: j :: q) (zed bar P ops s (k :: j :: q))<;> rw[he]at h<;>cases h
theorem pl3(r:zgB P ops (f+1) s=some l'):zqW bar P ops (f+1) s (3,0) [] l':=by
 intro h;unfold zo1 at h;unfold zfb;cases hf:(zcQ ops s).find? λi=>zae (zbU P ops i) && zir ops s i && (!znw ops i || zjU bar P ops s.toArray i)with
 | some k=>rw[hf]at h; cases h
 | none=>
  rw[hf]at h
  match hr:zcQ ops s,h with
  | [],h=>cases h
  | [k],h=>
   simp only at h;cases he:zd0 bar (zbU P ops k)|| wrI (zbU P ops k)with
   | true=>rw[he]at h; cases h
   | false=>simp only[he,qcF,r,qaD]
  | k :: j :: q,h=>simp only at h; cases he:zrr bar P ops s (k :: j :: q) (zed bar P ops s (k :: j :: q))<;> rw[he]at h<;>cases h
theorem zoQ{n:Nat}(h1:(Region.noSelect ops && ze2 ops && ztl P ops)=true)(hn:ops.size=n)(hs:List.replicate n false=s)(h:zfb bar P ops n s=some (l,l')):zdF bar P ops=some (l,l'):=by
 subst hs hn;unfold zdF ztj;rw[if_pos h1,zbW,h]
end
section
variable {P:Program} {N:Nat} {a b:Code} {a' b':C}
theorem zpV:zbJ P N .skip=.skip:=rfl
theorem zsM:zbJ P N .ret=.ret:=rfl
theorem zoJ{i:Nat}:zbJ P N (.exit i)=.exit i:=rfl
theorem zlg{i:Nat}:zbJ P N (.label i)=.label i:=rfl
theorem zsy(h:zbJ P N a=a')(g:zbJ P N b=b'):zbJ P N (.seq a b)=.seq a' b':=h ▸ g ▸ rfl
theorem zpl{c:Operand}{x:Mx.X}(e:opX c=x)(h:zbJ P N a=a')(g:zbJ P N b=b'):zbJ P N (.cond c a b)=.cond x a' b':=e ▸ h ▸ g ▸ rfl
theorem zk8{i:Nat}(h:zbJ P N a=a'):zbJ P N (.block i a)=.block i a':=h ▸ rfl
theorem zok(h:zbJ P N a=a'):zbJ P N (.loop a)=.loop a':=h ▸ rfl
theorem zkV{c:Operand}{x:Mx.X}{ps:Array Nat}{l:List Nat}(e:opX c=x)(el:ps.toList=l)(h:zbJ P N a=a')(g:zbJ P N b=b'):zbJ P N (.rangeFunc c ps a b)=.zdM x l a' b':=e ▸ el ▸ h ▸ g ▸ rfl
theorem zsx{i:Nat}{ops:Array Oper}{l l':List Nat}{r:List O}(h1:(ops.all λo=>zf0 N o.dst)=true)(h2:zdF false P ops=some (l,l'))(h3:(l ++ l').flatMap (zjV P N ops)=r):zbJ P N (.region i ops true)=.reg true false r:=by
 subst h3; unfold zbJ; rw[h1,qcE,h2]
theorem fmN{α β:Type}{f:α->List β}:([]:List α).flatMap f=[]:=rfl
theorem zvS{f:Nat}{cm d:C}{rs:List RX}{fn:Func}{c:Code}(h0:P.funcs[f]? = some fn)(hb:fn.body=some c)(h1:(!wrF f && !(fn.name == "runtime.NumGoroutine") && fn.results.toList.all (zix P))=true)(hN:fn.ntmps=N)(hr:fn.results.toList.map (zjf P)=rs)(h2:zbJ P N c=d)(h3:zbr false d=cm):zq6 P f=some (N,cm,rs,false):=by
 subst hN hr h2 h3;unfold zq6 zhc;simp only[h0,hb,h1,qcE]
end
variable{cm:C}{rs:List RX}
theorem zvB{f N:Nat}(h:zq6 Try.prog f=some (N,cm,rs,false)):znz mC f=some (N,cm,rs,false):=by
 refine zea ?_;unfold zq6 at h;cases hc:zhc Try.prog f<;>rw[hc]at h
 .exact h
 exact h
variable{res:D}
theorem fnO{f N:Nat}{args:List D}(h:zq6 Try.prog f=some (N,cm,rs,false))(hb:EvL mC 0 [.code cm] ⟨N,zdx 0 args,[]⟩ (zbT rs res))(ho:isO f=false:=by rfl)(hN:Nat.ble args.length N=true:=by rfl):Lx.Fn mC f args res:=
 Fn.of (zvB h) (zdc ho) (qai hN) hb
theorem zw4{f N:Nat}{args:List D}(h:zq6 Try.prog f=some (N,cm,rs,false))(hb:EvL mC 0 [.code cm] ⟨N,zdx 0 args,[]⟩ (zqs rs res))(ho:isO f=false:=by rfl)(hN:Nat.ble args.length N=true:=by rfl):Lx.FnA mC f args res:=
 FnA.of (zvB h) (zdc ho) (qai hN) hb
theorem gnO{f N:Nat}{args:List D}(hb:EvL mC 0 [.code cm] ⟨N,zdx 0 args,[]⟩ (zbT rs res))(h:zq6 Try.prog f=some (N,cm,rs,false):=by apply zvS; exact rfl; exact rfl; exact rfl; repeat' with_reducible first | exact zpV | exact zsM | exact zoJ | exact zlg | apply zsy | apply zpl rfl | apply zk8 | apply zok | apply cpScope | apply zkV rfl rfl | apply plS | exact pl0 | apply pl1 | apply pl2 | apply pl3 | (conv=>lhs; cbv)| apply cpRegF | apply zsx | apply zoQ | apply fmA | exact fmN | apply fmC)(ho:isO f=false:=by rfl)(hN:Nat.ble args.length N=true:=by rfl):Lx.Fn mC f args res:=fnO h hb ho hN
theorem zwt{f N:Nat}{args:List D}(hb:EvL mC 0 [.code cm] ⟨N,zdx 0 args,[]⟩ (zqs rs res))(h:zq6 Try.prog f=some (N,cm,rs,false):=by apply zvS; exact rfl; exact rfl; exact rfl; repeat' with_reducible first | exact zpV | exact zsM | exact zoJ | exact zlg | apply zsy | apply zpl rfl | apply zk8 | apply zok | apply cpScope | apply zkV rfl rfl | apply plS | exact pl0 | apply pl1 | apply pl2 | apply pl3 | (conv=>lhs; cbv)| apply cpRegF | apply zsx | apply zoQ | apply fmA | exact fmN | apply fmC)(ho:isO f=false:=by rfl)(hN:Nat.ble args.length N=true:=by rfl):Lx.FnA mC f args res:=zw4 h hb ho hN
end Go.Dc
