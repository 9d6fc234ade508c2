/-
 The machine of the program; the closed checks are known to be true. Conditions: none.
-/
import Derived.Test.YtbjogdohfhdaiaaCfDc4
import Derived.Test.YtbjogdohfhdaiaaRows
import Derived.Test.YtbjogdohfhdaiaaCfMo
set_option linter.unusedSimpArgs false
set_option linter.unusedVariables false
namespace Go.Dc
open Go Go.Mx Go.Lx Go.Proofs
def rg(l:List O):C:=.reg false false l
def oM(a b:Nat):O:=⟨some a,.mov (.s b),none⟩
def oMg(a b g:Nat)(t:Bool):O:=⟨some a,.mov (.s b),some (g,t)⟩
def oL(a b:Nat):O:=⟨some a,.load none (.s b),none⟩
def oLg(a b g:Nat)(t:Bool):O:=⟨some a,.load none (.s b),some (g,t)⟩
def oN(a n b:Nat):O:=⟨some a,.load (some n) (.s b),none⟩
def oF(a n b:Nat):O:=⟨some a,.fld n (.s b),none⟩
def oFg(a n b g:Nat)(t:Bool):O:=⟨some a,.fld n (.s b),some (g,t)⟩
def oI(a n b c:Nat):O:=⟨some a,.idxS n (.s b) (.s c),none⟩
def oE(a b:Nat):O:=⟨some a,.len (.s b),none⟩
def oX(a b n:Nat):O:=⟨some a,.ext (.s b) n,none⟩
def oW(a b:Nat):O:=⟨some a,.box (.s b),none⟩
def oZ(a b:Nat):O:=⟨some a,.nilck (.s b),none⟩
def oS(n b c:Nat):O:=⟨none,.store n (.s b) (.s c),none⟩
def oP(a b c:Nat):O:=⟨some a,.pick (.s b) (.c (.bool true)) (.s c),none⟩
def oU(a f b:Nat):O:=⟨some a,.call f [.s b],none⟩
def oV(a f b c:Nat):O:=⟨some a,.call f [.s b,.s c],none⟩
def oT(a n k b c:Nat):O:=⟨some a,.app n k (.s b) (.s c),none⟩
def oK(a:Nat)(n:Int):O:=⟨some a,.mov (.c (.int .i64 n)),none⟩
def oJ(a:Nat)(t:Bool):O:=⟨some a,.mov (.c (.bool t)),none⟩
def oB(a:Nat)(p:BinOp)(b c:Nat):O:=⟨some a,.bin p (.s b) (.s c),none⟩
def oD(a:Nat)(p:BinOp)(b:Nat)(n:Int):O:=⟨some a,.bin p (.s b) (.c (.int .i64 n)),none⟩
def oDg(a:Nat)(p:BinOp)(b:Nat)(n:Int)(g:Nat)(t:Bool):O:=⟨some a,.bin p (.s b) (.c (.int .i64 n)),some (g,t)⟩
def oDu(a:Nat)(p:BinOp)(b:Nat)(n:Int):O:=⟨some a,.bin p (.s b) (.c (.int .u64 n)),none⟩
variable{E:List (Nat×D)}
theorem msq{L:List LB}{ac:List Lx.Act}{r:List (Nat×D)}{k:Nat}{d:D}(hr:MEs L ac E r)(h:lk E k=some d:=by rfl)(hk:d.kin (isK ac):=by first | exact rfl | exact trivial):MEs L ac E ((k,d):: r):=ms h hk hr
theorem wm0{N:Nat}{E':List (Nat×D)}{L L':List LB}(ac:List Lx.Act)(hL:MBs L ac 0 L L')(hE:MEs L ac E E':=by repeat' first | exact trivial | exact rfl | refine ms ?_ ?_ ?_ | refine⟨?_,?_⟩)(hl:zlY ac L'.length=true:=by rfl):zaT 0 ⟨N,E,L⟩ ⟨N,E',L'⟩:=zaT.m0 ac hl hE hL
theorem lfj{α:Type}{T T':α->LSt}{P:α->Prop}{o:α}{k:Nat}{S:LSt}(hT:T=T')(hp:P o)(h:zaT k S (T' o)):∃ a,P a/\zaT k S (T a):=⟨o,hp,hT ▸ h⟩
theorem mkT{α:Type}(f:α->LSt):∃ T:α->LSt,T=f:=⟨_,rfl⟩
theorem zqj:(∀ l:List O,rg l=C.reg false false l)/\(∀(a b:Nat),oM a b=(⟨some a,.mov (.s b),none⟩:O))/\
 (∀(a b g:Nat) (t:Bool),oMg a b g t=(⟨some a,.mov (.s b),some (g,t)⟩:O))/\
 (∀(a b:Nat),oL a b=(⟨some a,.load none (.s b),none⟩:O))/\
 (∀(a b g:Nat) (t:Bool),oLg a b g t=(⟨some a,.load none (.s b),some (g,t)⟩:O))/\
 (∀(a n b:Nat),oN a n b=(⟨some a,.load (some n) (.s b),none⟩:O))/\
 (∀(a n b:Nat),oF a n b=(⟨some a,.fld n (.s b),none⟩:O))/\
 (∀(a n b g:Nat) (t:Bool),oFg a n b g t=(⟨some a,.fld n (.s b),some (g,t)⟩:O))/\
 (∀(a n b c:Nat),oI a n b c=(⟨some a,.idxS n (.s b) (.s c),none⟩:O))/\
 (∀(a b:Nat),oE a b=(⟨some a,.len (.s b),none⟩:O))/\
 (∀(a b n:Nat),oX a b n=(⟨some a,.ext (.s b) n,none⟩:O))/\
 (∀(a b:Nat),oW a b=(⟨some a,.box (.s b),none⟩:O))/\
 (∀(a b:Nat),oZ a b=(⟨some a,.nilck (.s b),none⟩:O))/\
 (∀(n b c:Nat),oS n b c=(⟨none,.store n (.s b) (.s c),none⟩:O))/\
 (∀(a b c:Nat),oP a b c=(⟨some a,.pick (.s b) (.c (.bool true)) (.s c),none⟩:O))/\
 (∀(a f b:Nat),oU a f b=(⟨some a,.call f [.s b],none⟩:O))/\
 (∀(a f b c:Nat),oV a f b c=(⟨some a,.call f [.s b,.s c],none⟩:O))/\
 (∀(a n k b c:Nat),oT a n k b c=(⟨some a,.app n k (.s b) (.s c),none⟩:O))/\
 (∀(a:Nat) (n:Int),oK a n=(⟨some a,.mov (.c (.int .i64 n)),none⟩:O))/\
 (∀(a:Nat) (t:Bool),oJ a t=(⟨some a,.mov (.c (.bool t)),none⟩:O))/\
 (∀(a:Nat) (p:BinOp) (b c:Nat),oB a p b c=(⟨some a,.bin p (.s b) (.s c),none⟩:O))/\
 (∀(a:Nat) (p:BinOp) (b:Nat) (n:Int),oD a p b n=(⟨some a,.bin p (.s b) (.c (.int .i64 n)),none⟩:O))/\
 (∀(a:Nat) (p:BinOp) (b:Nat) (n:Int) (g:Nat) (t:Bool),oDg a p b n g t=(⟨some a,.bin p (.s b) (.c (.int .i64 n)),some (g,t)⟩:O))/\
 (∀(a:Nat) (p:BinOp) (b:Nat) (n:Int),oDu a p b n=(⟨some a,.bin p (.s b) (.c (.int .u64 n)),none⟩:O)):=
 ⟨λ_=>rfl,λ_ _=>rfl,λ_ _ _ _=>rfl,λ_ _=>rfl,λ_ _ _ _=>rfl,λ_ _ _=>rfl,λ_ _ _=>rfl,λ_ _ _ _ _=>rfl,λ_ _ _ _=>rfl,λ_ _=>rfl,λ_ _ _=>rfl,λ_ _=>rfl,λ_ _=>rfl,λ_ _ _=>rfl,λ_ _ _=>rfl,λ_ _ _=>rfl,λ_ _ _ _=>rfl,λ_ _ _ _ _=>rfl,λ_ _=>rfl,λ_ _=>rfl,λ_ _ _ _=>rfl,λ_ _ _ _=>rfl,λ_ _ _ _ _ _=>rfl,λ_ _ _ _=>rfl⟩
def zAc:Orc:=λB f args h=>match args with
 | []=>bif Nat.beq f 8 then some (.ret (.lit (.bool true)),h)else none
 | a :: r=>zvs B f (a :: r) h
def isO(f:Nat):Bool:=Nat.beq f 8 || isX f
noncomputable def mC:Mach:=⟨ziS Try.prog,zAc⟩
theorem zbG{f:Nat}(hf:isO f=false)(B:Nat)(args:List V)(h:zaj):mC.orc B f args h=none:=by
 unfold isO at hf;rw[Bool.or_eq_false_iff]at hf;show zAc B f args h=none;unfold zAc;cases args with
 | nil=>simp only; rw[hf.1]; rfl
 | cons _ _=>exact zrQ hf.2 _ _ _
theorem zvR(B f:Nat)(a:V)(r:List V)(h:zaj):mC.orc B f (a :: r) h=zvs B f (a :: r) h:=rfl
def zoz:Option Bool:=some true
theorem zwf{r:Bool}(h:zoz=some r):Lx.Fn mC 8 [] (.lit (.bool r)):=by
 cases h;intro z B H vs hz hB hr;have hvs:vs=[]:=qa5.1 (by simpa using hr.1.symm);subst hvs;refine⟨1,.ret (.lit (.bool true)),H,λn hn=>?_,qap _,λ_ _=>rfl,_,λ_=>none,rfl,λb cs hb=>(by cases hb),.lit _⟩;obtain⟨n,rfl⟩:∃ k,n=k+1:=⟨n - 1,by omega⟩;rfl
def zvl(P:Program)(f:Nat):Option (Nat×C×List RX×Bool):=match zhH P f with
 | some fn=>some (fn.N,zbx false fn.c,fn.rs,fn.p)
 | none=>none
def zvH(bar:Bool)(P:Program)(ops:Array Oper)(s:List Bool):Nat×Nat:=
 match (zd8 ops s).find? λi=>zag (zck P ops i) && zlI ops s i && (!ztN ops i || zn1 bar P ops s.toArray i)with
 | some i=>(1,i)
 | none=>match zd8 ops s with
  | []=>(0,0)
  | [i]=>bif zeZ bar (zck P ops i)|| wrI (zck P ops i)then(1,i)else(3,0)
  | i :: j :: l=>bif zxH bar P ops s (i :: j :: l) (zfZ bar P ops s (i :: j :: l))then(2,zfZ bar P ops s (i :: j :: l))else(4,0)
def zyd(bar:Bool)(P:Program)(ops:Array Oper)(f:Nat)(s:List Bool)(x:Nat×Nat)(l l':List Nat):Prop:=zvH bar P ops s=x->zg7 bar P ops f s=some (l,l')
section
variable {P:Program} {bar:Bool} {ops:Array Oper} {s s':List Bool} {l l':List Nat} {f i:Nat}
theorem plS{x:Nat×Nat}(h:zvH bar P ops s=x)(g:zyd bar P ops f s x l l'):zg7 bar P ops f s=some (l,l'):=g h
theorem pl1(hs:s.set i true=s')(r:zg7 bar P ops f s'=some (l,l')):zyd bar P ops (f+1) s (1,i) (i :: l) l':=by
 intro h;subst hs;unfold zvH at h;unfold zg7;cases hf:(zd8 ops s).find? λi=>zag (zck P ops i) && zlI ops s i && (!ztN ops i || zn1 bar P ops s.toArray i)with
 | some k=>rw[hf]at h; cases h; simp only[zhl,r,qaM]
 | none=>
  rw[hf]at h
  match hr:zd8 ops s,h with
  | [],h=>cases h
  | [k],h=>simp only at h; cases he:zeZ bar (zck P ops k)|| wrI (zck P ops k)<;> rw[he]at h<;>cases h; simp only[qdl,zhl,r,qaM]; try simp only[he,qdl]
  | k :: j :: q,h=>simp only at h; cases he:zxH bar P ops s (k :: j :: q) (zfZ bar P ops s (k :: j :: q))<;> rw[he]at h<;>cases h
theorem pl3(r:zim P ops (f+1) s=some l'):zyd bar P ops (f+1) s (3,0) [] l':=by
 intro h;unfold zvH at h;unfold zg7;cases hf:(zd8 ops s).find? λi=>zag (zck P ops i) && zlI ops s i && (!ztN ops i || zn1 bar P ops s.toArray i)with
 | some k=>rw[hf]at h; cases h
 | none=>
  rw[hf]at h
  match hr:zd8 ops s,h with
  | [],h=>cases h
  | [k],h=>
   simp only at h;cases he:zeZ bar (zck P ops k)|| wrI (zck P ops k)with
   | true=>rw[he]at h; cases h
   | false=>simp only[he,qdm,r,qaM]
  | k :: j :: q,h=>simp only at h; cases he:zxH bar P ops s (k :: j :: q) (zfZ bar P ops s (k :: j :: q))<;> rw[he]at h<;>cases h
theorem zue{n:Nat}(h1:(Region.noSelect ops && zgc ops && zzh P ops)=true)(hn:ops.size=n)(hs:List.replicate n false=s)(h:zg7 bar P ops n s=some (l,l')):zeE bar P ops=some (l,l'):=by
 subst hs hn;unfold zeE zyA;rw[if_pos h1,zb5,h]
end
section
variable {P:Program} {N:Nat} {a b:Code} {a' b':C}
theorem zt1:zbM P N .skip=.skip:=rfl
theorem zyV:zbM P N .ret=.ret:=rfl
theorem ztT{i:Nat}:zbM P N (.exit i)=.exit i:=rfl
theorem zoh{i:Nat}:zbM P N (.label i)=.label i:=rfl
theorem zyr(h:zbM P N a=a')(g:zbM P N b=b'):zbM P N (.seq a b)=.seq a' b':=h ▸ g ▸ rfl
theorem zr7{c:Operand}{x:Mx.X}(e:opX c=x)(h:zbM P N a=a')(g:zbM P N b=b'):zbM P N (.cond c a b)=.cond x a' b':=e ▸ h ▸ g ▸ rfl
theorem zow{i:Nat}(h:zbM P N a=a'):zbM P N (.block i a)=.block i a':=h ▸ rfl
theorem ztW(h:zbM P N a=a'):zbM P N (.loop a)=.loop a':=h ▸ rfl
theorem znO(h:zbM P N a=a'):zbM P N (.scope a)=.scope a':=h ▸ rfl
theorem znL{c:Operand}{x:Mx.X}{ps:Array Nat}{l:List Nat}(e:opX c=x)(el:ps.toList=l)(h:zbM P N a=a')(g:zbM P N b=b'):zbM P N (.rangeFunc c ps a b)=.zeG x l a' b':=e ▸ el ▸ h ▸ g ▸ rfl
theorem zy7{i:Nat}{ops:Array Oper}{l l':List Nat}{r:List O}(h1:(ops.all λo=>zha N o.dst)=true)(h2:zeE false P ops=some (l,l'))(h3:(l ++ l').flatMap (zmG P N ops)=r):zbM P N (.region i ops true)=.reg true false r:=by
 subst h3; unfold zbM; rw[h1,qdl,h2]
theorem fmN{α β:Type}{f:α->List β}:([]:List α).flatMap f=[]:=rfl
theorem zCa{f:Nat}{cm d:C}{rs:List RX}{fn:Func}{c:Code}(h0:P.funcs[f]? = some fn)(hb:fn.body=some c)(h1:(!wrF f && !(fn.name == "runtime.NumGoroutine") && fn.results.toList.all (zk9 P))=true)(hN:fn.ntmps=N)(hr:fn.results.toList.map (zle P)=rs)(h2:zbM P N c=d)(h3:zbx false d=cm):zvl P f=some (N,cm,rs,false):=by
 subst hN hr h2 h3;unfold zvl zhH;simp only[h0,hb,h1,qdl]
end
variable{cm:C}{rs:List RX}
theorem zCQ{f N:Nat}(h:zvl Try.prog f=some (N,cm,rs,false)):zlG mC f=some (N,cm,rs,false):=by
 refine zcr ?_;unfold zvl at h;cases hc:zhH Try.prog f<;>rw[hc]at h
 .exact h
 exact h
variable{args:List D}{res:D}
theorem fnO{f N:Nat}(h:zvl Try.prog f=some (N,cm,rs,false))(hb:EvL mC 0 [.code cm] ⟨N,zd4 0 args,[]⟩ (zg4 rs res))(ho:isO f=false:=by rfl)(hN:Nat.ble args.length N=true:=by rfl):Lx.Fn mC f args res:=
 Fn.of (zCQ h) (zbG ho) (qah hN) hb
theorem zDw{f N:Nat}(h:zvl Try.prog f=some (N,cm,rs,false))(hb:EvL mC 0 [.code cm] ⟨N,zd4 0 args,[]⟩ (zpl rs res))(ho:isO f=false:=by rfl)(hN:Nat.ble args.length N=true:=by rfl):Lx.FnA mC f args res:=
 FnA.of (zCQ h) (zbG ho) (qah hN) hb
theorem gnO{f N:Nat}(hb:EvL mC 0 [.code cm] ⟨N,zd4 0 args,[]⟩ (zg4 rs res))(h:zvl Try.prog f=some (N,cm,rs,false):=by apply zCa; exact rfl; exact rfl; exact rfl; repeat' with_reducible first | exact zt1 | exact zyV | exact ztT | exact zoh | apply zyr | apply zr7 rfl | apply zow | apply ztW | apply znO | apply znL rfl rfl | apply plS | exact pl0 | apply pl1 | apply pl2 | apply pl3 | (conv=>lhs; cbv)| apply cpRegF | apply zy7 | apply zue | apply fmA | exact fmN | apply fmC)(ho:isO f=false:=by rfl)(hN:Nat.ble args.length N=true:=by rfl):Lx.Fn mC f args res:=fnO h hb ho hN
theorem zzC{f N:Nat}(hb:EvL mC 0 [.code cm] ⟨N,zd4 0 args,[]⟩ (zpl rs res))(h:zvl Try.prog f=some (N,cm,rs,false):=by apply zCa; exact rfl; exact rfl; exact rfl; repeat' with_reducible first | exact zt1 | exact zyV | exact ztT | exact zoh | apply zyr | apply zr7 rfl | apply zow | apply ztW | apply znO | apply znL rfl rfl | apply plS | exact pl0 | apply pl1 | apply pl2 | apply pl3 | (conv=>lhs; cbv)| apply cpRegF | apply zy7 | apply zue | apply fmA | exact fmN | apply fmC)(ho:isO f=false:=by rfl)(hN:Nat.ble args.length N=true:=by rfl):Lx.FnA mC f args res:=zDw h hb ho hN
end Go.Dc
