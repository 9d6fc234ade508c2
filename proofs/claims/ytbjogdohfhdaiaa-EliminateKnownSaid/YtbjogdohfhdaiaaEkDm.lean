/-
 The machine of the program, and the library's functions. Conditions: none.
-/
import Derived.Test.YtbjogdohfhdaiaaEkDc3
import Derived.Test.YtbjogdohfhdaiaaRows
import Derived.Test.YtbjogdohfhdaiaaEkMo
namespace Go.Dc
open Go Go.Mx Go.Lx Go.Proofs
def rg(l:List O):C:=.reg false false l
def oM(a b:Nat):O:=⟨some a,.mov (.s b),none⟩
def oMg(a b g:Nat)(t:Bool):O:=⟨some a,.mov (.s b),some (g,t)⟩
def oL(a b:Nat):O:=⟨some a,.load none (.s b),none⟩
def oLg(a b g:Nat)(t:Bool):O:=⟨some a,.load none (.s b),some (g,t)⟩
def oN(a n b:Nat):O:=⟨some a,.load (some n) (.s b),none⟩
def oF(a n b:Nat):O:=⟨some a,.fld n (.s b),none⟩
def oFg(a n b g:Nat)(t:Bool):O:=⟨some a,.fld n (.s b),some (g,t)⟩
def oI(a n b c:Nat):O:=⟨some a,.idxS n (.s b) (.s c),none⟩
def oE(a b:Nat):O:=⟨some a,.len (.s b),none⟩
def oX(a b n:Nat):O:=⟨some a,.ext (.s b) n,none⟩
def oW(a b:Nat):O:=⟨some a,.box (.s b),none⟩
def oZ(a b:Nat):O:=⟨some a,.nilck (.s b),none⟩
def oS(n b c:Nat):O:=⟨none,.store n (.s b) (.s c),none⟩
def oP(a b c:Nat):O:=⟨some a,.pick (.s b) (.c (.bool true)) (.s c),none⟩
def oU(a f b:Nat):O:=⟨some a,.call f [.s b],none⟩
def oV(a f b c:Nat):O:=⟨some a,.call f [.s b,.s c],none⟩
def oT(a n k b c:Nat):O:=⟨some a,.app n k (.s b) (.s c),none⟩
def oK(a:Nat)(n:Int):O:=⟨some a,.mov (.c (.int .i64 n)),none⟩
def oJ(a:Nat)(t:Bool):O:=⟨some a,.mov (.c (.bool t)),none⟩
def oB(a:Nat)(p:BinOp)(b c:Nat):O:=⟨some a,.bin p (.s b) (.s c),none⟩
def oD(a:Nat)(p:BinOp)(b:Nat)(n:Int):O:=⟨some a,.bin p (.s b) (.c (.int .i64 n)),none⟩
def oDg(a:Nat)(p:BinOp)(b:Nat)(n:Int)(g:Nat)(t:Bool):O:=⟨some a,.bin p (.s b) (.c (.int .i64 n)),some (g,t)⟩
def oDu(a:Nat)(p:BinOp)(b:Nat)(n:Int):O:=⟨some a,.bin p (.s b) (.c (.int .u64 n)),none⟩
theorem msq{L:List LB}{ac:List Lx.Act}{E r:List (Nat×D)}{k:Nat}{d:D}(hr:MEs L ac E r)(h:lk E k=some d:=by rfl)(hk:d.kin (isK ac):=by first | exact rfl | exact trivial):MEs L ac E ((k,d):: r):=ms h hk hr
theorem wm0{N:Nat}{E E':List (Nat×D)}{L L':List LB}(ac:List Lx.Act)(hL:MBs L ac 0 L L')(hE:MEs L ac E E':=by repeat' first | exact trivial | exact rfl | refine ms ?_ ?_ ?_ | refine⟨?_,?_⟩)(hl:zle ac L'.length=true:=by rfl):zaV 0 ⟨N,E,L⟩ ⟨N,E',L'⟩:=zaV.m0 ac hl hE hL
theorem lfj{α:Type}{T T':α→LSt}{P:α→Prop}{o:α}{k:Nat}{S:LSt}(hT:T=T')(hp:P o)(h:zaV k S (T' o)):∃ a,P a∧zaV k S (T a):=⟨o,hp,hT ▸ h⟩
theorem mkT{α:Type}(f:α→LSt):∃ T:α→LSt,T=f:=⟨_,rfl⟩
theorem zlX:(∀ l:List O,rg l=C.reg false false l)∧(∀(a b:Nat),oM a b=(⟨some a,.mov (.s b),none⟩:O))∧
 (∀(a b g:Nat) (t:Bool),oMg a b g t=(⟨some a,.mov (.s b),some (g,t)⟩:O))∧
 (∀(a b:Nat),oL a b=(⟨some a,.load none (.s b),none⟩:O))∧
 (∀(a b g:Nat) (t:Bool),oLg a b g t=(⟨some a,.load none (.s b),some (g,t)⟩:O))∧
 (∀(a n b:Nat),oN a n b=(⟨some a,.load (some n) (.s b),none⟩:O))∧
 (∀(a n b:Nat),oF a n b=(⟨some a,.fld n (.s b),none⟩:O))∧
 (∀(a n b g:Nat) (t:Bool),oFg a n b g t=(⟨some a,.fld n (.s b),some (g,t)⟩:O))∧
 (∀(a n b c:Nat),oI a n b c=(⟨some a,.idxS n (.s b) (.s c),none⟩:O))∧
 (∀(a b:Nat),oE a b=(⟨some a,.len (.s b),none⟩:O))∧
 (∀(a b n:Nat),oX a b n=(⟨some a,.ext (.s b) n,none⟩:O))∧
 (∀(a b:Nat),oW a b=(⟨some a,.box (.s b),none⟩:O))∧
 (∀(a b:Nat),oZ a b=(⟨some a,.nilck (.s b),none⟩:O))∧
 (∀(n b c:Nat),oS n b c=(⟨none,.store n (.s b) (.s c),none⟩:O))∧
 (∀(a b c:Nat),oP a b c=(⟨some a,.pick (.s b) (.c (.bool true)) (.s c),none⟩:O))∧
 (∀(a f b:Nat),oU a f b=(⟨some a,.call f [.s b],none⟩:O))∧
 (∀(a f b c:Nat),oV a f b c=(⟨some a,.call f [.s b,.s c],none⟩:O))∧
 (∀(a n k b c:Nat),oT a n k b c=(⟨some a,.app n k (.s b) (.s c),none⟩:O))∧
 (∀(a:Nat) (n:Int),oK a n=(⟨some a,.mov (.c (.int .i64 n)),none⟩:O))∧
 (∀(a:Nat) (t:Bool),oJ a t=(⟨some a,.mov (.c (.bool t)),none⟩:O))∧
 (∀(a:Nat) (p:BinOp) (b c:Nat),oB a p b c=(⟨some a,.bin p (.s b) (.s c),none⟩:O))∧
 (∀(a:Nat) (p:BinOp) (b:Nat) (n:Int),oD a p b n=(⟨some a,.bin p (.s b) (.c (.int .i64 n)),none⟩:O))∧
 (∀(a:Nat) (p:BinOp) (b:Nat) (n:Int) (g:Nat) (t:Bool),oDg a p b n g t=(⟨some a,.bin p (.s b) (.c (.int .i64 n)),some (g,t)⟩:O))∧
 (∀(a:Nat) (p:BinOp) (b:Nat) (n:Int),oDu a p b n=(⟨some a,.bin p (.s b) (.c (.int .u64 n)),none⟩:O)):=
 ⟨fun _=>rfl,fun _ _=>rfl,fun _ _ _ _=>rfl,fun _ _=>rfl,fun _ _ _ _=>rfl,fun _ _ _=>rfl,fun _ _ _=>rfl,fun _ _ _ _ _=>rfl,fun _ _ _ _=>rfl,fun _ _=>rfl,fun _ _ _=>rfl,fun _ _=>rfl,fun _ _=>rfl,fun _ _ _=>rfl,fun _ _ _=>rfl,fun _ _ _=>rfl,fun _ _ _ _=>rfl,fun _ _ _ _ _=>rfl,fun _ _=>rfl,fun _ _=>rfl,fun _ _ _ _=>rfl,fun _ _ _ _=>rfl,fun _ _ _ _ _ _=>rfl,fun _ _ _ _=>rfl⟩
def zsO:Orc:=fun B f args h=>match args with
 | []=>none
 | a :: r=>ziZ B f (a :: r) h
def isO(f:Nat):Bool:=isX f
noncomputable def mC:Mach:=⟨zhS Try.prog,zsO⟩
theorem zaZ{f:Nat}(hf:isO f=false)(B:Nat)(args:List V)(h:zas):mC.orc B f args h=none:=by
 show zsO B f args h=none;unfold zsO;cases args with
 | nil=>rfl
 | cons _ _=>exact zpE hf _ _ _
theorem zpR(B f:Nat)(a:V)(r:List V)(h:zas):mC.orc B f (a :: r) h=ziZ B f (a :: r) h:=rfl
theorem zmf{L:List LB}{F:Nat→Bool}{t:Bool}{f:Nat}:Mz L F t (.clo f [] []) (.clo f [] []):=.clo rfl rfl (fun i d d' h=>by simp at h) fun i d d' h=>by simp at h
def zsu(P:Program)(f:Nat):Option (Nat×C×List RX×Bool):=match zlv P f with
 | some fn=>some (fn.N,zbY false fn.c,fn.rs,fn.p)
 | none=>none
theorem ztz{f N:Nat}{cm:C}{rs:List RX}(h:zsu Try.prog f=some (N,cm,rs,false)):zhM mC f=some (N,cm,rs,false):=by
 refine zbs ?_;unfold zsu at h;cases hc:zlv Try.prog f<;>rw[hc]at h
 ·exact h
 exact h
theorem fnO{f N:Nat}{cm:C}{rs:List RX}{args:List D}{res:D}(h:zsu Try.prog f=some (N,cm,rs,false))(hb:EvL mC 0 [.code cm] ⟨N,ze1 0 args,[]⟩ (za0 rs res))(ho:isO f=false:=by rfl)(hN:Nat.ble args.length N=true:=by rfl):Lx.Fn mC f args res:=
 Fn.of (ztz h) (zaZ ho) (qac hN) hb
theorem zqN{f N:Nat}{cm:C}{rs:List RX}{args:List D}{res:D}(h:zsu Try.prog f=some (N,cm,rs,false))(hb:EvL mC 0 [.code cm] ⟨N,ze1 0 args,[]⟩ (zfD rs res))(ho:isO f=false:=by rfl)(hN:Nat.ble args.length N=true:=by rfl):Lx.FnA mC f args res:=
 FnA.of (ztz h) (zaZ ho) (qac hN) hb
end Go.Dc
