/-
 The machine of the program; the closed checks are known to be true. Conditions: none.
-/
import Derived.Test.YtbjogdohfhdaiaaGreatESDc4
import Derived.Test.YtbjogdohfhdaiaaGreatRows
import Derived.Test.YtbjogdohfhdaiaaGreatESMxJ
namespace Go.Dc
open Go Go.Mx Go.Lx Go.Proofs
def rg(l:List O):C:=.reg false false l
def oM(a b:Nat):O:=⟨some a,.mov (.s b),none⟩
def oMg(a b g:Nat)(t:Bool):O:=⟨some a,.mov (.s b),some (g,t)⟩
def oL(a b:Nat):O:=⟨some a,.load none (.s b),none⟩
def oLg(a b g:Nat)(t:Bool):O:=⟨some a,.load none (.s b),some (g,t)⟩
def oN(a n b:Nat):O:=⟨some a,.load (some n) (.s b),none⟩
def oF(a n b:Nat):O:=⟨some a,.fld n (.s b),none⟩
def oFg(a n b g:Nat)(t:Bool):O:=⟨some a,.fld n (.s b),some (g,t)⟩
def oI(a n b c:Nat):O:=⟨some a,.idxS n (.s b) (.s c),none⟩
def oE(a b:Nat):O:=⟨some a,.len (.s b),none⟩
def oX(a b n:Nat):O:=⟨some a,.ext (.s b) n,none⟩
def oW(a b:Nat):O:=⟨some a,.box (.s b),none⟩
def oZ(a b:Nat):O:=⟨some a,.nilck (.s b),none⟩
def oS(n b c:Nat):O:=⟨none,.store n (.s b) (.s c),none⟩
def oP(a b c:Nat):O:=⟨some a,.pick (.s b) (.c (.bool true)) (.s c),none⟩
def oU(a f b:Nat):O:=⟨some a,.call f [.s b],none⟩
def oV(a f b c:Nat):O:=⟨some a,.call f [.s b,.s c],none⟩
def oT(a n k b c:Nat):O:=⟨some a,.app n k (.s b) (.s c),none⟩
def oK(a:Nat)(n:Int):O:=⟨some a,.mov (.c (.int .i64 n)),none⟩
def oJ(a:Nat)(t:Bool):O:=⟨some a,.mov (.c (.bool t)),none⟩
def oB(a:Nat)(p:BinOp)(b c:Nat):O:=⟨some a,.bin p (.s b) (.s c),none⟩
def oD(a:Nat)(p:BinOp)(b:Nat)(n:Int):O:=⟨some a,.bin p (.s b) (.c (.int .i64 n)),none⟩
def oDg(a:Nat)(p:BinOp)(b:Nat)(n:Int)(g:Nat)(t:Bool):O:=⟨some a,.bin p (.s b) (.c (.int .i64 n)),some (g,t)⟩
def oDu(a:Nat)(p:BinOp)(b:Nat)(n:Int):O:=⟨some a,.bin p (.s b) (.c (.int .u64 n)),none⟩
theorem msq{L:List LB}{ac:List Lx.Act}{E r:List (Nat×D)}{k:Nat}{d:D}(hr:MEs L ac E r)(h:lk E k=some d:=by rfl)(hk:d.kin (isK ac):=by first | exact rfl | exact trivial):MEs L ac E ((k,d):: r):=ms h hk hr
theorem wm0{N:Nat}{E E':List (Nat×D)}{L L':List LB}(ac:List Lx.Act)(hL:MBs L ac 0 L L')(hE:MEs L ac E E':=by repeat' first | exact trivial | exact rfl | refine ms ?_ ?_ ?_ | refine⟨?_,?_⟩)(hl:zp0 ac L'.length=true:=by rfl):zbP 0 ⟨N,E,L⟩ ⟨N,E',L'⟩:=zbP.m0 ac hl hE hL
theorem lfj{α:Type}{T T':α→LSt}{P:α→Prop}{o:α}{k:Nat}{S:LSt}(hT:T=T')(hp:P o)(h:zbP k S (T' o)):∃ a,P a∧zbP k S (T a):=⟨o,hp,hT ▸ h⟩
theorem mkT{α:Type}(f:α→LSt):∃ T:α→LSt,T=f:=⟨_,rfl⟩
theorem zss:(∀ l:List O,rg l=C.reg false false l)∧(∀(a b:Nat),oM a b=(⟨some a,.mov (.s b),none⟩:O))∧
 (∀(a b g:Nat) (t:Bool),oMg a b g t=(⟨some a,.mov (.s b),some (g,t)⟩:O))∧
 (∀(a b:Nat),oL a b=(⟨some a,.load none (.s b),none⟩:O))∧
 (∀(a b g:Nat) (t:Bool),oLg a b g t=(⟨some a,.load none (.s b),some (g,t)⟩:O))∧
 (∀(a n b:Nat),oN a n b=(⟨some a,.load (some n) (.s b),none⟩:O))∧
 (∀(a n b:Nat),oF a n b=(⟨some a,.fld n (.s b),none⟩:O))∧
 (∀(a n b g:Nat) (t:Bool),oFg a n b g t=(⟨some a,.fld n (.s b),some (g,t)⟩:O))∧
 (∀(a n b c:Nat),oI a n b c=(⟨some a,.idxS n (.s b) (.s c),none⟩:O))∧
 (∀(a b:Nat),oE a b=(⟨some a,.len (.s b),none⟩:O))∧
 (∀(a b n:Nat),oX a b n=(⟨some a,.ext (.s b) n,none⟩:O))∧
 (∀(a b:Nat),oW a b=(⟨some a,.box (.s b),none⟩:O))∧
 (∀(a b:Nat),oZ a b=(⟨some a,.nilck (.s b),none⟩:O))∧
 (∀(n b c:Nat),oS n b c=(⟨none,.store n (.s b) (.s c),none⟩:O))∧
 (∀(a b c:Nat),oP a b c=(⟨some a,.pick (.s b) (.c (.bool true)) (.s c),none⟩:O))∧
 (∀(a f b:Nat),oU a f b=(⟨some a,.call f [.s b],none⟩:O))∧
 (∀(a f b c:Nat),oV a f b c=(⟨some a,.call f [.s b,.s c],none⟩:O))∧
 (∀(a n k b c:Nat),oT a n k b c=(⟨some a,.app n k (.s b) (.s c),none⟩:O))∧
 (∀(a:Nat) (n:Int),oK a n=(⟨some a,.mov (.c (.int .i64 n)),none⟩:O))∧
 (∀(a:Nat) (t:Bool),oJ a t=(⟨some a,.mov (.c (.bool t)),none⟩:O))∧
 (∀(a:Nat) (p:BinOp) (b c:Nat),oB a p b c=(⟨some a,.bin p (.s b) (.s c),none⟩:O))∧
 (∀(a:Nat) (p:BinOp) (b:Nat) (n:Int),oD a p b n=(⟨some a,.bin p (.s b) (.c (.int .i64 n)),none⟩:O))∧
 (∀(a:Nat) (p:BinOp) (b:Nat) (n:Int) (g:Nat) (t:Bool),oDg a p b n g t=(⟨some a,.bin p (.s b) (.c (.int .i64 n)),some (g,t)⟩:O))∧
 (∀(a:Nat) (p:BinOp) (b:Nat) (n:Int),oDu a p b n=(⟨some a,.bin p (.s b) (.c (.int .u64 n)),none⟩:O)):=
 ⟨fun _=>rfl,fun _ _=>rfl,fun _ _ _ _=>rfl,fun _ _=>rfl,fun _ _ _ _=>rfl,fun _ _ _=>rfl,fun _ _ _=>rfl,fun _ _ _ _ _=>rfl,fun _ _ _ _=>rfl,fun _ _=>rfl,fun _ _ _=>rfl,fun _ _=>rfl,fun _ _=>rfl,fun _ _ _=>rfl,fun _ _ _=>rfl,fun _ _ _=>rfl,fun _ _ _ _=>rfl,fun _ _ _ _ _=>rfl,fun _ _=>rfl,fun _ _=>rfl,fun _ _ _ _=>rfl,fun _ _ _ _=>rfl,fun _ _ _ _ _ _=>rfl,fun _ _ _ _=>rfl⟩
def zyk:Orc:=fun B f args h=>match args with
 | []=>bif Nat.beq f 10 then some (.ret (.lit (.bool true)),h)else none
 | a :: r=>zow B f (a :: r) h
def isO(f:Nat):Bool:=Nat.beq f 10 || isX f
noncomputable def mC:Mach:=⟨ziJ Tryz.prog,zyk⟩
theorem zcj{f:Nat}(hf:isO f=false)(B:Nat)(args:List V)(h:zaj):mC.orc B f args h=none:=by
 unfold isO at hf;rw[Bool.or_eq_false_iff]at hf;show zyk B f args h=none;unfold zyk;cases args with
 | nil=>simp only; rw[hf.1]; rfl
 | cons _ _=>exact zqX hf.2 _ _ _
def znv:Option Bool:=some true
theorem ztO{r:Bool}(h:znv=some r):Lx.Fn mC 10 [] (.lit (.bool r)):=by
 cases h;intro z B H vs hz hB hr;have hvs:vs=[]:=qb9.1 (by simpa using hr.1.symm);subst hvs;refine⟨1,.ret (.lit (.bool true)),H,fun n hn=>?_,qan _,fun _ _=>rfl,_,fun _=>none,rfl,fun b cs hb=>(by cases hb),.lit _⟩;obtain⟨n,rfl⟩:∃ k,n=k+1:=⟨n - 1,by omega⟩;rfl
def zzS(P:Program)(f:Nat):Option (Nat×C×List RX×Bool):=match zjG P f with
 | some fn=>some (fn.N,zbB false fn.c,fn.rs,fn.p)
 | none=>none
theorem zBf{f N:Nat}{cm:C}{rs:List RX}(h:zzS Tryz.prog f=some (N,cm,rs,false)):zl2 mC f=some (N,cm,rs,false):=by
 refine zcP ?_;unfold zzS at h;cases hc:zjG Tryz.prog f<;>rw[hc]at h
 ·exact h
 exact h
theorem fnO{f N:Nat}{cm:C}{rs:List RX}{args:List D}{res:D}(h:zzS Tryz.prog f=some (N,cm,rs,false))(hb:EvL mC 0 [.code cm] ⟨N,zek 0 args,[]⟩ (zeb rs res))(ho:isO f=false:=by rfl)(hN:Nat.ble args.length N=true:=by rfl):Lx.Fn mC f args res:=
 Fn.of (zBf h) (zcj ho) (qai hN) hb
theorem zCy{f N:Nat}{cm:C}{rs:List RX}{args:List D}{res:D}(h:zzS Tryz.prog f=some (N,cm,rs,false))(hb:EvL mC 0 [.code cm] ⟨N,zek 0 args,[]⟩ (zmU rs res))(ho:isO f=false:=by rfl)(hN:Nat.ble args.length N=true:=by rfl):Lx.FnA mC f args res:=
 FnA.of (zBf h) (zcj ho) (qai hN) hb
end Go.Dc
set_option maxRecDepth 100000
set_option maxHeartbeats 4000000
namespace Go.Dc
open Go Go.Mx Go.Lx Go.Proofs
structure S_api_Factor where
 vars:(List Int)
 zay:(List Int)
 w:(List Int)
 deriving Inhabited,DecidableEq
structure A8_Intu8 where
 a0:Int
 a1:Int
 a2:Int
 a3:Int
 a4:Int
 a5:Int
 a6:Int
 a7:Int
 deriving Inhabited,DecidableEq
def zh5:En A8_Intu8:=eM (fun x=>(x.a0,x.a1,x.a2,x.a3,x.a4,x.a5,x.a6,x.a7)) (eP (eI .u8) (eP (eI .u8) (eP (eI .u8) (eP (eI .u8) (eP (eI .u8) (eP (eI .u8) (eP (eI .u8) (eI .u8))))))))
structure S_api_Node where
 zaD:Int
 parents:(List Int)
 rows:(List (List Int))
 deriving Inhabited,DecidableEq
def zab:En S_api_Node:=eM (fun x=>(x.zaD,x.parents,x.rows)) (eP (eI .i64) (eP (eL (eI .i64)) (eL (eL (eI .i64)))))
theorem zak(t:Bool)(x:S_api_Node):zab.c t x=[(dI x.zaD),(fzE t (eI .i64) x.parents),(fzE t (eL (eI .i64)) x.rows)]:=rfl
structure S_api_Net where
 grain:Int
 nodes:(List S_api_Node)
 deriving Inhabited,DecidableEq
def zp2:En S_api_Net:=eM (fun x=>(x.grain,x.nodes)) (eP (eI .i64) (eL zab))
theorem zaL(t:Bool)(x:S_api_Net):zp2.c t x=[(dI x.grain),(fzE t zab x.nodes)]:=rfl
structure S_haruspexref05_Piece where
 zaD:Int
 parents:Int
 w:(List Int)
 deriving Inhabited,DecidableEq
def zah:En S_haruspexref05_Piece:=eM (fun x=>(x.zaD,x.parents,x.w)) (eP (eI .u8) (eP (eI .u8) (eL (eI .u8))))
theorem zcu(t:Bool)(x:S_haruspexref05_Piece):zah.c t x=[(dU8 x.zaD),(dU8 x.parents),(fzE t (eI .u8) x.w)]:=rfl
structure S_haruspexref05_Draft where
 grain:Int
 nodes:(List S_haruspexref05_Piece)
 order:(List Int)
 deriving Inhabited,DecidableEq
def zcU:En S_haruspexref05_Draft:=eM (fun x=>(x.grain,x.nodes,x.order)) (eP (eI .u8) (eP (eL zah) (eL (eI .u8))))
def zaf:En S_api_Node:=eM (fun x=>(x.zaD,x.parents,x.rows)) (eP (eI .i64) (eP (eN (eI .i64)) (eN (eL (eI .i64)))))
theorem zdY(t:Bool)(x:S_api_Node):zaf.c t x=[(dI x.zaD),(nE t (eI .i64) x.parents),(nE t (eL (eI .i64)) x.rows)]:=rfl
theorem zcK{L:List LB}{t u:Bool}(h:u=true→t=true)(x:S_api_Node):Snps L u (zaf.c t x) (zab.c u x):=(.cons (.lit _) (.cons (znk _ _ h) (.cons (znk _ _ h) .nil)))
theorem zh4{L:List LB}{t u:Bool}(h:u=true→t=true)(xs:List S_api_Node):Pw (Snp L u) (xs.map (zaf.c t)) (xs.map (zab.c u)):=Pw.map (fun x=>⟨(zcK (L:=L) h x).len,(zcK (L:=L) h x).get⟩) xs
structure S_haruspexref02_Draft where
 c:(List Int)
 which:Int
 order:(List Int)
 deriving Inhabited,DecidableEq
structure S_factor_table where
 factor:S_api_Factor
 steps:(List Int)
 deriving Inhabited,DecidableEq
structure S_eliminate_query where
 net:S_api_Net
 known:(List Int)
 node:Int
 deriving Inhabited,DecidableEq
structure S_net_network where
 net:S_api_Net
 zay:(List Int)
 sets:(List Int)
 order:(List Int)
 deriving Inhabited,DecidableEq
structure S_haruspexref05_Known where
 which:Int
 v:A8_Intu8
 deriving Inhabited,DecidableEq
def zcV:En S_haruspexref05_Known:=eM (fun x=>(x.which,x.v)) (eP (eI .u8) zh5)
structure S_haruspexlaw09_Ask where
 known:S_haruspexref05_Known
 v:Int
 l:A8_Intu8
 e:(List Int)
 order:(List Int)
 deriving Inhabited,DecidableEq
def zca:En S_haruspexlaw09_Ask:=eM (fun x=>(x.known,x.v,x.l,x.e,x.order)) (eP zcV (eP (eI .i64) (eP zh5 (eP (eL (eI .i64)) (eL (eI .i64))))))
theorem zeH(t:Bool)(x:S_haruspexlaw09_Ask):zca.c t x=[(dU8 x.known.which),(dU8 x.known.v.a0),(dU8 x.known.v.a1),(dU8 x.known.v.a2),(dU8 x.known.v.a3),(dU8 x.known.v.a4),(dU8 x.known.v.a5),(dU8 x.known.v.a6),(dU8 x.known.v.a7),(dI x.v),(dU8 x.l.a0),(dU8 x.l.a1),(dU8 x.l.a2),(dU8 x.l.a3),(dU8 x.l.a4),(dU8 x.l.a5),(dU8 x.l.a6),(dU8 x.l.a7),(fzE t (eI .i64) x.e),(fzE t (eI .i64) x.order)]:=rfl
structure A4_S_haruspexlaw09_Ask where
 a0:S_haruspexlaw09_Ask
 a1:S_haruspexlaw09_Ask
 a2:S_haruspexlaw09_Ask
 a3:S_haruspexlaw09_Ask
 deriving Inhabited,DecidableEq
end Go.Dc
namespace Go.Dc
open Go Go.Mx Go.Lx Go.Proofs
section
variable {c:Cx} {L:List LB} {H:zaj} {B:Nat} {k0:Nat} {S:LSt} {Q:LX→LSt→Prop} {bar e:Bool}
def zx1(xs:List Int)(i j:Int):Option (List Int):=if(0≤i∧i≤j∧j≤xs.length)∧0<xs.length then some (xs.take i.toNat ++ xs.drop j.toNat)else none
end
end Go.Dc
namespace Go.Dc
open Go Go.Mx Go.Lx
theorem zwu:znv=some true:=rfl
end Go.Dc
