/-
 Arithmetic for the kernel: the same numbers. Conditions: none.
-/
import Derived.Test.YtnfgibomhkbcpaaNfMxF
import Derived.Test.YtnfgibomhkbcpaaNfMx14
set_option linter.unusedSimpArgs false
set_option linter.unusedVariables false
namespace Go.Mx
open Go
def zzy:IntKind→Nat
 | .i8=>0 | .i16=>1 | .i32=>2 | .i64=>3 | .u8=>4 | .u16=>5 | .u32=>6 | .u64=>7
def kEq(k k':IntKind):Bool:=Nat.beq (zzy k) (zzy k')
theorem zwk(k k':IntKind):kEq k k'=(k == k'):=by cases k<;>cases k'<;>rfl
def zrw:IntKind→Nat
 | .i8 | .u8=>256
 | .i16 | .u16=>65536
 | .i32 | .u32=>4294967296
 | .i64 | .u64=>18446744073709551616
def zoV:IntKind→Nat
 | .i8=>128
 | .i16=>32768
 | .i32=>2147483648
 | .i64=>9223372036854775808
 | .u8=>256
 | .u16=>65536
 | .u32=>4294967296
 | .u64=>18446744073709551616
def zzr(k:IntKind)(m:Nat):Int:=bif Nat.ble (zoV k) m then .negSucc (Nat.sub (Nat.sub (zrw k) m) 1)else .ofNat m
def zoP(k:IntKind)(n:Int):Nat:=
 match n with
 | .ofNat a=>Nat.mod a (zrw k)
 | .negSucc a=>Nat.sub (Nat.sub (zrw k) 1) (Nat.mod a (zrw k))
def zgs(k:IntKind)(n:Int):Int:=zzr k (zoP k n)
theorem ztX(a b:Nat):Nat.mod a b=a % b:=rfl
theorem zqq(k:IntKind)(n:Int):((zoP k n:Nat):Int)=n % (2 ^ k.bits:Int):=by
 cases k<;>cases n with
 | ofNat a=>simp[zoP,zrw,IntKind.bits,ztX]
 | negSucc a=>
  simp only[zoP,zrw,IntKind.bits,ztX,Nat.sub_eq];have:(Int.negSucc a)= -((a:Int)+1):=rfl;rw[this];simp;omega
theorem zvZ(k:IntKind)(m:Nat)(hm:m<zrw k):zzr k m=(if k.signed && decide ((m:Int)≥(2 ^ (k.bits - 1):Int))then(m:Int) - (2 ^ k.bits:Int)else(m:Int)):=by
 unfold zzr;cases hb:Nat.ble (zoV k) m with
 | true=>
  have h1:=qaf hb;cases k<;>simp[zoV,zrw,IntKind.bits,IntKind.signed]at h1 hm ⊢<;>first
   |(rw[if_pos (by omega)]; rw[qb3]; omega)
   | omega
 | false=>
  have h1:m<zoV k:=by
   rcases qbf m (zoV k)with h0 | h0
   ·exact h0
   rw[qar h0]at hb; cases hb
  cases k<;>simp[zoV,zrw,IntKind.bits,IntKind.signed]at h1 hm ⊢<;>try omega
theorem zvP(k:IntKind)(n:Int):zoP k n<zrw k:=by
 cases n with
 | ofNat a=>exact qbm _ (by cases k<;>decide)
 | negSucc a=>
  have:0<zrw k:=by cases k<;>decide
  simp only[zoP,Nat.sub_eq];omega
theorem znx(k:IntKind)(n:Int):zgs k n=k.wrap n:=by
 unfold zgs IntKind.wrap;rw[zvZ k _ (zvP k n),zqq]
def iLt(m n:Int):Bool:=
 match m,n with
 | .ofNat a,.ofNat b=>Nat.blt a b
 | .ofNat _,.negSucc _=>false
 | .negSucc _,.ofNat _=>true
 | .negSucc a,.negSucc b=>Nat.blt b a
theorem zut(m n:Int):iLt m n=decide (m<n):=by
 cases m<;>cases n<;>simp only[iLt]
 ·rename_i a b;cases h:Nat.blt a b
  ·have:¬ a<b:=fun h0=>by rw[qbt.mpr h0]at h; cases h
   symm; rw[decide_eq_false_iff_not]; simp; omega
  have:=qbt.mp h
  symm; rw[decide_eq_true_iff]; simp; omega
 ·symm; rw[decide_eq_false_iff_not]; rw[qb3]; simp; omega
 ·symm; rw[decide_eq_true_iff]; rw[qb3]; simp; omega
 rename_i a b;cases h:Nat.blt b a
 ·have:¬ b<a:=fun h0=>by rw[qbt.mpr h0]at h; cases h
  symm; rw[decide_eq_false_iff_not]; rw[qb3,qb3]; omega
 have:=qbt.mp h
 symm; rw[decide_eq_true_iff]; rw[qb3,qb3]; omega
def iLe(m n:Int):Bool:=!(iLt n m)
theorem zxi(m n:Int):iLe m n=decide (m≤n):=by
 unfold iLe;rw[zut];cases h:decide (m≤n)
 ·rw[decide_eq_false_iff_not]at h;have:n<m:=by omega
  simp[this]
 rw[decide_eq_true_iff]at h;have:¬ n<m:=by omega
 simp[this]
def iEq(m n:Int):Bool:=
 match m,n with
 | .ofNat a,.ofNat b=>Nat.beq a b
 | .negSucc a,.negSucc b=>Nat.beq a b
 | _,_=>false
theorem zxZ(m n:Int):iEq m n=(m == n):=by
 cases m<;>cases n<;>simp only[iEq]
 ·rename_i a b;cases h:Nat.beq a b
  ·have:a≠b:=fun h0=>by subst h0; rw[Nat.beq_refl]at h; cases h
   symm; rw[beq_eq_false_iff_ne]; exact fun h0=>this (Int.ofNat.inj h0)
  have:=qcd h;subst this; simp
 ·symm; rw[beq_eq_false_iff_ne]; exact fun h=>by cases h
 ·symm; rw[beq_eq_false_iff_ne]; exact fun h=>by cases h
 rename_i a b;cases h:Nat.beq a b
 ·have:a≠b:=fun h0=>by subst h0; rw[Nat.beq_refl]at h; cases h
  symm; rw[beq_eq_false_iff_ne]; simp[this]
 have:=qcd h;subst this; simp
theorem zdO(k:IntKind)(n:Int):(BitVec.ofInt k.bits n).toNat=zoP k n:=by
 rw[BitVec.toNat_ofInt];have h:=zqq k n;have h2:((2 ^ k.bits:Nat):Int)=(2 ^ k.bits:Int):=by simp
 rw[h2,← h];simp
def zpn(op:BinOp):V→V→Option V
 | .lit (.int k m),.lit (.int k' n)=>(match op with
  | .shl=>(match n with
   | .ofNat a=>some (.lit (.int k (zgs k (m * Int.ofNat (Nat.pow 2 (min a k.bits))))))
   | .negSucc _=>none)
  | .shr=>(match n with
   | .ofNat a=>(match m with
    | .ofNat b=>some (.lit (.int k (.ofNat (Nat.div b (Nat.pow 2 (min a k.bits))))))
    | .negSucc b=>some (.lit (.int k (Int.fdiv (.negSucc b) (Int.ofNat (Nat.pow 2 (min a k.bits)))))))
   | .negSucc _=>none)
  | op=>bif kEq k k' then(match op with
   | .add=>some (.lit (.int k (zgs k (m+n))))
   | .sub=>some (.lit (.int k (zgs k (m - n))))
   | .mul=>some (.lit (.int k (zgs k (m * n))))
   | .and=>some (.lit (.int k (zgs k (Int.ofNat (Nat.land (zoP k m) (zoP k n))))))
   | .or=>some (.lit (.int k (zgs k (Int.ofNat (Nat.lor (zoP k m) (zoP k n))))))
   | .xor=>some (.lit (.int k (zgs k (Int.ofNat (Nat.xor (zoP k m) (zoP k n))))))
   | .eql=>some (.lit (.bool (iEq m n)))
   | .neq=>some (.lit (.bool (!iEq m n)))
   | .lss=>some (.lit (.bool (iLt m n)))
   | .leq=>some (.lit (.bool (iLe m n)))
   | .gtr=>some (.lit (.bool (iLt n m)))
   | .geq=>some (.lit (.bool (iLe n m)))
   | op=>(za0 op k m n).map .lit)else none)
 | _,_=>none
theorem zsD(op:BinOp)(v v':V):zpn op v v'=zlU op v v':=by
 unfold zpn zlU;split
 ·rename_i k m k' n;cases op<;>simp only[zwk,znx,zxZ,zut,zxi,za0,qaQ]
  case shl=>
   cases n with
   | ofNat a=>simp
   | negSucc a=>rfl
  case shr=>
   cases n with
   | ofNat a=>
    cases m with
    | ofNat b=>
     simp;have h2:((2:Int) ^ min a k.bits)=((2 ^ min a k.bits:Nat):Int):=by simp
     rw[h2,qcE _ (qbs _)];rfl
    | negSucc b=>simp
   | negSucc a=>rfl
  case and=>rw[BitVec.toNat_and,zdO,zdO]; rfl
  case or=>rw[BitVec.toNat_or,zdO,zdO]; rfl
  case xor=>rw[BitVec.toNat_xor,zdO,zdO]; rfl
  all_goals rfl
 rename_i h1;split
 ·rename_i k m k' n;exact(h1 k m k' n rfl rfl).elim
 rfl
inductive Ch:List (List V)→Prop
 | nil:Ch []
 | last (row:List V):row.length≤10→Ch [row]
 | cons (row:List V) (e:List (List V)):row.length=10→Ch e→Ch (row :: e)
def zis(e:List (List V))(k:Nat)(v:V):List (List V):=
 match e[Nat.div k 10]? with
 | some row=>e.set (Nat.div k 10) (row.set (Nat.mod k 10) v)
 | none=>e
theorem ztH{e:List (List V)}(h:Ch e)(v:V):∀ k,Ch (zis e k v)∧(zis e k v).flatten=e.flatten.set k v:=by
 induction h with
 | nil=>intro k; simp[zis]; exact .nil
 | last row hr=>
  intro k;rcases qbf k 10 with h | h
  ·have h1:Nat.div k 10=0:=qb8 h;have h2:Nat.mod k 10=k:=qa7 h;simp only[zis,h1,h2];simp;exact .last _ (by simpa using hr)
  ·have h1:Nat.div k 10≠0:=by
    have:=Nat.div_pos h (by decide:0<10);show k / 10≠0; omega
   have h3:[row][Nat.div k 10]? = none:=qbd (by simp; omega);simp only[zis,h3];refine⟨.last _ hr,?_⟩;simp;rw[List.set_eq_of_length_le (by omega)]
 | cons row e hr hc ih=>
  intro k;rcases qbf k 10 with h | h
  ·have h1:Nat.div k 10=0:=qb8 h;have h2:Nat.mod k 10=k:=qa7 h;simp only[zis,h1,h2];simp only[qb1,qcv,qbb];refine⟨.cons _ _ (by simpa using hr) hc,?_⟩;rw[List.set_append_left _ _ (by omega)]
  obtain⟨i1,i2⟩:=ih (k - 10);have h1:Nat.div k 10=Nat.div (k - 10) 10+1:=by show k / 10=(k - 10) / 10+1; omega
  have h2:Nat.mod k 10=Nat.mod (k - 10) 10:=by show k % 10=(k - 10) % 10; omega
  have hs:zis (row :: e) k v=row :: zis e (k - 10) v:=by
   simp only[zis,h1,h2,qbK];cases e[Nat.div (k - 10) 10]?<;>simp
  rw[hs];refine⟨.cons _ _ hr i1,?_⟩;simp only[qbb,i2];rw[List.set_append_right _ _ (by omega),hr]
structure StT where
 env:List (List V)
 dfs:List Df
 heap:zap
def RS(T:StT)(S:St):Prop:=Ch T.env∧T.env.flatten=S.env∧T.dfs=S.dfs∧T.heap=S.heap
def qF(g:X→Option V)(gs:List X→Option (List V))(blk:Nat→Option (List V)):I→Option V
 | .mov x=>g x
 | .load n x=>(match g x with
  | some (.ptr β o)=>(match blk β with
   | some cs=>zk8 cs o n
   | none=>none)
  | _=>none)
 | .fld off x=>(match g x with
  | some (.ptr β o)=>some (.ptr β (Nat.add o off))
  | _=>none)
 | .idxS n x i=>(match g x with
  | some (.sl β o n' len _)=>(match g i with
   | some (.lit (.int _ (.ofNat m)))=>bif Nat.beq n n' && Nat.blt m len then some (.ptr β (Nat.add o (Nat.mul m n)))else none
   | _=>none)
  | _=>none)
 | .idxA n cnt x i=>(match g x with
  | some (.ptr β o)=>(match g i with
   | some (.lit (.int _ (.ofNat m)))=>bif Nat.blt m cnt then some (.ptr β (Nat.add o (Nat.mul m n)))else none
   | _=>none)
  | _=>none)
 | .bin op x y=>(match g x with
  | some v=>(match g y with
   | some v'=>zpn op v v'
   | none=>none)
  | none=>none)
 | .conv k x=>(match g x with
  | some (.lit (.int _ m))=>some (.lit (.int k (zgs k m)))
  | _=>none)
 | i=>qG g gs blk i
theorem zfw(a b:Nat):Nat.blt a b=decide (a<b):=by
 cases h:Nat.blt a b
 ·have:¬ a<b:=fun h0=>by rw[qbt.mpr h0]at h; cases h
  simp[this]
 have:=qbt.mp h;simp[this]
theorem zmG(a b:Nat):Nat.beq a b=(a == b):=by
 cases h:Nat.beq a b
 ·have:a≠b:=Nat.ne_of_beq_eq_false h;simp[this]
 have:a=b:=qcd h;simp[this]
theorem zyB(g:X→Option V)(gs:List X→Option (List V))(blk:Nat→Option (List V))(i:I):qF g gs blk i=qG g gs blk i:=by
 cases i with
 | bin op x y=>
  simp only[qF,qG,zsD];cases g x<;>cases g y<;>rfl
 | conv k x=>
  simp only[qF,qG,zoY,znx];cases g x with
  | none=>rfl
  | some v=>
   cases v with
   | lit y=>cases y<;>rfl
   | _=>rfl
 | idxS n x i=>
  simp only[qF,qG,zoY];cases g x with
  | none=>rfl
  | some v=>
   cases v with
   | sl β o n' len cap=>
    simp only[];cases g i with
    | none=>rfl
    | some y=>
     cases y with
     | lit z=>
      cases z with
      | int kd m=>
       cases m with
       | ofNat m=>
        simp only[zfw,zmG];have h1:decide ((0:Int)≤Int.ofNat m)=true:=by simp
        have h2:decide (Int.ofNat m<(len:Int))=decide (m<len):=by simp
        rw[h1,h2,qcO];rfl
       | negSucc m=>
        have h1:decide ((0:Int)≤Int.negSucc m)=false:=by
         rw[decide_eq_false_iff_not,qb3]; omega
        simp only[h1,Bool.and_false,Bool.false_and,cond_false]
      | _=>rfl
     | _=>rfl
   | _=>rfl
 | idxA n cnt x i=>
  simp only[qF,qG,zoY];cases g x with
  | none=>rfl
  | some v=>
   cases v with
   | ptr β o=>
    simp only[];cases g i with
    | none=>rfl
    | some y=>
     cases y with
     | lit z=>
      cases z with
      | int kd m=>
       cases m with
       | ofNat m=>
        simp only[zfw];have h1:decide ((0:Int)≤Int.ofNat m)=true:=by simp
        have h2:decide (Int.ofNat m<(cnt:Int))=decide (m<cnt):=by simp
        rw[h1,h2,qcB];rfl
       | negSucc m=>
        have h1:decide ((0:Int)≤Int.negSucc m)=false:=by
         rw[decide_eq_false_iff_not,qb3]; omega
        simp only[h1,Bool.false_and,cond_false]
      | _=>rfl
     | _=>rfl
   | _=>rfl
 | _=>rfl
structure RecT where
 code:Nat→Option Nat→C→StT→Option (Ex×StT)
 call:Nat→Nat→List V→zap→Option (CR×zap)
 dcall:Nat→Nat→List V→Option V→zap→Option (Option V×zap)
def zAz(T:StT)(d:Option Nat)(v:V):StT:=
 match d with
 | none=>T
 | some n=>⟨zis T.env n v,T.dfs,T.heap⟩
theorem RS.put{T:StT}{S:St}(h:RS T S)(d:Option Nat)(v:V):RS (zAz T d v) (S.put d v):=by
 cases d with
 | none=>exact h
 | some n=>
  obtain⟨h1,h2,h3,h4⟩:=h;obtain⟨g1,g2⟩:=ztH h1 v n;exact⟨g1,g2.trans (by rw[h2]; rfl),h3,h4⟩
theorem RS.heap{T:StT}{S:St}(h:RS T S)(hp:zap):RS ⟨T.env,T.dfs,hp⟩ { S with heap:=hp }:=⟨h.1,h.2.1,h.2.2.1,rfl⟩
def RecT.none:RecT:=⟨fun _ _ _ _=>.none,fun _ _ _ _=>.none,fun _ _ _ _ _=>.none⟩
end Go.Mx
namespace Go.Mx
open Go
abbrev KT:=StT→Option (Ex×StT)
abbrev Sx:=RecT→Nat→Bool→Bool→Bool→StT→O→KT→Option (Ex×StT)
def fcI(kd:IntKind)(n:Int){α:Type}(k:V→α):α:=zsZ n fun n'=>k (.lit (.int kd n'))
def fcB(b:Bool){α:Type}(k:V→α):α:=zrc b fun b'=>k (.lit (.bool b'))
def fcL(x:Value){α:Type}:(V→α)→α:=
 match x with
 | .int kd n=>fcI kd n
 | .bool b=>fcB b
 | x=>fun k=>k (.lit x)
def fcP(β o:Nat){α:Type}(k:V→α):α:=zdB β fun β'=>zdB o fun o'=>k (.ptr β' o')
def fcS(β o n len:Nat)(cap:Option Nat){α:Type}(k:V→α):α:=zdB β fun β'=>zdB o fun o'=>zdB n fun n'=>zdB len fun len'=>zyk cap fun cap'=>k (.sl β' o' n' len' cap')
def fcC(f:Nat)(a b:List V){α:Type}(k:V→α):α:=zc1 a fun a'=>zc1 b fun b'=>k (.clo f a' b')
def fcA(vs:List V){α:Type}(k:V→α):α:=zc1 vs fun vs'=>k (.agg vs')
def fcT(vs:List V){α:Type}(k:V→α):α:=zc1 vs fun vs'=>k (.tup vs')
def fcX(v:V){α:Type}:(V→α)→α:=
 match v with
 | .lit x=>fcL x
 | .ptr β o=>fcP β o
 | .sl β o n len cap=>fcS β o n len cap
 | .clo f a b=>fcC f a b
 | .agg vs=>fcA vs
 | .tup vs=>fcT vs
 | v=>fun k=>k v
theorem zug{α:Type}(v:V)(k:V→α):fcX v k=k v:=by
 cases v with
 | lit x=>cases x<;>simp[fcX,fcL,fcI,fcB,znS,zkE]
 | _=>simp[fcX,fcP,fcS,fcC,fcA,fcT,zct,zrZ,zcC]
def okB(x:Bool)(v:V):Option V:=bif x then some v else none
abbrev Bx:=IntKind→IntKind→Int→Int→Option V
def zA0:Bx:=fun k k' m n=>okB (kEq k k') (.lit (.int k (zgs k (Int.add m n))))
def zAu:Bx:=fun k k' m n=>okB (kEq k k') (.lit (.int k (zgs k (Int.sub m n))))
def zz0:Bx:=fun k k' m n=>okB (kEq k k') (.lit (.int k (zgs k (Int.mul m n))))
def zAc:Bx:=fun k k' m n=>okB (kEq k k') (.lit (.bool (iEq m n)))
def zAP:Bx:=fun k k' m n=>okB (kEq k k') (.lit (.bool (!iEq m n)))
def zz8:Bx:=fun k k' m n=>okB (kEq k k') (.lit (.bool (iLt m n)))
def zzZ:Bx:=fun k k' m n=>okB (kEq k k') (.lit (.bool (iLe m n)))
def zAC:Bx:=fun k k' m n=>okB (kEq k k') (.lit (.bool (iLt n m)))
def zAh:Bx:=fun k k' m n=>okB (kEq k k') (.lit (.bool (iLe n m)))
def zw0(op:BinOp):Bx:=fun k k' m n=>zpn op (.lit (.int k m)) (.lit (.int k' n))
def bOp(op:BinOp):Bx:=
 match op with
 | .add=>zA0
 | .sub=>zAu
 | .mul=>zz0
 | .eql=>zAc
 | .neq=>zAP
 | .lss=>zz8
 | .leq=>zzZ
 | .gtr=>zAC
 | .geq=>zAh
 | op=>zw0 op
def intOf(v:Option V):Option (IntKind×Int):=
 match v with
 | some (.lit (.int k m))=>some (k,m)
 | _=>none
def zzA(f:Bx)(a b:Option (IntKind×Int)):Option V:=
 match a with
 | some (k,m)=>(match b with
  | some (k',n)=>f k k' m n
  | none=>none)
 | none=>none
theorem zxM(op:BinOp)(k k':IntKind)(m n:Int):bOp op k k' m n=zpn op (.lit (.int k m)) (.lit (.int k' n)):=by cases op<;>rfl
theorem zvR(op:BinOp)(a b:Option V):zzA (bOp op) (intOf a) (intOf b)=(match a with | some v=>(match b with | some v'=>zpn op v v' | none=>none)| none=>none):=by
 cases a with
 | none=>rfl
 | some v=>
  cases v with
  | lit x=>
   cases x with
   | int k m=>
    cases b with
    | none=>rfl
    | some v'=>
     cases v' with
     | lit y=>
      cases y with
      | int k' n=>exact zxM op k k' m n
      | _=>rfl
     | _=>rfl
   | _=>cases b<;>rfl
  | _=>cases b<;>rfl
def zAY(p:Option V)(off:Nat):Option V:=
 match p with
 | some (.ptr β o)=>some (.ptr β (Nat.add o off))
 | _=>none
def zxY(v:Option V):Option Nat:=
 match v with
 | some (.lit (.int _ (.ofNat m)))=>some m
 | _=>none
def zxD(n:Nat)(p:Option V)(i:Option Nat):Option V:=
 match p with
 | some (.sl β o n' len _)=>(match i with
  | some m=>bif Nat.beq n n' && Nat.blt m len then some (.ptr β (Nat.add o (Nat.mul m n)))else none
  | none=>none)
 | _=>none
def zwr(n cnt:Nat)(p:Option V)(i:Option Nat):Option V:=
 match p with
 | some (.ptr β o)=>(match i with
  | some m=>bif Nat.blt m cnt then some (.ptr β (Nat.add o (Nat.mul m n)))else none
  | none=>none)
 | _=>none
def zxc(k:IntKind)(p:Option (IntKind×Int)):Option V:=
 match p with
 | some (_,m)=>some (.lit (.int k (zgs k m)))
 | none=>none
def znW(v:Option V):Option Bool:=
 match v with
 | some (.lit (.bool b))=>some b
 | _=>none
def xUn(op:UnOp)(p:Option V):Option V:=match p with | some v=>unV op v | none=>none
def zAU(p:Option V):Option V:=match p with | some v=>zwW v | none=>none
def zzX(p:Option V)(i:Nat):Option V:=match p with | some (.tup vs)=>nth vs i | _=>none
end Go.Mx
