/-
 Arithmetic for the kernel: the same numbers. Conditions: none.
-/
import Derived.Test.YtbjogdohfhdaiaaCfMx14
set_option linter.unusedSimpArgs false
set_option linter.unusedVariables false
namespace Go.Mx
open Go
def zDg:IntKind->Nat
 | .i8=>0 | .i16=>1 | .i32=>2 | .i64=>3 | .u8=>4 | .u16=>5 | .u32=>6 | .u64=>7
def kEq(k k':IntKind):Bool:=Nat.beq (zDg k) (zDg k')
theorem zAf(k k':IntKind):kEq k k'=(k == k'):=by cases k<;>cases k'<;>rfl
def zuJ:IntKind->Nat
 | .i8 | .u8=>256
 | .i16 | .u16=>65536
 | .i32 | .u32=>4294967296
 | .i64 | .u64=>18446744073709551616
def zqw:IntKind->Nat
 | .i8=>128
 | .i16=>32768
 | .i32=>2147483648
 | .i64=>9223372036854775808
 | .u8=>256
 | .u16=>65536
 | .u32=>4294967296
 | .u64=>18446744073709551616
def zB6(k:IntKind)(m:Nat):Int:=bif Nat.ble (zqw k) m then .negSucc (Nat.sub (Nat.sub (zuJ k) m) 1)else .ofNat m
def zqC(k:IntKind)(n:Int):Nat:=
 match n with
 | .ofNat a=>Nat.mod a (zuJ k)
 | .negSucc a=>Nat.sub (Nat.sub (zuJ k) 1) (Nat.mod a (zuJ k))
def zgN(k:IntKind)(n:Int):Int:=zB6 k (zqC k n)
theorem zxT(a b:Nat):Nat.mod a b=a % b:=rfl
theorem ztc(k:IntKind)(n:Int):((zqC k n:Nat):Int)=n % (2 ^ k.bits:Int):=by
 cases k<;>cases n with
 | ofNat a=>simp[zqC,zuJ,IntKind.bits,zxT]
 | negSucc a=>
  simp only[zqC,zuJ,IntKind.bits,zxT,Nat.sub_eq];have:(Int.negSucc a)= -((a:Int)+1):=rfl;rw[this];simp;omega
theorem zzi(k:IntKind)(m:Nat)(hm:m<zuJ k):zB6 k m=(if k.signed && decide ((m:Int)>=(2 ^ (k.bits - 1):Int))then(m:Int) - (2 ^ k.bits:Int)else(m:Int)):=by
 unfold zB6;cases hb:Nat.ble (zqw k) m with
 | true=>
  have h1:=qah hb;cases k<;>simp[zqw,zuJ,IntKind.bits,IntKind.signed]at h1 hm ⊢<;>first
   |(rw[if_pos (by omega)]; rw[qch]; omega)
   | omega
 | false=>
  have h1:m<zqw k:=by
   rcases qbs m (zqw k)with h0 | h0
   .exact h0
   rw[qau h0]at hb; cases hb
  cases k<;>simp[zqw,zuJ,IntKind.bits,IntKind.signed]at h1 hm ⊢<;>try omega
theorem zx2(k:IntKind)(n:Int):zqC k n<zuJ k:=by
 cases n with
 | ofNat a=>exact qbM _ (by cases k<;>decide)
 | negSucc a=>
  have:0<zuJ k:=by cases k<;>decide
  simp only[zqC,Nat.sub_eq];omega
theorem zpA(k:IntKind)(n:Int):zgN k n=k.wrap n:=by
 unfold zgN IntKind.wrap;rw[zzi k _ (zx2 k n),ztc]
def iLt(m n:Int):Bool:=
 match m,n with
 | .ofNat a,.ofNat b=>Nat.blt a b
 | .ofNat _,.negSucc _=>false
 | .negSucc _,.ofNat _=>true
 | .negSucc a,.negSucc b=>Nat.blt b a
theorem zwT(m n:Int):iLt m n=decide (m<n):=by
 cases m<;>cases n<;>simp only[iLt]
 .rename_i a b;cases h:Nat.blt a b
  .have:¬ a<b:=λh0=>by rw[qbA.mpr h0]at h; cases h
   symm; rw[qdu]; simp; omega
  have:=qbA.mp h
  symm; rw[qdr]; simp; omega
 .symm; rw[qdu]; rw[qch]; simp; omega
 .symm; rw[qdr]; rw[qch]; simp; omega
 rename_i a b;cases h:Nat.blt b a
 .have:¬ b<a:=λh0=>by rw[qbA.mpr h0]at h; cases h
  symm; rw[qdu]; rw[qch,qch]; omega
 have:=qbA.mp h
 symm; rw[qdr]; rw[qch,qch]; omega
def iLe(m n:Int):Bool:=!(iLt n m)
theorem zBy(m n:Int):iLe m n=decide (m<=n):=by
 unfold iLe;rw[zwT];cases h:decide (m<=n)
 .rw[qdu]at h;have:n<m:=by omega
  simp[this]
 rw[qdr]at h;have:¬ n<m:=by omega
 simp[this]
def iEq(m n:Int):Bool:=
 match m,n with
 | .ofNat a,.ofNat b=>Nat.beq a b
 | .negSucc a,.negSucc b=>Nat.beq a b
 | _,_=>false
theorem zBb(m n:Int):iEq m n=(m == n):=by
 cases m<;>cases n<;>simp only[iEq]
 .rename_i a b;cases h:Nat.beq a b
  .have:a≠b:=λh0=>by subst h0; rw[Nat.beq_refl]at h; cases h
   symm; rw[qdt]; exact λh0=>this (Int.ofNat.inj h0)
  have:=qbT h;subst this; simp
 .symm; rw[qdt]; exact λh=>by cases h
 .symm; rw[qdt]; exact λh=>by cases h
 rename_i a b;cases h:Nat.beq a b
 .have:a≠b:=λh0=>by subst h0; rw[Nat.beq_refl]at h; cases h
  symm; rw[qdt]; simp[this]
 have:=qbT h;subst this; simp
theorem zdG(k:IntKind)(n:Int):(BitVec.ofInt k.bits n).toNat=zqC k n:=by
 rw[BitVec.toNat_ofInt];have h:=ztc k n;have h2:((2 ^ k.bits:Nat):Int)=(2 ^ k.bits:Int):=by simp
 rw[h2,<- h];simp
def zq1(op:BinOp):V->V->Option V
 | .lit (.int k m),.lit (.int k' n)=>(match op with
  | .shl=>(match n with
   | .ofNat a=>some (.lit (.int k (zgN k (m * Int.ofNat (Nat.pow 2 (min a k.bits))))))
   | .negSucc _=>none)
  | .shr=>(match n with
   | .ofNat a=>(match m with
    | .ofNat b=>some (.lit (.int k (.ofNat (Nat.div b (Nat.pow 2 (min a k.bits))))))
    | .negSucc b=>some (.lit (.int k (Int.fdiv (.negSucc b) (Int.ofNat (Nat.pow 2 (min a k.bits)))))))
   | .negSucc _=>none)
  | op=>bif kEq k k' then(match op with
   | .add=>some (.lit (.int k (zgN k (m+n))))
   | .sub=>some (.lit (.int k (zgN k (m - n))))
   | .mul=>some (.lit (.int k (zgN k (m * n))))
   | .and=>some (.lit (.int k (zgN k (Int.ofNat (Nat.land (zqC k m) (zqC k n))))))
   | .or=>some (.lit (.int k (zgN k (Int.ofNat (Nat.lor (zqC k m) (zqC k n))))))
   | .xor=>some (.lit (.int k (zgN k (Int.ofNat (Nat.xor (zqC k m) (zqC k n))))))
   | .eql=>some (.lit (.bool (iEq m n)))
   | .neq=>some (.lit (.bool (!iEq m n)))
   | .lss=>some (.lit (.bool (iLt m n)))
   | .leq=>some (.lit (.bool (iLe m n)))
   | .gtr=>some (.lit (.bool (iLt n m)))
   | .geq=>some (.lit (.bool (iLe n m)))
   | op=>(zaR op k m n).map .lit)else none)
 | _,_=>none
theorem zvX(op:BinOp)(v v':V):zq1 op v v'=zmR op v v':=by
 unfold zq1 zmR;split
 .rename_i k m k' n;cases op<;>simp only[zAf,zpA,zBb,zwT,zBy,zaR,qaM]
  case shl=>
   cases n with
   | ofNat a=>simp
   | negSucc a=>rfl
  case shr=>
   cases n with
   | ofNat a=>
    cases m with
    | ofNat b=>
     simp;have h2:((2:Int) ^ min a k.bits)=((2 ^ min a k.bits:Nat):Int):=by simp
     rw[h2,Int.fdiv_eq_ediv_of_nonneg _ (qaF _)];rfl
    | negSucc b=>simp
   | negSucc a=>rfl
  case and=>rw[BitVec.toNat_and,zdG,zdG]; rfl
  case or=>rw[BitVec.toNat_or,zdG,zdG]; rfl
  case xor=>rw[BitVec.toNat_xor,zdG,zdG]; rfl
  all_goals rfl
 rename_i h1;split
 .rename_i k m k' n;exact(h1 k m k' n rfl rfl).elim
 rfl
inductive Ch:List (List V)->Prop
 | nil:Ch []
 | last (row:List V):row.length<=10->Ch [row]
 | cons (row:List V) (e:List (List V)):row.length=10->Ch e->Ch (row :: e)
def zje(e:List (List V))(k:Nat)(v:V):List (List V):=
 match e[Nat.div k 10]? with
 | some row=>e.set (Nat.div k 10) (row.set (Nat.mod k 10) v)
 | none=>e
theorem zvC{e:List (List V)}(h:Ch e)(v:V):∀ k,Ch (zje e k v)/\(zje e k v).flatten=e.flatten.set k v:=by
 induction h with
 | nil=>intro k; simp[zje]; exact .nil
 | last row hr=>
  intro k;rcases qbs k 10 with h | h
  .have h1:Nat.div k 10=0:=Nat.div_eq_of_lt h;have h2:Nat.mod k 10=k:=qbz h;simp only[zje,h1,h2];simp;exact .last _ (by simpa using hr)
  .have h1:Nat.div k 10≠0:=by
    have:=Nat.div_pos h (by decide:0<10);show k / 10≠0; omega
   have h3:[row][Nat.div k 10]? = none:=qaP (by simp; omega);simp only[zje,h3];refine⟨.last _ hr,?_⟩;simp;rw[List.set_eq_of_length_le (by omega)]
 | cons row e hr hc ih=>
  intro k;rcases qbs k 10 with h | h
  .have h1:Nat.div k 10=0:=Nat.div_eq_of_lt h;have h2:Nat.mod k 10=k:=qbz h;simp only[zje,h1,h2];simp only[qcd,qbK,qbn];refine⟨.cons _ _ (by simpa using hr) hc,?_⟩;rw[qcQ _ _ (by omega)]
  obtain⟨i1,i2⟩:=ih (k - 10);have h1:Nat.div k 10=Nat.div (k - 10) 10+1:=by show k / 10=(k - 10) / 10+1; omega
  have h2:Nat.mod k 10=Nat.mod (k - 10) 10:=by show k % 10=(k - 10) % 10; omega
  have hs:zje (row :: e) k v=row :: zje e (k - 10) v:=by
   simp only[zje,h1,h2,qa6];cases e[Nat.div (k - 10) 10]?<;>simp
  rw[hs];refine⟨.cons _ _ hr i1,?_⟩;simp only[qbn,i2];rw[qbD _ _ (by omega),hr]
structure StT where
 env:List (List V)
 dfs:List Df
 heap:zaj
def RS(T:StT)(S:St):Prop:=Ch T.env/\T.env.flatten=S.env/\T.dfs=S.dfs/\T.heap=S.heap
def qF(g:X->Option V)(gs:List X->Option (List V))(blk:Nat->Option (List V)):I->Option V
 | .mov x=>g x
 | .load n x=>(match g x with
  | some (.ptr β o)=>(match blk β with
   | some cs=>zmx cs o n
   | none=>none)
  | _=>none)
 | .fld off x=>(match g x with
  | some (.ptr β o)=>some (.ptr β (Nat.add o off))
  | _=>none)
 | .idxS n x i=>(match g x with
  | some (.sl β o n' len _)=>(match g i with
   | some (.lit (.int _ (.ofNat m)))=>bif Nat.beq n n' && Nat.blt m len then some (.ptr β (Nat.add o (Nat.mul m n)))else none
   | _=>none)
  | _=>none)
 | .idxA n cnt x i=>(match g x with
  | some (.ptr β o)=>(match g i with
   | some (.lit (.int _ (.ofNat m)))=>bif Nat.blt m cnt then some (.ptr β (Nat.add o (Nat.mul m n)))else none
   | _=>none)
  | _=>none)
 | .bin op x y=>(match g x with
  | some v=>(match g y with
   | some v'=>zq1 op v v'
   | none=>none)
  | none=>none)
 | .conv k x=>(match g x with
  | some (.lit (.int _ m))=>some (.lit (.int k (zgN k m)))
  | _=>none)
 | i=>qG g gs blk i
theorem zfG(a b:Nat):Nat.blt a b=decide (a<b):=by
 cases h:Nat.blt a b
 .have:¬ a<b:=λh0=>by rw[qbA.mpr h0]at h; cases h
  simp[this]
 have:=qbA.mp h;simp[this]
theorem zn2(a b:Nat):Nat.beq a b=(a == b):=by
 cases h:Nat.beq a b
 .have:a≠b:=Nat.ne_of_beq_eq_false h;simp[this]
 have:a=b:=qbT h;simp[this]
theorem zCd(g:X->Option V)(gs:List X->Option (List V))(blk:Nat->Option (List V))(i:I):qF g gs blk i=qG g gs blk i:=by
 cases i with
 | bin op x y=>
  simp only[qF,qG,zvX];cases g x<;>cases g y<;>rfl
 | conv k x=>
  simp only[qF,qG,zqV,zpA];cases g x with
  | none=>rfl
  | some v=>
   cases v with
   | lit y=>cases y<;>rfl
   | _=>rfl
 | idxS n x i=>
  simp only[qF,qG,zqV];cases g x with
  | none=>rfl
  | some v=>
   cases v with
   | sl β o n' len cap=>
    simp only[];cases g i with
    | none=>rfl
    | some y=>
     cases y with
     | lit z=>
      cases z with
      | int kd m=>
       cases m with
       | ofNat m=>
        simp only[zfG,zn2];have h1:decide ((0:Int)<=Int.ofNat m)=true:=by simp
        have h2:decide (Int.ofNat m<(len:Int))=decide (m<len):=by simp
        rw[h1,h2,qcn];rfl
       | negSucc m=>
        have h1:decide ((0:Int)<=Int.negSucc m)=false:=by
         rw[qdu,qch]; omega
        simp only[h1,qcf,Bool.false_and,qdm]
      | _=>rfl
     | _=>rfl
   | _=>rfl
 | idxA n cnt x i=>
  simp only[qF,qG,zqV];cases g x with
  | none=>rfl
  | some v=>
   cases v with
   | ptr β o=>
    simp only[];cases g i with
    | none=>rfl
    | some y=>
     cases y with
     | lit z=>
      cases z with
      | int kd m=>
       cases m with
       | ofNat m=>
        simp only[zfG];have h1:decide ((0:Int)<=Int.ofNat m)=true:=by simp
        have h2:decide (Int.ofNat m<(cnt:Int))=decide (m<cnt):=by simp
        rw[h1,h2,qbB];rfl
       | negSucc m=>
        have h1:decide ((0:Int)<=Int.negSucc m)=false:=by
         rw[qdu,qch]; omega
        simp only[h1,Bool.false_and,qdm]
      | _=>rfl
     | _=>rfl
   | _=>rfl
 | _=>rfl
structure RecT where
 code:Nat->Option Nat->C->StT->Option (Ex×StT)
 call:Nat->Nat->List V->zaj->Option (CR×zaj)
 dcall:Nat->Nat->List V->Option V->zaj->Option (Option V×zaj)
def zDD(T:StT)(d:Option Nat)(v:V):StT:=
 match d with
 | none=>T
 | some n=>⟨zje T.env n v,T.dfs,T.heap⟩
theorem RS.put{T:StT}{S:St}(h:RS T S)(d:Option Nat)(v:V):RS (zDD T d v) (S.put d v):=by
 cases d with
 | none=>exact h
 | some n=>
  obtain⟨h1,h2,h3,h4⟩:=h;obtain⟨g1,g2⟩:=zvC h1 v n;exact⟨g1,g2.trans (by rw[h2]; rfl),h3,h4⟩
theorem RS.heap{T:StT}{S:St}(h:RS T S)(hp:zaj):RS ⟨T.env,T.dfs,hp⟩ { S with heap:=hp }:=⟨h.1,h.2.1,h.2.2.1,rfl⟩
def RecT.none:RecT:=⟨λ_ _ _ _=>.none,λ_ _ _ _=>.none,λ_ _ _ _ _=>.none⟩
end Go.Mx
