/-
 Arithmetic for the kernel: the same numbers. Conditions: none.
-/
import Derived.Test.YtbjogdohfhdaiaaCkMx14
set_option linter.unusedSimpArgs false
set_option linter.unusedVariables false
namespace Go.Mx
open Go
def zwA:IntKind->Nat
 | .i8=>0 | .i16=>1 | .i32=>2 | .i64=>3 | .u8=>4 | .u16=>5 | .u32=>6 | .u64=>7
def kEq(k k':IntKind):Bool:=Nat.beq (zwA k) (zwA k')
theorem ztN(k k':IntKind):kEq k k'=(k == k'):=by cases k<;>cases k'<;>rfl
def zoG:IntKind->Nat
 | .i8 | .u8=>256
 | .i16 | .u16=>65536
 | .i32 | .u32=>4294967296
 | .i64 | .u64=>18446744073709551616
def zna:IntKind->Nat
 | .i8=>128
 | .i16=>32768
 | .i32=>2147483648
 | .i64=>9223372036854775808
 | .u8=>256
 | .u16=>65536
 | .u32=>4294967296
 | .u64=>18446744073709551616
def zwk(k:IntKind)(m:Nat):Int:=bif Nat.ble (zna k) m then .negSucc (Nat.sub (Nat.sub (zoG k) m) 1)else .ofNat m
def zm8(k:IntKind)(n:Int):Nat:=
 match n with
 | .ofNat a=>Nat.mod a (zoG k)
 | .negSucc a=>Nat.sub (Nat.sub (zoG k) 1) (Nat.mod a (zoG k))
def zfu(k:IntKind)(n:Int):Int:=zwk k (zm8 k n)
theorem zr2(a b:Nat):Nat.mod a b=a % b:=rfl
theorem zpu(k:IntKind)(n:Int):((zm8 k n:Nat):Int)=n % (2 ^ k.bits:Int):=by
 cases k<;>cases n with
 | ofNat a=>simp[zm8,zoG,IntKind.bits,zr2]
 | negSucc a=>
  simp only[zm8,zoG,IntKind.bits,zr2,Nat.sub_eq];have:(Int.negSucc a)= -((a:Int)+1):=rfl;rw[this];simp;omega
theorem zsv(k:IntKind)(m:Nat)(hm:m<zoG k):zwk k m=(if k.signed && decide ((m:Int)>=(2 ^ (k.bits - 1):Int))then(m:Int) - (2 ^ k.bits:Int)else(m:Int)):=by
 unfold zwk;cases hb:Nat.ble (zna k) m with
 | true=>
  have h1:=qai hb;cases k<;>simp[zna,zoG,IntKind.bits,IntKind.signed]at h1 hm ⊢<;>first
   |(rw[if_pos (by omega)]; rw[qbK]; omega)
   | omega
 | false=>
  have h1:m<zna k:=by
   rcases qbj m (zna k)with h0 | h0
   .exact h0
   rw[qao h0]at hb; cases hb
  cases k<;>simp[zna,zoG,IntKind.bits,IntKind.signed]at h1 hm ⊢<;>try omega
theorem zsT(k:IntKind)(n:Int):zm8 k n<zoG k:=by
 cases n with
 | ofNat a=>exact qbw _ (by cases k<;>decide)
 | negSucc a=>
  have:0<zoG k:=by cases k<;>decide
  simp only[zm8,Nat.sub_eq];omega
theorem zlM(k:IntKind)(n:Int):zfu k n=k.wrap n:=by
 unfold zfu IntKind.wrap;rw[zsv k _ (zsT k n),zpu]
def iLt(m n:Int):Bool:=
 match m,n with
 | .ofNat a,.ofNat b=>Nat.blt a b
 | .ofNat _,.negSucc _=>false
 | .negSucc _,.ofNat _=>true
 | .negSucc a,.negSucc b=>Nat.blt b a
theorem zr0(m n:Int):iLt m n=decide (m<n):=by
 cases m<;>cases n<;>simp only[iLt]
 .rename_i a b;cases h:Nat.blt a b
  .have:¬ a<b:=λh0=>by rw[qbd.mpr h0]at h; cases h
   symm; rw[qcN]; simp; omega
  have:=qbd.mp h
  symm; rw[qcK]; simp; omega
 .symm; rw[qcN]; rw[qbK]; simp; omega
 .symm; rw[qcK]; rw[qbK]; simp; omega
 rename_i a b;cases h:Nat.blt b a
 .have:¬ b<a:=λh0=>by rw[qbd.mpr h0]at h; cases h
  symm; rw[qcN]; rw[qbK,qbK]; omega
 have:=qbd.mp h
 symm; rw[qcK]; rw[qbK,qbK]; omega
def iLe(m n:Int):Bool:=!(iLt n m)
theorem zu6(m n:Int):iLe m n=decide (m<=n):=by
 unfold iLe;rw[zr0];cases h:decide (m<=n)
 .rw[qcN]at h;have:n<m:=by omega
  simp[this]
 rw[qcK]at h;have:¬ n<m:=by omega
 simp[this]
def iEq(m n:Int):Bool:=
 match m,n with
 | .ofNat a,.ofNat b=>Nat.beq a b
 | .negSucc a,.negSucc b=>Nat.beq a b
 | _,_=>false
theorem zuv(m n:Int):iEq m n=(m == n):=by
 cases m<;>cases n<;>simp only[iEq]
 .rename_i a b;cases h:Nat.beq a b
  .have:a≠b:=λh0=>by subst h0; rw[Nat.beq_refl]at h; cases h
   symm; rw[qcJ]; exact λh0=>this (Int.ofNat.inj h0)
  have:=qbp h;subst this; simp
 .symm; rw[qcJ]; exact λh=>by cases h
 .symm; rw[qcJ]; exact λh=>by cases h
 rename_i a b;cases h:Nat.beq a b
 .have:a≠b:=λh0=>by subst h0; rw[Nat.beq_refl]at h; cases h
  symm; rw[qcJ]; simp[this]
 have:=qbp h;subst this; simp
theorem zcY(k:IntKind)(n:Int):(BitVec.ofInt k.bits n).toNat=zm8 k n:=by
 rw[BitVec.toNat_ofInt];have h:=zpu k n;have h2:((2 ^ k.bits:Nat):Int)=(2 ^ k.bits:Int):=by simp
 rw[h2,<- h];simp
def zmI(op:BinOp):V->V->Option V
 | .lit (.int k m),.lit (.int k' n)=>(match op with
  | .shl=>(match n with
   | .ofNat a=>some (.lit (.int k (zfu k (m * Int.ofNat (Nat.pow 2 (min a k.bits))))))
   | .negSucc _=>none)
  | .shr=>(match n with
   | .ofNat a=>(match m with
    | .ofNat b=>some (.lit (.int k (.ofNat (Nat.div b (Nat.pow 2 (min a k.bits))))))
    | .negSucc b=>some (.lit (.int k (Int.fdiv (.negSucc b) (Int.ofNat (Nat.pow 2 (min a k.bits)))))))
   | .negSucc _=>none)
  | op=>bif kEq k k' then(match op with
   | .add=>some (.lit (.int k (zfu k (m+n))))
   | .sub=>some (.lit (.int k (zfu k (m - n))))
   | .mul=>some (.lit (.int k (zfu k (m * n))))
   | .and=>some (.lit (.int k (zfu k (Int.ofNat (Nat.land (zm8 k m) (zm8 k n))))))
   | .or=>some (.lit (.int k (zfu k (Int.ofNat (Nat.lor (zm8 k m) (zm8 k n))))))
   | .xor=>some (.lit (.int k (zfu k (Int.ofNat (Nat.xor (zm8 k m) (zm8 k n))))))
   | .eql=>some (.lit (.bool (iEq m n)))
   | .neq=>some (.lit (.bool (!iEq m n)))
   | .lss=>some (.lit (.bool (iLt m n)))
   | .leq=>some (.lit (.bool (iLe m n)))
   | .gtr=>some (.lit (.bool (iLt n m)))
   | .geq=>some (.lit (.bool (iLe n m)))
   | op=>(zaJ op k m n).map .lit)else none)
 | _,_=>none
theorem zqT(op:BinOp)(v v':V):zmI op v v'=zka op v v':=by
 unfold zmI zka;split
 .rename_i k m k' n;cases op<;>simp only[ztN,zlM,zuv,zr0,zu6,zaJ,qaD]
  case shl=>
   cases n with
   | ofNat a=>simp
   | negSucc a=>rfl
  case shr=>
   cases n with
   | ofNat a=>
    cases m with
    | ofNat b=>
     simp;have h2:((2:Int) ^ min a k.bits)=((2 ^ min a k.bits:Nat):Int):=by simp
     rw[h2,Int.fdiv_eq_ediv_of_nonneg _ (qbT _)];rfl
    | negSucc b=>simp
   | negSucc a=>rfl
  case and=>rw[BitVec.toNat_and,zcY,zcY]; rfl
  case or=>rw[BitVec.toNat_or,zcY,zcY]; rfl
  case xor=>rw[BitVec.toNat_xor,zcY,zcY]; rfl
  all_goals rfl
 rename_i h1;split
 .rename_i k m k' n;exact(h1 k m k' n rfl rfl).elim
 rfl
inductive Ch:List (List V)->Prop
 | nil:Ch []
 | last (row:List V):row.length<=10->Ch [row]
 | cons (row:List V) (e:List (List V)):row.length=10->Ch e->Ch (row :: e)
def zhn(e:List (List V))(k:Nat)(v:V):List (List V):=
 match e[Nat.div k 10]? with
 | some row=>e.set (Nat.div k 10) (row.set (Nat.mod k 10) v)
 | none=>e
theorem zq4{e:List (List V)}(h:Ch e)(v:V):∀ k,Ch (zhn e k v)/\(zhn e k v).flatten=e.flatten.set k v:=by
 induction h with
 | nil=>intro k; simp[zhn]; exact .nil
 | last row hr=>
  intro k;rcases qbj k 10 with h | h
  .have h1:Nat.div k 10=0:=Nat.div_eq_of_lt h;have h2:Nat.mod k 10=k:=qbi h;simp only[zhn,h1,h2];simp;exact .last _ (by simpa using hr)
  .have h1:Nat.div k 10≠0:=by
    have:=Nat.div_pos h (by decide:0<10);show k / 10≠0; omega
   have h3:[row][Nat.div k 10]? = none:=qaJ (by simp; omega);simp only[zhn,h3];refine⟨.last _ hr,?_⟩;simp;rw[List.set_eq_of_length_le (by omega)]
 | cons row e hr hc ih=>
  intro k;rcases qbj k 10 with h | h
  .have h1:Nat.div k 10=0:=Nat.div_eq_of_lt h;have h2:Nat.mod k 10=k:=qbi h;simp only[zhn,h1,h2];simp only[qb1,qbS,qa2];refine⟨.cons _ _ (by simpa using hr) hc,?_⟩;rw[qcB _ _ (by omega)]
  obtain⟨i1,i2⟩:=ih (k - 10);have h1:Nat.div k 10=Nat.div (k - 10) 10+1:=by show k / 10=(k - 10) / 10+1; omega
  have h2:Nat.mod k 10=Nat.mod (k - 10) 10:=by show k % 10=(k - 10) % 10; omega
  have hs:zhn (row :: e) k v=row :: zhn e (k - 10) v:=by
   simp only[zhn,h1,h2,qa6];cases e[Nat.div (k - 10) 10]?<;>simp
  rw[hs];refine⟨.cons _ _ hr i1,?_⟩;simp only[qa2,i2];rw[qb6 _ _ (by omega),hr]
structure StT where
 env:List (List V)
 dfs:List Df
 heap:zaj
def RS(T:StT)(S:St):Prop:=Ch T.env/\T.env.flatten=S.env/\T.dfs=S.dfs/\T.heap=S.heap
def qF(g:X->Option V)(gs:List X->Option (List V))(blk:Nat->Option (List V)):I->Option V
 | .mov x=>g x
 | .load n x=>(match g x with
  | some (.ptr β o)=>(match blk β with
   | some cs=>zj3 cs o n
   | none=>none)
  | _=>none)
 | .fld off x=>(match g x with
  | some (.ptr β o)=>some (.ptr β (Nat.add o off))
  | _=>none)
 | .idxS n x i=>(match g x with
  | some (.sl β o n' len _)=>(match g i with
   | some (.lit (.int _ (.ofNat m)))=>bif Nat.beq n n' && Nat.blt m len then some (.ptr β (Nat.add o (Nat.mul m n)))else none
   | _=>none)
  | _=>none)
 | .idxA n cnt x i=>(match g x with
  | some (.ptr β o)=>(match g i with
   | some (.lit (.int _ (.ofNat m)))=>bif Nat.blt m cnt then some (.ptr β (Nat.add o (Nat.mul m n)))else none
   | _=>none)
  | _=>none)
 | .bin op x y=>(match g x with
  | some v=>(match g y with
   | some v'=>zmI op v v'
   | none=>none)
  | none=>none)
 | .conv k x=>(match g x with
  | some (.lit (.int _ m))=>some (.lit (.int k (zfu k m)))
  | _=>none)
 | i=>qG g gs blk i
theorem zeG(a b:Nat):Nat.blt a b=decide (a<b):=by
 cases h:Nat.blt a b
 .have:¬ a<b:=λh0=>by rw[qbd.mpr h0]at h; cases h
  simp[this]
 have:=qbd.mp h;simp[this]
theorem zk4(a b:Nat):Nat.beq a b=(a == b):=by
 cases h:Nat.beq a b
 .have:a≠b:=Nat.ne_of_beq_eq_false h;simp[this]
 have:a=b:=qbp h;simp[this]
theorem zv3(g:X->Option V)(gs:List X->Option (List V))(blk:Nat->Option (List V))(i:I):qF g gs blk i=qG g gs blk i:=by
 cases i with
 | bin op x y=>
  simp only[qF,qG,zqT];cases g x<;>cases g y<;>rfl
 | conv k x=>
  simp only[qF,qG,zmN,zlM];cases g x with
  | none=>rfl
  | some v=>
   cases v with
   | lit y=>cases y<;>rfl
   | _=>rfl
 | idxS n x i=>
  simp only[qF,qG,zmN];cases g x with
  | none=>rfl
  | some v=>
   cases v with
   | sl β o n' len cap=>
    simp only[];cases g i with
    | none=>rfl
    | some y=>
     cases y with
     | lit z=>
      cases z with
      | int kd m=>
       cases m with
       | ofNat m=>
        simp only[zeG,zk4];have h1:decide ((0:Int)<=Int.ofNat m)=true:=by simp
        have h2:decide (Int.ofNat m<(len:Int))=decide (m<len):=by simp
        rw[h1,h2,qbG];rfl
       | negSucc m=>
        have h1:decide ((0:Int)<=Int.negSucc m)=false:=by
         rw[qcN,qbK]; omega
        simp only[h1,qby,Bool.false_and,qcF]
      | _=>rfl
     | _=>rfl
   | _=>rfl
 | idxA n cnt x i=>
  simp only[qF,qG,zmN];cases g x with
  | none=>rfl
  | some v=>
   cases v with
   | ptr β o=>
    simp only[];cases g i with
    | none=>rfl
    | some y=>
     cases y with
     | lit z=>
      cases z with
      | int kd m=>
       cases m with
       | ofNat m=>
        simp only[zeG];have h1:decide ((0:Int)<=Int.ofNat m)=true:=by simp
        have h2:decide (Int.ofNat m<(cnt:Int))=decide (m<cnt):=by simp
        rw[h1,h2,qa0];rfl
       | negSucc m=>
        have h1:decide ((0:Int)<=Int.negSucc m)=false:=by
         rw[qcN,qbK]; omega
        simp only[h1,Bool.false_and,qcF]
      | _=>rfl
     | _=>rfl
   | _=>rfl
 | _=>rfl
structure RecT where
 code:Nat->Option Nat->C->StT->Option (Ex×StT)
 call:Nat->Nat->List V->zaj->Option (CR×zaj)
 dcall:Nat->Nat->List V->Option V->zaj->Option (Option V×zaj)
def zw9(T:StT)(d:Option Nat)(v:V):StT:=
 match d with
 | none=>T
 | some n=>⟨zhn T.env n v,T.dfs,T.heap⟩
theorem RS.put{T:StT}{S:St}(h:RS T S)(d:Option Nat)(v:V):RS (zw9 T d v) (S.put d v):=by
 cases d with
 | none=>exact h
 | some n=>
  obtain⟨h1,h2,h3,h4⟩:=h;obtain⟨g1,g2⟩:=zq4 h1 v n;exact⟨g1,g2.trans (by rw[h2]; rfl),h3,h4⟩
theorem RS.heap{T:StT}{S:St}(h:RS T S)(hp:zaj):RS ⟨T.env,T.dfs,hp⟩ { S with heap:=hp }:=⟨h.1,h.2.1,h.2.2.1,rfl⟩
def RecT.none:RecT:=⟨λ_ _ _ _=>.none,λ_ _ _ _=>.none,λ_ _ _ _ _=>.none⟩
end Go.Mx
