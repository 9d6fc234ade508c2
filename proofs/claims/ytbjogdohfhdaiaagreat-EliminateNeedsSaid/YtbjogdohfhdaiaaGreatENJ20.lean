/-
 Arithmetic for the kernel: the same numbers. Conditions: none.
-/
import Derived.Test.YtbjogdohfhdaiaaGreatENMx14
set_option linter.unusedSimpArgs false
set_option linter.unusedVariables false
namespace Go.Mx
open Go
def zEi:IntKind->Nat
 | .i8=>0 | .i16=>1 | .i32=>2 | .i64=>3 | .u8=>4 | .u16=>5 | .u32=>6 | .u64=>7
def kEq(k k':IntKind):Bool:=Nat.beq (zEi k) (zEi k')
theorem zBY(k k':IntKind):kEq k k'=(k == k'):=by cases k<;>cases k'<;>rfl
def zu0:IntKind->Nat
 | .i8 | .u8=>256
 | .i16 | .u16=>65536
 | .i32 | .u32=>4294967296
 | .i64 | .u64=>18446744073709551616
def zrO:IntKind->Nat
 | .i8=>128
 | .i16=>32768
 | .i32=>2147483648
 | .i64=>9223372036854775808
 | .u8=>256
 | .u16=>65536
 | .u32=>4294967296
 | .u64=>18446744073709551616
def zC6(k:IntKind)(m:Nat):Int:=bif Nat.ble (zrO k) m then .negSucc (Nat.sub (Nat.sub (zu0 k) m) 1)else .ofNat m
def zrx(k:IntKind)(n:Int):Nat:=
 match n with
 | .ofNat a=>Nat.mod a (zu0 k)
 | .negSucc a=>Nat.sub (Nat.sub (zu0 k) 1) (Nat.mod a (zu0 k))
def zhe(k:IntKind)(n:Int):Int:=zC6 k (zrx k n)
theorem zx7(a b:Nat):Nat.mod a b=a % b:=rfl
theorem zuy(k:IntKind)(n:Int):((zrx k n:Nat):Int)=n % (2 ^ k.bits:Int):=by
 cases k<;>cases n with
 | ofNat a=>simp[zrx,zu0,IntKind.bits,zx7]
 | negSucc a=>
  simp only[zrx,zu0,IntKind.bits,zx7,Nat.sub_eq];have:(Int.negSucc a)= -((a:Int)+1):=rfl;rw[this];simp;omega
theorem zz6(k:IntKind)(m:Nat)(hm:m<zu0 k):zC6 k m=(if k.signed && decide ((m:Int)>=(2 ^ (k.bits - 1):Int))then(m:Int) - (2 ^ k.bits:Int)else(m:Int)):=by
 unfold zC6;cases hb:Nat.ble (zrO k) m with
 | true=>
  have h1:=qal hb;cases k<;>simp[zrO,zu0,IntKind.bits,IntKind.signed]at h1 hm ⊢<;>first
   |(rw[if_pos (by omega)]; rw[qcp]; omega)
   | omega
 | false=>
  have h1:m<zrO k:=by
   rcases qbh m (zrO k)with h0 | h0
   .exact h0
   rw[qaw h0]at hb; cases hb
  cases k<;>simp[zrO,zu0,IntKind.bits,IntKind.signed]at h1 hm ⊢<;>try omega
theorem zy8(k:IntKind)(n:Int):zrx k n<zu0 k:=by
 cases n with
 | ofNat a=>exact qbk _ (by cases k<;>decide)
 | negSucc a=>
  have:0<zu0 k:=by cases k<;>decide
  simp only[zrx,Nat.sub_eq];omega
theorem zpy(k:IntKind)(n:Int):zhe k n=k.wrap n:=by
 unfold zhe IntKind.wrap;rw[zz6 k _ (zy8 k n),zuy]
def iLt(m n:Int):Bool:=
 match m,n with
 | .ofNat a,.ofNat b=>Nat.blt a b
 | .ofNat _,.negSucc _=>false
 | .negSucc _,.ofNat _=>true
 | .negSucc a,.negSucc b=>Nat.blt b a
theorem zxE(m n:Int):iLt m n=decide (m<n):=by
 cases m<;>cases n<;>simp only[iLt]
 .rename_i a b;cases h:Nat.blt a b
  .have:¬ a<b:=λh0=>by rw[qbO.mpr h0]at h; cases h
   symm; rw[qdJ]; simp; omega
  have:=qbO.mp h
  symm; rw[qdF]; simp; omega
 .symm; rw[qdJ]; rw[qcp]; simp; omega
 .symm; rw[qdF]; rw[qcp]; simp; omega
 rename_i a b;cases h:Nat.blt b a
 .have:¬ b<a:=λh0=>by rw[qbO.mpr h0]at h; cases h
  symm; rw[qdJ]; rw[qcp,qcp]; omega
 have:=qbO.mp h
 symm; rw[qdF]; rw[qcp,qcp]; omega
def iLe(m n:Int):Bool:=!(iLt n m)
theorem zBl(m n:Int):iLe m n=decide (m<=n):=by
 unfold iLe;rw[zxE];cases h:decide (m<=n)
 .rw[qdJ]at h;have:n<m:=by omega
  simp[this]
 rw[qdF]at h;have:¬ n<m:=by omega
 simp[this]
def iEq(m n:Int):Bool:=
 match m,n with
 | .ofNat a,.ofNat b=>Nat.beq a b
 | .negSucc a,.negSucc b=>Nat.beq a b
 | _,_=>false
theorem zCi(m n:Int):iEq m n=(m == n):=by
 cases m<;>cases n<;>simp only[iEq]
 .rename_i a b;cases h:Nat.beq a b
  .have:a≠b:=λh0=>by subst h0; rw[Nat.beq_refl]at h; cases h
   symm; rw[qdE]; exact λh0=>this (Int.ofNat.inj h0)
  have:=qaJ h;subst this; simp
 .symm; rw[qdE]; exact λh=>by cases h
 .symm; rw[qdE]; exact λh=>by cases h
 rename_i a b;cases h:Nat.beq a b
 .have:a≠b:=λh0=>by subst h0; rw[Nat.beq_refl]at h; cases h
  symm; rw[qdE]; simp[this]
 have:=qaJ h;subst this; simp
theorem zd6(k:IntKind)(n:Int):(BitVec.ofInt k.bits n).toNat=zrx k n:=by
 rw[BitVec.toNat_ofInt];have h:=zuy k n;have h2:((2 ^ k.bits:Nat):Int)=(2 ^ k.bits:Int):=by simp
 rw[h2,<- h];simp
def zrg(op:BinOp):V->V->Option V
 | .lit (.int k m),.lit (.int k' n)=>(match op with
  | .shl=>(match n with
   | .ofNat a=>some (.lit (.int k (zhe k (m * Int.ofNat (Nat.pow 2 (min a k.bits))))))
   | .negSucc _=>none)
  | .shr=>(match n with
   | .ofNat a=>(match m with
    | .ofNat b=>some (.lit (.int k (.ofNat (Nat.div b (Nat.pow 2 (min a k.bits))))))
    | .negSucc b=>some (.lit (.int k (Int.fdiv (.negSucc b) (Int.ofNat (Nat.pow 2 (min a k.bits)))))))
   | .negSucc _=>none)
  | op=>bif kEq k k' then(match op with
   | .add=>some (.lit (.int k (zhe k (m+n))))
   | .sub=>some (.lit (.int k (zhe k (m - n))))
   | .mul=>some (.lit (.int k (zhe k (m * n))))
   | .and=>some (.lit (.int k (zhe k (Int.ofNat (Nat.land (zrx k m) (zrx k n))))))
   | .or=>some (.lit (.int k (zhe k (Int.ofNat (Nat.lor (zrx k m) (zrx k n))))))
   | .xor=>some (.lit (.int k (zhe k (Int.ofNat (Nat.xor (zrx k m) (zrx k n))))))
   | .eql=>some (.lit (.bool (iEq m n)))
   | .neq=>some (.lit (.bool (!iEq m n)))
   | .lss=>some (.lit (.bool (iLt m n)))
   | .leq=>some (.lit (.bool (iLe m n)))
   | .gtr=>some (.lit (.bool (iLt n m)))
   | .geq=>some (.lit (.bool (iLe n m)))
   | op=>(za8 op k m n).map .lit)else none)
 | _,_=>none
theorem zvN(op:BinOp)(v v':V):zrg op v v'=zmZ op v v':=by
 unfold zrg zmZ;split
 .rename_i k m k' n;cases op<;>simp only[zBY,zpy,zCi,zxE,zBl,za8,qaU]
  case shl=>
   cases n with
   | ofNat a=>simp
   | negSucc a=>rfl
  case shr=>
   cases n with
   | ofNat a=>
    cases m with
    | ofNat b=>
     simp;have h2:((2:Int) ^ min a k.bits)=((2 ^ min a k.bits:Nat):Int):=by simp
     rw[h2,Int.fdiv_eq_ediv_of_nonneg _ (qbL _)];rfl
    | negSucc b=>simp
   | negSucc a=>rfl
  case and=>rw[BitVec.toNat_and,zd6,zd6]; rfl
  case or=>rw[BitVec.toNat_or,zd6,zd6]; rfl
  case xor=>rw[BitVec.toNat_xor,zd6,zd6]; rfl
  all_goals rfl
 rename_i h1;split
 .rename_i k m k' n;exact(h1 k m k' n rfl rfl).elim
 rfl
inductive Ch:List (List V)->Prop
 | nil:Ch []
 | last (row:List V):row.length<=10->Ch [row]
 | cons (row:List V) (e:List (List V)):row.length=10->Ch e->Ch (row :: e)
def zjV(e:List (List V))(k:Nat)(v:V):List (List V):=
 match e[Nat.div k 10]? with
 | some row=>e.set (Nat.div k 10) (row.set (Nat.mod k 10) v)
 | none=>e
theorem zwK{e:List (List V)}(h:Ch e)(v:V):∀ k,Ch (zjV e k v)/\(zjV e k v).flatten=e.flatten.set k v:=by
 induction h with
 | nil=>intro k; simp[zjV]; exact .nil
 | last row hr=>
  intro k;rcases qbh k 10 with h | h
  .have h1:Nat.div k 10=0:=qcc h;have h2:Nat.mod k 10=k:=qbm h;simp only[zjV,h1,h2];simp;exact .last _ (by simpa using hr)
  .have h1:Nat.div k 10≠0:=by
    have:=Nat.div_pos h (by decide:0<10);show k / 10≠0; omega
   have h3:[row][Nat.div k 10]? = none:=qaI (by simp; omega);simp only[zjV,h3];refine⟨.last _ hr,?_⟩;simp;rw[List.set_eq_of_length_le (by omega)]
 | cons row e hr hc ih=>
  intro k;rcases qbh k 10 with h | h
  .have h1:Nat.div k 10=0:=qcc h;have h2:Nat.mod k 10=k:=qbm h;simp only[zjV,h1,h2];simp only[qco,qcu,qbu];refine⟨.cons _ _ (by simpa using hr) hc,?_⟩;rw[List.set_append_left _ _ (by omega)]
  obtain⟨i1,i2⟩:=ih (k - 10);have h1:Nat.div k 10=Nat.div (k - 10) 10+1:=by show k / 10=(k - 10) / 10+1; omega
  have h2:Nat.mod k 10=Nat.mod (k - 10) 10:=by show k % 10=(k - 10) % 10; omega
  have hs:zjV (row :: e) k v=row :: zjV e (k - 10) v:=by
   simp only[zjV,h1,h2,qb5];cases e[Nat.div (k - 10) 10]?<;>simp
  rw[hs];refine⟨.cons _ _ hr i1,?_⟩;simp only[qbu,i2];rw[List.set_append_right _ _ (by omega),hr]
structure StT where
 env:List (List V)
 dfs:List Df
 heap:zan
def RS(T:StT)(S:St):Prop:=Ch T.env/\T.env.flatten=S.env/\T.dfs=S.dfs/\T.heap=S.heap
def qF(g:X->Option V)(gs:List X->Option (List V))(blk:Nat->Option (List V)):I->Option V
 | .mov x=>g x
 | .load n x=>(match g x with
  | some (.ptr β o)=>(match blk β with
   | some cs=>zne cs o n
   | none=>none)
  | _=>none)
 | .fld off x=>(match g x with
  | some (.ptr β o)=>some (.ptr β (Nat.add o off))
  | _=>none)
 | .idxS n x i=>(match g x with
  | some (.sl β o n' len _)=>(match g i with
   | some (.lit (.int _ (.ofNat m)))=>bif Nat.beq n n' && Nat.blt m len then some (.ptr β (Nat.add o (Nat.mul m n)))else none
   | _=>none)
  | _=>none)
 | .idxA n cnt x i=>(match g x with
  | some (.ptr β o)=>(match g i with
   | some (.lit (.int _ (.ofNat m)))=>bif Nat.blt m cnt then some (.ptr β (Nat.add o (Nat.mul m n)))else none
   | _=>none)
  | _=>none)
 | .bin op x y=>(match g x with
  | some v=>(match g y with
   | some v'=>zrg op v v'
   | none=>none)
  | none=>none)
 | .conv k x=>(match g x with
  | some (.lit (.int _ m))=>some (.lit (.int k (zhe k m)))
  | _=>none)
 | i=>qG g gs blk i
theorem zf9(a b:Nat):Nat.blt a b=decide (a<b):=by
 cases h:Nat.blt a b
 .have:¬ a<b:=λh0=>by rw[qbO.mpr h0]at h; cases h
  simp[this]
 have:=qbO.mp h;simp[this]
theorem zps(a b:Nat):Nat.beq a b=(a == b):=by
 cases h:Nat.beq a b
 .have:a≠b:=Nat.ne_of_beq_eq_false h;simp[this]
 have:a=b:=qaJ h;simp[this]
theorem zDx(g:X->Option V)(gs:List X->Option (List V))(blk:Nat->Option (List V))(i:I):qF g gs blk i=qG g gs blk i:=by
 cases i with
 | bin op x y=>
  simp only[qF,qG,zvN];cases g x<;>cases g y<;>rfl
 | conv k x=>
  simp only[qF,qG,zrI,zpy];cases g x with
  | none=>rfl
  | some v=>
   cases v with
   | lit y=>cases y<;>rfl
   | _=>rfl
 | idxS n x i=>
  simp only[qF,qG,zrI];cases g x with
  | none=>rfl
  | some v=>
   cases v with
   | sl β o n' len cap=>
    simp only[];cases g i with
    | none=>rfl
    | some y=>
     cases y with
     | lit z=>
      cases z with
      | int kd m=>
       cases m with
       | ofNat m=>
        simp only[zf9,zps];have h1:decide ((0:Int)<=Int.ofNat m)=true:=by simp
        have h2:decide (Int.ofNat m<(len:Int))=decide (m<len):=by simp
        rw[h1,h2,qdj];rfl
       | negSucc m=>
        have h1:decide ((0:Int)<=Int.negSucc m)=false:=by
         rw[qdJ,qcp]; omega
        simp only[h1,qcy,Bool.false_and,qdA]
      | _=>rfl
     | _=>rfl
   | _=>rfl
 | idxA n cnt x i=>
  simp only[qF,qG,zrI];cases g x with
  | none=>rfl
  | some v=>
   cases v with
   | ptr β o=>
    simp only[];cases g i with
    | none=>rfl
    | some y=>
     cases y with
     | lit z=>
      cases z with
      | int kd m=>
       cases m with
       | ofNat m=>
        simp only[zf9];have h1:decide ((0:Int)<=Int.ofNat m)=true:=by simp
        have h2:decide (Int.ofNat m<(cnt:Int))=decide (m<cnt):=by simp
        rw[h1,h2,qbS];rfl
       | negSucc m=>
        have h1:decide ((0:Int)<=Int.negSucc m)=false:=by
         rw[qdJ,qcp]; omega
        simp only[h1,Bool.false_and,qdA]
      | _=>rfl
     | _=>rfl
   | _=>rfl
 | _=>rfl
structure RecT where
 code:Nat->Option Nat->C->StT->Option (Ex×StT)
 call:Nat->Nat->List V->zan->Option (CR×zan)
 dcall:Nat->Nat->List V->Option V->zan->Option (Option V×zan)
def zEL(T:StT)(d:Option Nat)(v:V):StT:=
 match d with
 | none=>T
 | some n=>⟨zjV T.env n v,T.dfs,T.heap⟩
theorem RS.put{T:StT}{S:St}(h:RS T S)(d:Option Nat)(v:V):RS (zEL T d v) (S.put d v):=by
 cases d with
 | none=>exact h
 | some n=>
  obtain⟨h1,h2,h3,h4⟩:=h;obtain⟨g1,g2⟩:=zwK h1 v n;exact⟨g1,g2.trans (by rw[h2]; rfl),h3,h4⟩
theorem RS.heap{T:StT}{S:St}(h:RS T S)(hp:zan):RS ⟨T.env,T.dfs,hp⟩ { S with heap:=hp }:=⟨h.1,h.2.1,h.2.2.1,rfl⟩
def RecT.none:RecT:=⟨λ_ _ _ _=>.none,λ_ _ _ _=>.none,λ_ _ _ _ _=>.none⟩
end Go.Mx
