/-
 Arithmetic for the kernel: the same numbers. Conditions: none.
-/
import Derived.Test.YtbjogdohfhdaiaaGreatErMx14
set_option linter.unusedSimpArgs false
set_option linter.unusedVariables false
namespace Go.Mx
open Go
def zHT:IntKind->Nat
 | .i8=>0 | .i16=>1 | .i32=>2 | .i64=>3 | .u8=>4 | .u16=>5 | .u32=>6 | .u64=>7
def kEq(k k':IntKind):Bool:=Nat.beq (zHT k) (zHT k')
theorem zEd(k k':IntKind):kEq k k'=(k == k'):=by cases k<;>cases k'<;>rfl
def zx2:IntKind->Nat
 | .i8 | .u8=>256
 | .i16 | .u16=>65536
 | .i32 | .u32=>4294967296
 | .i64 | .u64=>18446744073709551616
def zxu:IntKind->Nat
 | .i8=>128
 | .i16=>32768
 | .i32=>2147483648
 | .i64=>9223372036854775808
 | .u8=>256
 | .u16=>65536
 | .u32=>4294967296
 | .u64=>18446744073709551616
def zG4(k:IntKind)(m:Nat):Int:=bif Nat.ble (zxu k) m then .negSucc (Nat.sub (Nat.sub (zx2 k) m) 1)else .ofNat m
def zug(k:IntKind)(n:Int):Nat:=
 match n with
 | .ofNat a=>Nat.mod a (zx2 k)
 | .negSucc a=>Nat.sub (Nat.sub (zx2 k) 1) (Nat.mod a (zx2 k))
def zh3(k:IntKind)(n:Int):Int:=zG4 k (zug k n)
theorem zE1(a b:Nat):Nat.mod a b=a % b:=rfl
theorem zwT(k:IntKind)(n:Int):((zug k n:Nat):Int)=n % (2 ^ k.bits:Int):=by
 cases k<;>cases n<;>grind [zug,zx2,IntKind.bits,zE1]
theorem zDb(k:IntKind)(m:Nat)(hm:m<zx2 k):zG4 k m=(if k.signed && decide ((m:Int)>=(2 ^ (k.bits - 1):Int))then(m:Int) - (2 ^ k.bits:Int)else(m:Int)):=by
 unfold zG4;cases hb:Nat.ble (zxu k) m with
 | true=>
  have h1:=qad hb;cases k<;>simp[zxu,zx2,IntKind.bits,IntKind.signed]at h1 hm ⊢<;>first
   |(rw[if_pos (by omega)]; rw[Int.negSucc_eq]; omega)
   | omega
 | false=>
  have h1:m<zxu k:=by
   grind [qat]
  cases k<;>simp[zxu,zx2,IntKind.bits,IntKind.signed]at h1 hm ⊢<;>try omega
theorem zBB(k:IntKind)(n:Int):zug k n<zx2 k:=by
 cases n with
 | ofNat a=>exact qa7 _ (by cases k<;>decide)
 | negSucc a=>
  have:0<zx2 k:=by cases k<;>decide
  simp only[zug,Nat.sub_eq];omega
theorem zsx(k:IntKind)(n:Int):zh3 k n=k.wrap n:=by
 grind [zh3,IntKind.wrap,zDb,zBB,zwT]
def iLt(m n:Int):Bool:=
 match m,n with
 | .ofNat a,.ofNat b=>Nat.blt a b
 | .ofNat _,.negSucc _=>false
 | .negSucc _,.ofNat _=>true
 | .negSucc a,.negSucc b=>Nat.blt b a
theorem zAS(m n:Int):iLt m n=decide (m<n):=by
 cases m<;>cases n<;>simp only[iLt]
 .rename_i a b;cases h:Nat.blt a b
  .have:¬ a<b:=λh0=>by rw[qbU.mpr h0]at h; cases h
   simp_all
  simp_all
 .rfl
 .grind
 rename_i a b;cases h:Nat.blt b a
 .have:¬ b<a:=λh0=>by rw[qbU.mpr h0]at h; cases h
  grind
 simp_all [Int.negSucc_eq]
def iLe(m n:Int):Bool:=!(iLt n m)
theorem zEH(m n:Int):iLe m n=decide (m<=n):=by
 grind [iLe,zAS]
def iEq(m n:Int):Bool:=
 match m,n with
 | .ofNat a,.ofNat b=>Nat.beq a b
 | .negSucc a,.negSucc b=>Nat.beq a b
 | _,_=>false
theorem zF3(m n:Int):iEq m n=(m == n):=by
 cases m<;>cases n<;>simp only[iEq]<;>grind [Nat.beq_refl,Int.ofNat.inj,qaF]
theorem zeZ(k:IntKind)(n:Int):(BitVec.ofInt k.bits n).toNat=zug k n:=by
 grind [BitVec.toNat_ofInt,zwT]
def ztD(op:BinOp):V->V->Option V
 | .lit (.int k m),.lit (.int k' n)=>(match op with
  | .shl=>(match n with
   | .ofNat a=>some (.lit (.int k (zh3 k (m * Int.ofNat (Nat.pow 2 (min a k.bits))))))
   | .negSucc _=>none)
  | .shr=>(match n with
   | .ofNat a=>(match m with
    | .ofNat b=>some (.lit (.int k (.ofNat (Nat.div b (Nat.pow 2 (min a k.bits))))))
    | .negSucc b=>some (.lit (.int k (Int.fdiv (.negSucc b) (Int.ofNat (Nat.pow 2 (min a k.bits)))))))
   | .negSucc _=>none)
  | op=>bif kEq k k' then(match op with
   | .add=>some (.lit (.int k (zh3 k (m+n))))
   | .sub=>some (.lit (.int k (zh3 k (m - n))))
   | .mul=>some (.lit (.int k (zh3 k (m * n))))
   | .and=>some (.lit (.int k (zh3 k (Int.ofNat (Nat.land (zug k m) (zug k n))))))
   | .or=>some (.lit (.int k (zh3 k (Int.ofNat (Nat.lor (zug k m) (zug k n))))))
   | .xor=>some (.lit (.int k (zh3 k (Int.ofNat (Nat.xor (zug k m) (zug k n))))))
   | .eql=>some (.lit (.bool (iEq m n)))
   | .neq=>some (.lit (.bool (!iEq m n)))
   | .lss=>some (.lit (.bool (iLt m n)))
   | .leq=>some (.lit (.bool (iLe m n)))
   | .gtr=>some (.lit (.bool (iLt n m)))
   | .geq=>some (.lit (.bool (iLe n m)))
   | op=>(zby op k m n).map .lit)else none)
 | _,_=>none
theorem zy7(op:BinOp)(v v':V):ztD op v v'=zod op v v':=by
 unfold ztD zod;split
 .rename_i k m k' n;cases op<;>simp only[zEd,zsx,zF3,zAS,zEH,zby,qbe]
  case shl=>
   cases n<;>simp_all
  case shr=>
   cases n with
   | ofNat a=>
    cases m with
    | ofNat b=>
     simp;have h2:((2:Int) ^ min a k.bits)=((2 ^ min a k.bits:Nat):Int):=by simp
     rw[h2,Int.fdiv_eq_ediv_of_nonneg _ (qbR _)];rfl
    | negSucc b=>simp
   | negSucc a=>rfl
  case and=>rw[BitVec.toNat_and,zeZ,zeZ]; rfl
  case or=>rw[BitVec.toNat_or,zeZ,zeZ]; rfl
  case xor=>rw[BitVec.toNat_xor,zeZ,zeZ]; rfl
  all_goals rfl
 simp_all
inductive Ch:List (List V)->Prop
 | nil:Ch []
 | last (row:List V):row.length<=10->Ch [row]
 | cons (row:List V) (e:List (List V)):row.length=10->Ch e->Ch (row :: e)
def zlk(e:List (List V))(k:Nat)(v:V):List (List V):=
 match e[Nat.div k 10]? with
 | some row=>e.set (Nat.div k 10) (row.set (Nat.mod k 10) v)
 | none=>e
theorem zyb{e:List (List V)}(h:Ch e)(v:V):∀ k,Ch (zlk e k v)/\(zlk e k v).flatten=e.flatten.set k v:=by
 induction h with
 | nil=>intro k; simp[zlk]; exact .nil
 | last row hr=>
  intro k;rcases qa0 k 10 with h | h
  .have h1:Nat.div k 10=0:=qb6 h;have h2:Nat.mod k 10=k:=qbb h;simp only[zlk,h1,h2];simp;exact .last _ (by simpa using hr)
  .have h1:Nat.div k 10≠0:=by
    have:=Nat.div_pos h (by decide:0<10);show k / 10≠0; omega
   have h3:[row][Nat.div k 10]? = none:=qbx (by simp; omega);simp only[zlk,h3];refine⟨.last _ hr,?_⟩;simp;rw[List.set_eq_of_length_le (by omega)]
 | cons row e hr hc ih=>
  intro k;rcases qa0 k 10 with h | h
  .have h1:Nat.div k 10=0:=qb6 h;have h2:Nat.mod k 10=k:=qbb h;simp only[zlk,h1,h2];simp only[qcG,qbS,qbl];refine⟨.cons _ _ (by simpa using hr) hc,?_⟩;rw[qcA _ _ (by omega)]
  obtain⟨i1,i2⟩:=ih (k - 10);have h1:Nat.div k 10=Nat.div (k - 10) 10+1:=by show k / 10=(k - 10) / 10+1; omega
  have h2:Nat.mod k 10=Nat.mod (k - 10) 10:=by show k % 10=(k - 10) % 10; omega
  have hs:zlk (row :: e) k v=row :: zlk e (k - 10) v:=by
   simp only[zlk,h1,h2,qcF];cases e[Nat.div (k - 10) 10]?<;>simp
  rw[hs];refine⟨.cons _ _ hr i1,?_⟩;simp only[qbl,i2];rw[qbY _ _ (by omega),hr]
structure StT where
 env:List (List V)
 dfs:List Df
 heap:zam
def RS(T:StT)(S:St):Prop:=Ch T.env/\T.env.flatten=S.env/\T.dfs=S.dfs/\T.heap=S.heap
def qF(g:X->Option V)(gs:List X->Option (List V))(blk:Nat->Option (List V)):I->Option V
 | .mov x=>g x
 | .load n x=>(match g x with
  | some (.ptr β o)=>(match blk β with
   | some cs=>zo0 cs o n
   | none=>none)
  | _=>none)
 | .fld off x=>(match g x with
  | some (.ptr β o)=>some (.ptr β (Nat.add o off))
  | _=>none)
 | .idxS n x i=>(match g x with
  | some (.sl β o n' len _)=>(match g i with
   | some (.lit (.int _ (.ofNat m)))=>bif Nat.beq n n' && Nat.blt m len then some (.ptr β (Nat.add o (Nat.mul m n)))else none
   | _=>none)
  | _=>none)
 | .idxA n cnt x i=>(match g x with
  | some (.ptr β o)=>(match g i with
   | some (.lit (.int _ (.ofNat m)))=>bif Nat.blt m cnt then some (.ptr β (Nat.add o (Nat.mul m n)))else none
   | _=>none)
  | _=>none)
 | .bin op x y=>(match g x with
  | some v=>(match g y with
   | some v'=>ztD op v v'
   | none=>none)
  | none=>none)
 | .conv k x=>(match g x with
  | some (.lit (.int _ m))=>some (.lit (.int k (zh3 k m)))
  | _=>none)
 | i=>qG g gs blk i
theorem zhf(a b:Nat):Nat.blt a b=decide (a<b):=by
 cases h:Nat.blt a b
 .have:¬ a<b:=λh0=>by rw[qbU.mpr h0]at h; cases h
  simp[this]
 simp_all
theorem zq3(a b:Nat):Nat.beq a b=(a == b):=by
 grind [Nat.ne_of_beq_eq_false,qaF]
theorem zGo(g:X->Option V)(gs:List X->Option (List V))(blk:Nat->Option (List V))(i:I):qF g gs blk i=qG g gs blk i:=by
 cases i with
 | bin op x y=>
  grind [qF,qG,zy7]
 | conv k x=>
  grind [qF,qG,ztA,zsx]
 | idxS n x i=>
  simp only[qF,qG,ztA];cases g x with
  | none=>rfl
  | some v=>
   cases v with
   | sl β o n' len cap=>
    simp only[];cases g i with
    | none=>rfl
    | some y=>
     cases y with
     | lit z=>
      cases z with
      | int kd m=>
       cases m<;>grind [zhf,zq3]
      | _=>rfl
     | _=>rfl
   | _=>rfl
 | idxA n cnt x i=>
  simp only[qF,qG,ztA];cases g x with
  | none=>rfl
  | some v=>
   cases v with
   | ptr β o=>
    simp only[];cases g i with
    | none=>rfl
    | some y=>
     cases y with
     | lit z=>
      cases z with
      | int kd m=>
       cases m<;>grind [zhf]
      | _=>rfl
     | _=>rfl
   | _=>rfl
 | _=>rfl
structure RecT where
 code:Nat->Option Nat->C->StT->Option (Ex×StT)
 call:Nat->Nat->List V->zam->Option (CR×zam)
 dcall:Nat->Nat->List V->Option V->zam->Option (Option V×zam)
def zHO(T:StT)(d:Option Nat)(v:V):StT:=
 match d with
 | none=>T
 | some n=>⟨zlk T.env n v,T.dfs,T.heap⟩
theorem RS.put{T:StT}{S:St}(h:RS T S)(d:Option Nat)(v:V):RS (zHO T d v) (S.put d v):=by
 cases d with
 | none=>exact h
 | some n=>
  grind [zyb,RS,zHO,Go.Mx.St.put]
theorem RS.heap{T:StT}{S:St}(h:RS T S)(hp:zam):RS ⟨T.env,T.dfs,hp⟩ { S with heap:=hp }:=⟨h.1,h.2.1,h.2.2.1,rfl⟩
def RecT.none:RecT:=⟨λ_ _ _ _=>.none,λ_ _ _ _=>.none,λ_ _ _ _ _=>.none⟩
end Go.Mx
