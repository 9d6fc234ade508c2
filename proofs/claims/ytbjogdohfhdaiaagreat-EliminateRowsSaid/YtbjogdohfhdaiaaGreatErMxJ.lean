/-
 slices.Delete, slices.Compact and slices.Sort at []int, in place: the library's own walks stand for the plain machine's steps. Conditions: none.
-/
import Derived.Test.YtbjogdohfhdaiaaGreatErMxI
import Derived.Shelf.Slices.CompactI
import Derived.Shelf.Slices.Empties
import Derived.Shelf.Sort.Plain
import Derived.Shelf.Slices.In.SortNone
import Derived.Lib.RowBridge
set_option linter.unusedSimpArgs false
set_option linter.unusedVariables false
namespace Go.Mx
open Go Go.RowKit Go.Shelf Go.Proofs Go.Sort
section
variable {P:Program} {B:Nat} {w1 w w':World} {ι:Io} {h:zam}
def zgp(z:Int):V:=.lit (.int .i64 z)
variable{zs:List Int}
theorem zkC{cs:List V}(hz:cs.mapM zj6=some zs):cs=zs.map zgp:=by
 induction cs generalizing zs with
 | nil=>simp at hz; subst hz; rfl
 | cons a r ih=>
  rw[qcZ]at hz;cases h1:zj6 a with
  | none=>rw[h1]at hz; cases hz
  | some z=>
   cases h2:r.mapM zj6 with
   | none=>rw[h1,h2]at hz; cases hz
   | some zr=>
    rw[h1,h2]at hz;cases hz<;>grind [zrS,zgp]
theorem zkQ(zs:List Int):(zs.map zgp).mapM zj6=some zs:=by
 induction zs with
 | nil=>rfl
 | cons z r ih=>grind [zgp,Go.Mx.zj6]
variable{β b s sz:Nat}
theorem Sim.holds(hS:Sim P B w1 ι h w)(hβ:zax h β=some (zs.map zgp))(hB:B<=β)(hι:ι β=some (b,s,sz)):
  Holds (Value.int .i64) w b s zs.toArray/\b<w.heap.size:=by
 obtain⟨b',s',sz',arr,T,fr,k1,k2,k3,k4,k5,k6⟩:=hS.cells hβ;rw[hι]at k1; cases k1;have hfr:=k6 hB;subst hfr;refine⟨λj hj=>?_,zbr k2⟩;have hj':j<zs.length:=by simpa using hj
 obtain⟨u,g1,g2,g3⟩:=k5 j _ (by rw[qa6,qac hj']; rfl)
 grind [World.frozen?,zer,zgp,Go.Mx.VRel]
theorem ztR(w:World)(os:Array Obj)(r:Option Nat):w.grownBy (Go.Sort.grow w os) r:=
 ⟨rfl,rfl,rfl,by simp[Go.Sort.grow],λk hk _=>by simp[Go.Sort.grow,qby hk]⟩
theorem zqq(w:World)(q:Nat)(r:Option Nat):w.grownBy (w.drewN q) r:=⟨rfl,rfl,rfl,qap _,λ_ _ _=>rfl⟩
variable{ys:List Int}
theorem Sim.zAh(hS:Sim P B w1 ι h w)(hβ:zax h β=some (zs.map zgp))(hB:B<=β)(hι:ι β=some (b,s,sz))(hl:ys.length=zs.length)(q:Nat)(os:Array Obj):
  Sim P B w1 ι (h.set β (.blk (ys.map zgp))) (Go.Sort.grow (putRow (Value.int .i64) (Go.Sort.ahead w q) b s ys.toArray) os):=by
 obtain⟨hH,_⟩:=hS.holds hβ hB hι;rw[Go.Lib.putRow_eq_setCells _ w b s _ ys q hH (by simpa using hl)];obtain⟨b',s',sz',arr,T,fr,k1,k2,k3,k4,k5,k6⟩:=hS.cells hβ;rw[hι]at k1; cases k1;have hfr:=k6 hB;subst hfr;have k2':(w.drewN q).heap[b]? = some (.cells arr T (0,0)):=k2;have hlen:(zs.map zgp).length=zs.length:=by simp
 obtain⟨arr',h1,h2,h3⟩:=zcA (ys.map (Value.int .i64)) s arr (w.drewN q) k2' (by simp; omega);rw[h1];have hat:(zhH (w.drewN q) b (.cells arr' T (0,0))).heap[b]? = some (.cells arr' T (0,0)):=zee _ (zbr k2');have hg:w.grownBy (Go.Sort.grow (zhH (w.drewN q) b (.cells arr' T (0,0))) os) (some b):=zck (zqq w q _) (zck (zcs _ _ _) (ztR _ _ _));refine hS.change (o':=.blk _) (zdF hβ) trivial hB hι hg ⟨b,s,sz,arr',T,(0,0),hι,?_,by rw[h2]; exact k3,by simp; omega,λk v hk=>?_,λ_=>rfl⟩
 .show((zhH (w.drewN q) b (.cells arr' T (0,0))).heap ++ os)[b]? = _
  grind
 rw[qa6,qal]at hk;obtain⟨z,hz,rfl⟩:=hk;have hkl:=(qab.1 hz).1;refine⟨.int .i64 z,?_,.lit _,rfl⟩<;> simp_all
theorem Sim.zu4(hS:Sim P B w1 ι h w)(hβ:zax h β=some (zs.map zgp))(hB:B<=β)(hι:ι β=some (b,s,sz))(hl:ys.length=zs.length)(q:Nat):
  Sim P B w1 ι (h.set β (.blk (ys.map zgp))) (putRow (Value.int .i64) (Go.Sort.ahead w q) b s ys.toArray):=by
 have:=hS.zAh hβ hB hι hl q #[]
 simp_all
theorem zte(w:World)(b:Nat)(o:Obj){γ:Nat}(h:γ≠b):(zhH w b o).heap[γ]? = w.heap[γ]?:=by simp[zhH,qbK (Ne.symm h)]
theorem Sim.zts(hS:Sim P B w1 ι h w)(hβ:zax h β=some (zs.map zgp))(hB:B<=β)(hι:ι β=some (b,s,sz))(hl:ys.length=zs.length)(q:Nat):
  ∀ γ,γ≠b->(putRow (Value.int .i64) (Go.Sort.ahead w q) b s ys.toArray).heap[γ]? = w.heap[γ]?:=by
 intro γ hγ;obtain⟨hH,_⟩:=hS.holds hβ hB hι;rw[Go.Lib.putRow_eq_setCells _ w b s _ ys q hH (by simpa using hl)];obtain⟨b',s',sz',arr,T,fr,k1,k2,k3,k4,k5,k6⟩:=hS.cells hβ;rw[hι]at k1; cases k1;have hfr:=k6 hB;subst hfr;have k2':(w.drewN q).heap[b]? = some (.cells arr T (0,0)):=k2;have hlen:(zs.map zgp).length=zs.length:=by simp
 obtain⟨arr',h1,h2,h3⟩:=zcA (ys.map (Value.int .i64)) s arr (w.drewN q) k2' (by simp; omega);rw[h1,zte _ _ _ hγ];rfl
theorem znK{v:V}{vs:Array Value}(ha:zgq ι [v] vs):∃ x,vs = #[x]/\VRel ι v x:=by
 obtain⟨x0,rfl⟩:∃ x0,vs = #[x0]:=by
  have:=ha.1;obtain⟨l⟩:=vs
  match l,this with
  | [a],_=>exact⟨a,rfl⟩
 exact⟨x0,rfl,ha.2 0 _ _ rfl rfl⟩
theorem zmS{len:Nat}{u:Value}(hr:VRel ι (.sl β 0 1 (len+1) none) u):∃ b s sz cap,ι β=some (b,s,sz)/\u=.slice (some ⟨b,s,none⟩) (len+1) cap/\s+cap<=sz/\len+1<=cap/\cap<2 ^ 63/\sz<=s+cap:=by
 grind [Go.Mx.VRel]
end
def zI0:Ren:=⟨λn=>108,
 λn=>if n=0 then 0 else if n=3 then 3 else if n=4 then 4 else 31,λn=>n⟩
theorem zGS:Lays2.n23 Tryz.prog zI0 where
 mixed:=by kernel_rfl
 f23:=Tryz.func108.trans (congrArg some (by kernel_rfl))
 t0:=Tryz.underlying0
 a0:=Tryz.isAgg0
 z0:=Tryz.sizeOf0
 v0:=Tryz.zeroValue0
 t3:=Tryz.underlying3
 a3:=Tryz.isAgg3
 z3:=Tryz.sizeOf3
 v3:=Tryz.zeroValue3
 t4:=Tryz.underlying4
 a4:=Tryz.isAgg4
 z4:=Tryz.sizeOf4
 v4:=Tryz.zeroValue4
 t22:=Tryz.underlying31
 a22:=Tryz.isAgg31
 z22:=Tryz.sizeOf31
 v22:=Tryz.zeroValue31
 i3:=by kernel_rfl
section
variable {B:Nat} {w1 w w':World} {ι:Io} {h:zam}
theorem zoI(hS:Sim Tryz.prog B w1 ι h w){β i j:Nat}{zs:List Int}{vs:Array Value}(ha:zgq ι [.sl β 0 1 zs.length none,.lit (.int .i64 i),.lit (.int .i64 j)] vs)
  (hβ:zax h β=some (zs.map zgp)) (hB:B<=β) (hij:i<=j) (hj:j<=zs.length) (h0:0<zs.length):
  CallsIn (FW none) 0 Tryz.prog 108 vs w (λen w'=>zfw Tryz.prog B w1 ι (.ret (.sl β 0 1 (zs.length - (j - i)) none)) (h.set β (.blk ((zs.take i ++ zs.drop j ++ List.replicate (j - i) 0).map zgp))) en w'/\zvg B h ι w w' (some β)):=by
 obtain⟨x0,x1,x2,rfl⟩:∃ x0 x1 x2,vs = #[x0,x1,x2]:=by
  have:=ha.1;obtain⟨l⟩:=vs
  match l,this with
  | [a,b,c],_=>exact⟨a,b,c,rfl⟩
 have r0:=ha.2 0 _ _ rfl rfl;have r1:=ha.2 1 _ _ rfl rfl;have r2:=ha.2 2 _ _ rfl rfl;cases r1;cases r2;obtain⟨len,hlen⟩:∃ len,zs.length=len+1:=⟨zs.length - 1,by omega⟩;rw[hlen]at r0;obtain⟨b,s,sz,cap,hι,rfl,h1,h2,h3,h4⟩:=zmS r0;rw[<- hlen]at h2 ⊢;obtain⟨hH,_⟩:=hS.holds hβ hB hι;refine callsIn_wide.2 (Calls.mono (Any.slices_Delete_int zGS b s cap i j zs w hH h2 (by omega) hij hj) λe w' hp=>?_);obtain⟨rfl,q,rfl⟩:=hp;refine⟨⟨ι,Io.le.refl _,hS.zu4 hβ hB hι (by simp; omega) q,_,rfl,?_⟩,.zld (b:=b) (s:=s) (sz:=sz) (hS.zts hβ hB hι (by simp; omega) q) rfl hι hβ hB⟩;exact .sl β 0 1 _ none b s sz cap hι (by omega) (by omega) h3 (by omega) (λc hc=>by cases hc) (λ_=>by omega)
def zoB:Orc:=λB f args h=>
 if f=108 then
  match args with
  | [.sl β 0 1 len none,.lit (.int .i64 i),.lit (.int .i64 j)]=>
   match zax h β with
   | some cs=>
    match cs.mapM zj6 with
    | some zs=>if(B<=β/\len=zs.length/\0<len)/\0<=i/\i<=j/\j<=len then
      some (.ret (.sl β 0 1 (len - (j.toNat - i.toNat)) none),h.set β (.blk ((zs.take i.toNat ++ zs.drop j.toNat ++ List.replicate (j.toNat - i.toNat) 0).map zgp)))
     else none
    | none=>none
   | none=>none
  | _=>none
 else none
theorem zBs:zhv Tryz.prog zoB:=by
 intro B f args h cr h' ho;unfold zoB at ho;split at ho
 .rename_i hf;subst hf;split at ho
  .rename_i β len i j;split at ho
   .rename_i cs hcs;split at ho
    .rename_i zs hzs;split at ho
     .rename_i hc;obtain⟨⟨h1,rfl,h0⟩,h2,h3,h4⟩:=hc;cases ho;rw[zkC hzs]at hcs;obtain⟨a,rfl⟩:∃ a:Nat,i=(a:Int):=⟨i.toNat,by omega⟩;obtain⟨c,rfl⟩:∃ c:Nat,j=(c:Int):=⟨j.toNat,by omega⟩;rw[qax,qax];exact⟨⟨λw1 ι w vs hS ha=>⟨by kernel_rfl,CallsIn.mono (zoI hS ha hcs h1 (by omega) (by omega) h0) λe w' hp=>hp.1⟩,λ_ w1 ι w vs hS ha=>zoI hS ha hcs h1 (by omega) (by omega) h0⟩,zaG.set h _ h1⟩
     cases ho
    cases ho
   cases ho
  cases ho
 cases ho
end
def zJb:Ren:=⟨λn=>139,
 λn=>if n=0 then 0 else if n=3 then 3 else if n=4 then 4 else 31,λn=>n⟩
theorem zEr:Lays2.n20 Tryz.prog zJb where
 mixed:=by kernel_rfl
 f20:=Tryz.func139.trans (congrArg some (by kernel_rfl))
 t0:=Tryz.underlying0
 a0:=Tryz.isAgg0
 z0:=Tryz.sizeOf0
 v0:=Tryz.zeroValue0
 t3:=Tryz.underlying3
 a3:=Tryz.isAgg3
 z3:=Tryz.sizeOf3
 v3:=Tryz.zeroValue3
 t4:=Tryz.underlying4
 a4:=Tryz.isAgg4
 z4:=Tryz.sizeOf4
 v4:=Tryz.zeroValue4
 t22:=Tryz.underlying31
 a22:=Tryz.isAgg31
 z22:=Tryz.sizeOf31
 v22:=Tryz.zeroValue31
 i3:=by kernel_rfl
section
variable {B:Nat} {w1 w w':World} {ι:Io} {h:zam}
theorem zlT(zs:List Int):(Go.Lib.compact zs).length<=zs.length:=Go.Lib.compact_length_le zs
variable{vs:Array Value}
theorem zwW(hS:Sim Tryz.prog B w1 ι h w){β:Nat}{zs:List Int}(ha:zgq ι [.sl β 0 1 zs.length none] vs)(hβ:zax h β=some (zs.map zgp))(hB:B<=β)(h0:0<zs.length):
  CallsIn (FW none) 0 Tryz.prog 139 vs w (zfw Tryz.prog B w1 ι (.ret (.sl β 0 1 (Go.Lib.compact zs).length none)) (h.set β (.blk ((Go.Lib.compact zs ++ List.replicate (zs.length - (Go.Lib.compact zs).length) 0).map zgp)))):=by
 obtain⟨x0,rfl,r0⟩:=znK ha;obtain⟨len,hlen⟩:∃ len,zs.length=len+1:=⟨zs.length - 1,by omega⟩;rw[hlen]at r0;obtain⟨b,s,sz,cap,hι,rfl,h1,h2,h3,h4⟩:=zmS r0;rw[<- hlen]at h2 ⊢;obtain⟨hH,_⟩:=hS.holds hβ hB hι;have hle:=zlT zs;refine callsIn_wide.2 (Calls.mono (Any.slices_Compact_int zEr b s cap zs w hH (by omega) h2) λe w' hp=>?_);obtain⟨rfl,q,rfl⟩:=hp;refine⟨ι,Io.le.refl _,hS.zu4 hβ hB hι (by simp; omega) q,_,rfl,?_⟩;exact .sl β 0 1 _ none b s sz cap hι (by omega) (by omega) h3 (by omega) (λc hc=>by cases hc) (λ_=>by omega)
theorem zlV(hS:Sim Tryz.prog B w1 ι h w){v:V}(ha:zgq ι [v] vs)(hv:(∃ β,v=.sl β 0 1 0 none)\/v=.lit (.slice none 0 0)):
  CallsIn (FW none) 0 Tryz.prog 139 vs w (zfw Tryz.prog B w1 ι (.ret v) h):=by
 obtain⟨x0,rfl,r0⟩:=znK ha;have:∃ a cap,x0=.slice a 0 cap:=by
  grind [Go.Mx.VRel]
 obtain⟨a,cap,rfl⟩:=this;refine callsIn_wide.2 (Calls.mono (Any.slices_Compact_int_empty zEr a cap w) λe w' hp=>?_)
 grind [Io.le,Go.Mx.zfw]
def zp5:Orc:=λB f args h=>
 if f=139 then
  match args with
  | [.lit (.slice none 0 0)]=>some (.ret (.lit (.slice none 0 0)),h)
  | [.sl β 0 1 0 none]=>some (.ret (.sl β 0 1 0 none),h)
  | [.sl β 0 1 (len+1) none]=>
   match zax h β with
   | some cs=>
    match cs.mapM zj6 with
    | some zs=>if B<=β/\len+1=zs.length then
      some (.ret (.sl β 0 1 (Go.Lib.compact zs).length none),h.set β (.blk ((Go.Lib.compact zs ++ List.replicate (zs.length - (Go.Lib.compact zs).length) 0).map zgp)))
     else none
    | none=>none
   | none=>none
  | _=>none
 else none
theorem zCj:zhv Tryz.prog zp5:=by
 intro B f args h cr h' ho;unfold zp5 at ho;split at ho
 .rename_i hf;subst hf;split at ho
  .cases ho;exact⟨.of (λw1 ι w vs hS ha=>⟨by kernel_rfl,zlV hS ha (.inr rfl)⟩) rfl,zaG.refl _ _⟩
  .cases ho;exact⟨.of (λw1 ι w vs hS ha=>⟨by kernel_rfl,zlV hS ha (.inl ⟨_,rfl⟩)⟩) rfl,zaG.refl _ _⟩
  .split at ho
   .rename_i cs hcs;split at ho
    .rename_i zs hzs;split at ho
     .rename_i hc;obtain⟨h1,h2⟩:=hc;cases ho;rw[zkC hzs]at hcs;exact⟨.of (λw1 ι w vs hS ha=>⟨by kernel_rfl,zwW hS (by rw[<- h2]; exact ha) hcs h1 (by omega)⟩) rfl,zaG.set h _ h1⟩
     cases ho
    cases ho
   cases ho
  cases ho
 cases ho
end
def zH8:Ren:=⟨λn=>if n=125 then 143 else if n=128 then 153 else if n=129 then 154 else if n=189 then 138 else if n=215 then 140 else if n=216 then 134 else if n=257 then 142 else if n=294 then 145 else if n=295 then 146 else if n=296 then 147 else if n=297 then 148 else if n=298 then 149 else if n=299 then 150 else if n=300 then 151 else if n=301 then 152 else if n=328 then 155 else if n=329 then 156 else if n=330 then 157 else if n=331 then 158 else if n=332 then 159 else 160,
 λn=>if n=0 then 0 else if n=3 then 3 else if n=4 then 4 else if n=5 then 5 else if n=9 then 9 else if n=28 then 31 else if n=46 then 56 else if n=51 then 226 else if n=53 then 178 else if n=131 then 158 else if n=182 then 220 else if n=183 then 221 else if n=218 then 228 else if n=222 then 232 else if n=228 then 234 else 54,λn=>n⟩
theorem zD0:Lays.n189 Tryz.prog zH8 where
 mixed:=by kernel_rfl
 f125:=Tryz.func143.trans (congrArg some (by kernel_rfl))
 f128:=Tryz.func153.trans (congrArg some (by kernel_rfl))
 f129:=Tryz.func154.trans (congrArg some (by kernel_rfl))
 f189:=Tryz.func138.trans (congrArg some (by kernel_rfl))
 f215:=Tryz.func140.trans (congrArg some (by kernel_rfl))
 f216:=Tryz.func134.trans (congrArg some (by kernel_rfl))
 f257:=Tryz.func142.trans (congrArg some (by kernel_rfl))
 f294:=Tryz.func145.trans (congrArg some (by kernel_rfl))
 f295:=Tryz.func146.trans (congrArg some (by kernel_rfl))
 f296:=Tryz.func147.trans (congrArg some (by kernel_rfl))
 f297:=Tryz.func148.trans (congrArg some (by kernel_rfl))
 f298:=Tryz.func149.trans (congrArg some (by kernel_rfl))
 f299:=Tryz.func150.trans (congrArg some (by kernel_rfl))
 f300:=Tryz.func151.trans (congrArg some (by kernel_rfl))
 f301:=Tryz.func152.trans (congrArg some (by kernel_rfl))
 f328:=Tryz.func155.trans (congrArg some (by kernel_rfl))
 f329:=Tryz.func156.trans (congrArg some (by kernel_rfl))
 f330:=Tryz.func157.trans (congrArg some (by kernel_rfl))
 f331:=Tryz.func158.trans (congrArg some (by kernel_rfl))
 f332:=Tryz.func159.trans (congrArg some (by kernel_rfl))
 f343:=Tryz.func160.trans (congrArg some (by kernel_rfl))
 t0:=Tryz.underlying0
 a0:=Tryz.isAgg0
 z0:=Tryz.sizeOf0
 v0:=Tryz.zeroValue0
 t3:=Tryz.underlying3
 a3:=Tryz.isAgg3
 z3:=Tryz.sizeOf3
 v3:=Tryz.zeroValue3
 t4:=Tryz.underlying4
 a4:=Tryz.isAgg4
 z4:=Tryz.sizeOf4
 v4:=Tryz.zeroValue4
 t5:=Tryz.underlying5
 a5:=Tryz.isAgg5
 z5:=Tryz.sizeOf5
 v5:=Tryz.zeroValue5
 t9:=Tryz.underlying9
 a9:=Tryz.isAgg9
 z9:=Tryz.sizeOf9
 v9:=Tryz.zeroValue9
 t28:=Tryz.underlying31
 a28:=Tryz.isAgg31
 z28:=Tryz.sizeOf31
 v28:=Tryz.zeroValue31
 t46:=Tryz.underlying56
 a46:=Tryz.isAgg56
 z46:=Tryz.sizeOf56
 v46:=Tryz.zeroValue56
 t51:=Tryz.underlying226
 a51:=Tryz.isAgg226
 z51:=Tryz.sizeOf226
 v51:=Tryz.zeroValue226
 t53:=Tryz.underlying178
 a53:=Tryz.isAgg178
 z53:=Tryz.sizeOf178
 v53:=Tryz.zeroValue178
 t131:=Tryz.underlying158
 a131:=Tryz.isAgg158
 z131:=Tryz.sizeOf158
 v131:=Tryz.zeroValue158
 t182:=Tryz.underlying220
 a182:=Tryz.isAgg220
 z182:=Tryz.sizeOf220
 v182:=Tryz.zeroValue220
 t183:=Tryz.underlying221
 a183:=Tryz.isAgg221
 z183:=Tryz.sizeOf221
 v183:=Tryz.zeroValue221
 t218:=Tryz.underlying228
 a218:=Tryz.isAgg228
 z218:=Tryz.sizeOf228
 v218:=Tryz.zeroValue228
 t222:=Tryz.underlying232
 a222:=Tryz.isAgg232
 z222:=Tryz.sizeOf232
 v222:=Tryz.zeroValue232
 t228:=Tryz.underlying234
 a228:=Tryz.isAgg234
 z228:=Tryz.sizeOf234
 v228:=Tryz.zeroValue234
 t229:=Tryz.underlying54
 a229:=Tryz.isAgg54
 z229:=Tryz.sizeOf54
 v229:=Tryz.zeroValue54
section
variable {B:Nat} {w1 w w':World} {ι:Io} {h:zam}
def zgk(zs:List Int):List Int:=zs.mergeSort λx y=>decide (x<=y)
theorem zkv(zs:List Int):(zgk zs).length=zs.length:=List.length_mergeSort _
variable{vs:Array Value}
theorem zur(hS:Sim Tryz.prog B w1 ι h w){β:Nat}{zs:List Int}(ha:zgq ι [.sl β 0 1 zs.length none] vs)(hβ:zax h β=some (zs.map zgp))(hB:B<=β)(h0:0<zs.length)(hbig:zs.length * 8<=140737488355328):
  CallsIn (FW none) 0 Tryz.prog 138 vs w (zfw Tryz.prog B w1 ι (.ret (.tup [])) (h.set β (.blk ((zgk zs).map zgp)))):=by
 obtain⟨x0,rfl,r0⟩:=znK ha;obtain⟨len,hlen⟩:∃ len,zs.length=len+1:=⟨zs.length - 1,by omega⟩;rw[hlen]at r0;obtain⟨b,s,sz,cap,hι,rfl,h1,h2,h3,h4⟩:=zmS r0;rw[<- hlen]at h2 ⊢;obtain⟨hH,hb⟩:=hS.holds hβ hB hι;refine callsIn_wide.2 (Calls.mono (Any.slices_Sort_int zD0 b s cap zs w hH hb (by omega)) λe w' hp=>?_);obtain⟨rfl,q,os,rfl⟩:=hp;exact⟨ι,Io.le.refl _,hS.zAh hβ hB hι (zkv zs) q os,_,rfl,.tup [] #[] rfl λi x v h1 _=>by simp at h1⟩
theorem zl4(hS:Sim Tryz.prog B w1 ι h w){v:V}(ha:zgq ι [v] vs)(hv:(∃ β,v=.sl β 0 1 0 none)\/v=.lit (.slice none 0 0)):
  CallsIn (FW none) 0 Tryz.prog 138 vs w (zfw Tryz.prog B w1 ι (.ret (.tup [])) h):=by
 obtain⟨x0,rfl,r0⟩:=znK ha;have:∃ a cap,x0=.slice a 0 cap:=by
  grind [Go.Mx.VRel]
 obtain⟨a,cap,rfl⟩:=this;refine callsIn_wide.2 (Calls.mono (Any.slices_Sort_int_none zD0 a cap w) λe w' hp=>?_);obtain⟨rfl,rfl⟩:=hp
 grind [Io.le,Go.Mx.zfw,Go.Mx.VRel]
def zrA:Orc:=λB f args h=>
 if f=138 then
  match args with
  | [.lit (.slice none 0 0)]=>some (.ret (.tup []),h)
  | [.sl β 0 1 0 none]=>some (.ret (.tup []),h)
  | [.sl β 0 1 (len+1) none]=>
   match zax h β with
   | some cs=>
    match cs.mapM zj6 with
    | some zs=>if(B<=β/\len+1=zs.length)/\zs.length * 8<=140737488355328 then some (.ret (.tup []),h.set β (.blk ((zgk zs).map zgp)))else none
    | none=>none
   | none=>none
  | _=>none
 else none
theorem zCa:zhv Tryz.prog zrA:=by
 intro B f args h cr h' ho;unfold zrA at ho;split at ho
 .rename_i hf;subst hf;split at ho
  .cases ho;exact⟨.of (λw1 ι w vs hS ha=>⟨by kernel_rfl,zl4 hS ha (.inr rfl)⟩) rfl,zaG.refl _ _⟩
  .cases ho;exact⟨.of (λw1 ι w vs hS ha=>⟨by kernel_rfl,zl4 hS ha (.inl ⟨_,rfl⟩)⟩) rfl,zaG.refl _ _⟩
  .split at ho
   .rename_i cs hcs;split at ho
    .rename_i zs hzs;split at ho
     .rename_i hc;obtain⟨⟨h1,h2⟩,h3⟩:=hc;cases ho;rw[zkC hzs]at hcs;exact⟨.of (λw1 ι w vs hS ha=>⟨by kernel_rfl,zur hS (by rw[<- h2]; exact ha) hcs h1 (by omega) h3⟩) rfl,zaG.set h _ h1⟩
     cases ho
    cases ho
   cases ho
  cases ho
 cases ho
end
end Go.Mx
namespace Go.Mx
open Go Go.Proofs
def isX(f:Nat):Bool:=Nat.beq f 123 || Nat.beq f 109 || Nat.beq f 108 || Nat.beq f 139 || Nat.beq f 138
def zho:Orc:=λB f args h=>zjH (zna B f args h) (zjH (zec B f args h) (zjH (zoB B f args h) (zjH (zp5 B f args h) (zrA B f args h))))
theorem ziZ{P:Program}{o1 o2:Orc}(h1:zhv P o1)(h2:zhv P o2):zhv P λB f args h=>zjH (o1 B f args h) (o2 B f args h):=by
 intro B f args h cr h' ho;simp only[zjH]at ho;split at ho
 .rename_i x hx;cases ho;exact h1 _ _ _ _ _ _ hx
 exact h2 _ _ _ _ _ _ ho
theorem zja:zhv Tryz.prog zho:=ziZ zCs (ziZ zvW (ziZ zBs (ziZ zCj zCa)))
theorem zxJ{f:Nat}(hf:isX f=false)(B:Nat)(args:List V)(h:zam):zho B f args h=none:=by
 unfold isX at hf;have h1:f≠123:=by rintro rfl; cases hf
 have h2:f≠109:=by rintro rfl; cases hf
 have h3:f≠108:=by rintro rfl; cases hf
 have h4:f≠139:=by rintro rfl; cases hf
 have h5:f≠138:=by rintro rfl; cases hf
 unfold zho zjH zna zec zoB zp5 zrA;rw[if_neg h1,if_neg h2,if_neg h3,if_neg h4,if_neg h5]
end Go.Mx
