/-
 slices.Delete, slices.Compact and slices.Sort at []int, in place: the library's own walks stand for the plain machine's steps. Conditions: none.
-/
import Derived.Test.YtbjogdohfhdaiaaCfMxI
import Derived.Shelf.Slices.CompactI
import Derived.Shelf.Slices.Empties
import Derived.Shelf.Sort.Plain
import Derived.Shelf.Slices.In.SortNone
import Derived.Lib.RowBridge
set_option linter.unusedSimpArgs false
set_option linter.unusedVariables false
namespace Go.Mx
open Go Go.RowKit Go.Shelf Go.Proofs Go.Sort
section
variable {P:Program} {B:Nat} {w1 w w':World} {ι:Io} {h:zaj}
def zlD(z:Int):V:=.lit (.int .i64 z)
variable{zs:List Int}
theorem ziB{cs:List V}(hz:cs.mapM zrj=some zs):cs=zs.map zlD:=by
 induction cs generalizing zs with
 | nil=>simp at hz; subst hz; rfl
 | cons a r ih=>
  rw[qcU]at hz;cases h1:zrj a with
  | none=>rw[h1]at hz; cases hz
  | some z=>
   cases h2:r.mapM zrj with
   | none=>rw[h1,h2]at hz; cases hz
   | some zr=>
    rw[h1,h2]at hz;cases hz;rw[qaS,<- ih h2,zpQ h1];rfl
variable{β b s sz:Nat}
theorem Sim.holds(hS:Sim P B w1 ι h w)(hβ:zas h β=some (zs.map zlD))(hB:B<=β)(hι:ι β=some (b,s,sz)):
  Holds (Value.int .i64) w b s zs.toArray/\b<w.heap.size:=by
 obtain⟨b',s',sz',arr,T,fr,k1,k2,k3,k4,k5,k6⟩:=hS.cells hβ;rw[hι]at k1; cases k1;have hfr:=k6 hB;subst hfr;refine⟨λj hj=>?_,zaw k2⟩;have hj':j<zs.length:=by simpa using hj
 obtain⟨u,g1,g2,g3⟩:=k5 j _ (by rw[qaO,qac hj']; rfl);cases g2;refine⟨?_,by simp[World.frozen?,k2]⟩;rw[zdi k2 g1];simp[hj']
theorem zq5(w:World)(os:Array Obj)(r:Option Nat):w.grownBy (Go.Sort.grow w os) r:=
 ⟨rfl,rfl,rfl,by simp[Go.Sort.grow],λk hk _=>by simp[Go.Sort.grow,qbm hk]⟩
theorem zn7(w:World)(q:Nat)(r:Option Nat):w.grownBy (w.drewN q) r:=⟨rfl,rfl,rfl,qap _,λ_ _ _=>rfl⟩
variable{ys:List Int}
theorem Sim.zxx(hS:Sim P B w1 ι h w)(hβ:zas h β=some (zs.map zlD))(hB:B<=β)(hι:ι β=some (b,s,sz))(hl:ys.length=zs.length)(q:Nat)(os:Array Obj):
  Sim P B w1 ι (h.set β (.blk (ys.map zlD))) (Go.Sort.grow (putRow (Value.int .i64) (Go.Sort.ahead w q) b s ys.toArray) os):=by
 obtain⟨hH,_⟩:=hS.holds hβ hB hι;rw[Go.Lib.putRow_eq_setCells _ w b s _ ys q hH (by simpa using hl)];obtain⟨b',s',sz',arr,T,fr,k1,k2,k3,k4,k5,k6⟩:=hS.cells hβ;rw[hι]at k1; cases k1;have hfr:=k6 hB;subst hfr;have k2':(w.drewN q).heap[b]? = some (.cells arr T (0,0)):=k2;have hlen:(zs.map zlD).length=zs.length:=by simp
 obtain⟨arr',h1,h2,h3⟩:=zbP (ys.map (Value.int .i64)) s arr (w.drewN q) k2' (by simp; omega);rw[h1];have hat:(zgj (w.drewN q) b (.cells arr' T (0,0))).heap[b]? = some (.cells arr' T (0,0)):=zdd _ (zaw k2');have hg:w.grownBy (Go.Sort.grow (zgj (w.drewN q) b (.cells arr' T (0,0))) os) (some b):=zbv (zn7 w q _) (zbv (zbJ _ _ _) (zq5 _ _ _));refine hS.change (o':=.blk _) (zcn hβ) trivial hB hι hg ⟨b,s,sz,arr',T,(0,0),hι,?_,by rw[h2]; exact k3,by simp; omega,λk v hk=>?_,λ_=>rfl⟩
 .show((zgj (w.drewN q) b (.cells arr' T (0,0))).heap ++ os)[b]? = _;rw[qbm (zaw hat)];exact hat
 rw[qaO,qam]at hk;obtain⟨z,hz,rfl⟩:=hk;have hkl:=(qab.1 hz).1;refine⟨.int .i64 z,?_,.lit _,rfl⟩;rw[h3,if_pos (by simp; omega)];simp[hz]
theorem Sim.zrK(hS:Sim P B w1 ι h w)(hβ:zas h β=some (zs.map zlD))(hB:B<=β)(hι:ι β=some (b,s,sz))(hl:ys.length=zs.length)(q:Nat):
  Sim P B w1 ι (h.set β (.blk (ys.map zlD))) (putRow (Value.int .i64) (Go.Sort.ahead w q) b s ys.toArray):=by
 have:=hS.zxx hβ hB hι hl q #[];rw[grow_empty]at this;exact this
theorem zqq(w:World)(b:Nat)(o:Obj){γ:Nat}(h:γ≠b):(zgj w b o).heap[γ]? = w.heap[γ]?:=by simp[zgj,qa0 (Ne.symm h)]
theorem Sim.zrf(hS:Sim P B w1 ι h w)(hβ:zas h β=some (zs.map zlD))(hB:B<=β)(hι:ι β=some (b,s,sz))(hl:ys.length=zs.length)(q:Nat):
  ∀ γ,γ≠b->(putRow (Value.int .i64) (Go.Sort.ahead w q) b s ys.toArray).heap[γ]? = w.heap[γ]?:=by
 intro γ hγ;obtain⟨hH,_⟩:=hS.holds hβ hB hι;rw[Go.Lib.putRow_eq_setCells _ w b s _ ys q hH (by simpa using hl)];obtain⟨b',s',sz',arr,T,fr,k1,k2,k3,k4,k5,k6⟩:=hS.cells hβ;rw[hι]at k1; cases k1;have hfr:=k6 hB;subst hfr;have k2':(w.drewN q).heap[b]? = some (.cells arr T (0,0)):=k2;have hlen:(zs.map zlD).length=zs.length:=by simp
 obtain⟨arr',h1,h2,h3⟩:=zbP (ys.map (Value.int .i64)) s arr (w.drewN q) k2' (by simp; omega);rw[h1,zqq _ _ _ hγ];rfl
theorem zld{v:V}{vs:Array Value}(ha:zfT ι [v] vs):∃ x,vs = #[x]/\VRel ι v x:=by
 obtain⟨x0,rfl⟩:∃ x0,vs = #[x0]:=by
  have:=ha.1;obtain⟨l⟩:=vs
  match l,this with
  | [a],_=>exact⟨a,rfl⟩
 exact⟨x0,rfl,ha.2 0 _ _ rfl rfl⟩
theorem zkH{len:Nat}{u:Value}(hr:VRel ι (.sl β 0 1 (len+1) none) u):∃ b s sz cap,ι β=some (b,s,sz)/\u=.slice (some ⟨b,s,none⟩) (len+1) cap/\s+cap<=sz/\len+1<=cap/\cap<2 ^ 63/\sz<=s+cap:=by
 cases hr with
 | sl _ _ _ _ _ b s sz cap h1 h2 h3 h4 h5 h6 h7=>exact⟨b,s,sz,cap,h1,rfl,by omega,h3,h4,by have:=h7 rfl; omega⟩
theorem zsg{u:Value}(hr:VRel ι (.sl β 0 1 0 none) u):∃ a cap,u=.slice a 0 cap:=by
 cases hr with
 | sl _ _ _ _ _ b s sz cap h1 h2 h3 h4 h5 h6 h7=>exact⟨_,_,rfl⟩
 | sl0=>exact⟨_,_,rfl⟩
end
def zDQ:Ren:=⟨λn=>91,
 λn=>if n=0 then 0 else if n=3 then 3 else if n=4 then 4 else 29,λn=>n⟩
theorem zCD:Lays2.n23 Try.prog zDQ where
 mixed:=by kernel_rfl
 f23:=Try.func91.trans (congrArg some (by kernel_rfl))
 t0:=Try.underlying0
 a0:=Try.isAgg0
 z0:=Try.sizeOf0
 v0:=Try.zeroValue0
 t3:=Try.underlying3
 a3:=Try.isAgg3
 z3:=Try.sizeOf3
 v3:=Try.zeroValue3
 t4:=Try.underlying4
 a4:=Try.isAgg4
 z4:=Try.sizeOf4
 v4:=Try.zeroValue4
 t22:=Try.underlying29
 a22:=Try.isAgg29
 z22:=Try.sizeOf29
 v22:=Try.zeroValue29
 i3:=by kernel_rfl
section
variable {B:Nat} {w1 w w':World} {ι:Io} {h:zaj}
theorem zmY(hS:Sim Try.prog B w1 ι h w){β i j:Nat}{zs:List Int}{vs:Array Value}(ha:zfT ι [.sl β 0 1 zs.length none,.lit (.int .i64 i),.lit (.int .i64 j)] vs)
  (hβ:zas h β=some (zs.map zlD)) (hB:B<=β) (hij:i<=j) (hj:j<=zs.length) (h0:0<zs.length):
  CallsIn (FW none) 0 Try.prog 91 vs w (λen w'=>zeF Try.prog B w1 ι (.ret (.sl β 0 1 (zs.length - (j - i)) none)) (h.set β (.blk ((zs.take i ++ zs.drop j ++ List.replicate (j - i) 0).map zlD))) en w'/\zte B h ι w w' (some β)):=by
 obtain⟨x0,x1,x2,rfl⟩:∃ x0 x1 x2,vs = #[x0,x1,x2]:=by
  have:=ha.1;obtain⟨l⟩:=vs
  match l,this with
  | [a,b,c],_=>exact⟨a,b,c,rfl⟩
 have r0:=ha.2 0 _ _ rfl rfl;have r1:=ha.2 1 _ _ rfl rfl;have r2:=ha.2 2 _ _ rfl rfl;cases r1;cases r2;obtain⟨len,hlen⟩:∃ len,zs.length=len+1:=⟨zs.length - 1,by omega⟩;rw[hlen]at r0;obtain⟨b,s,sz,cap,hι,rfl,h1,h2,h3,h4⟩:=zkH r0;rw[<- hlen]at h2 ⊢;obtain⟨hH,_⟩:=hS.holds hβ hB hι;refine callsIn_wide.2 (Calls.mono (Any.slices_Delete_int zCD b s cap i j zs w hH h2 (by omega) hij hj) λe w' hp=>?_);obtain⟨rfl,q,rfl⟩:=hp;refine⟨⟨ι,Io.le.refl _,hS.zrK hβ hB hι (by simp; omega) q,_,rfl,?_⟩,.zio (b:=b) (s:=s) (sz:=sz) (hS.zrf hβ hB hι (by simp; omega) q) rfl hι hβ hB⟩;exact .sl β 0 1 _ none b s sz cap hι (by omega) (by omega) h3 (by omega) (λc hc=>by cases hc) (λ_=>by omega)
def zBF:Orc:=λB f args h=>
 if f=91 then
  match args with
  | [.sl β 0 1 len none,.lit (.int .i64 i),.lit (.int .i64 j)]=>
   match zas h β with
   | some cs=>
    match cs.mapM zrj with
    | some zs=>if(B<=β/\len=zs.length/\0<len)/\0<=i/\i<=j/\j<=len then
      some (.ret (.sl β 0 1 (len - (j.toNat - i.toNat)) none),h.set β (.blk ((zs.take i.toNat ++ zs.drop j.toNat ++ List.replicate (j.toNat - i.toNat) 0).map zlD)))
     else none
    | none=>none
   | none=>none
  | _=>none
 else none
theorem zyP:zgQ Try.prog zBF:=by
 intro B f args h cr h' ho;unfold zBF at ho;split at ho
 .rename_i hf;subst hf;split at ho
  .rename_i β len i j;split at ho
   .rename_i cs hcs;split at ho
    .rename_i zs hzs;split at ho
     .rename_i hc;obtain⟨⟨h1,rfl,h0⟩,h2,h3,h4⟩:=hc;cases ho;rw[ziB hzs]at hcs;obtain⟨a,rfl⟩:∃ a:Nat,i=(a:Int):=⟨i.toNat,by omega⟩;obtain⟨c,rfl⟩:∃ c:Nat,j=(c:Int):=⟨j.toNat,by omega⟩;rw[qaq,qaq];exact⟨⟨λw1 ι w vs hS ha=>⟨by kernel_rfl,CallsIn.mono (zmY hS ha hcs h1 (by omega) (by omega) h0) λe w' hp=>hp.1⟩,λ_ w1 ι w vs hS ha=>zmY hS ha hcs h1 (by omega) (by omega) h0⟩,zar.set h _ h1⟩
     cases ho
    cases ho
   cases ho
  cases ho
 cases ho
end
def zEb:Ren:=⟨λn=>118,
 λn=>if n=0 then 0 else if n=3 then 3 else if n=4 then 4 else 29,λn=>n⟩
theorem zA8:Lays2.n20 Try.prog zEb where
 mixed:=by kernel_rfl
 f20:=Try.func118.trans (congrArg some (by kernel_rfl))
 t0:=Try.underlying0
 a0:=Try.isAgg0
 z0:=Try.sizeOf0
 v0:=Try.zeroValue0
 t3:=Try.underlying3
 a3:=Try.isAgg3
 z3:=Try.sizeOf3
 v3:=Try.zeroValue3
 t4:=Try.underlying4
 a4:=Try.isAgg4
 z4:=Try.sizeOf4
 v4:=Try.zeroValue4
 t22:=Try.underlying29
 a22:=Try.isAgg29
 z22:=Try.sizeOf29
 v22:=Try.zeroValue29
 i3:=by kernel_rfl
section
variable {B:Nat} {w1 w w':World} {ι:Io} {h:zaj}
theorem zqk(zs:List Int):(Go.Lib.compact zs).length<=zs.length:=Go.Lib.compact_length_le zs
variable{vs:Array Value}
theorem zsD(hS:Sim Try.prog B w1 ι h w){β:Nat}{zs:List Int}(ha:zfT ι [.sl β 0 1 zs.length none] vs)(hβ:zas h β=some (zs.map zlD))(hB:B<=β)(h0:0<zs.length):
  CallsIn (FW none) 0 Try.prog 118 vs w (zeF Try.prog B w1 ι (.ret (.sl β 0 1 (Go.Lib.compact zs).length none)) (h.set β (.blk ((Go.Lib.compact zs ++ List.replicate (zs.length - (Go.Lib.compact zs).length) 0).map zlD)))):=by
 obtain⟨x0,rfl,r0⟩:=zld ha;obtain⟨len,hlen⟩:∃ len,zs.length=len+1:=⟨zs.length - 1,by omega⟩;rw[hlen]at r0;obtain⟨b,s,sz,cap,hι,rfl,h1,h2,h3,h4⟩:=zkH r0;rw[<- hlen]at h2 ⊢;obtain⟨hH,_⟩:=hS.holds hβ hB hι;have hle:=zqk zs;refine callsIn_wide.2 (Calls.mono (Any.slices_Compact_int zA8 b s cap zs w hH (by omega) h2) λe w' hp=>?_);obtain⟨rfl,q,rfl⟩:=hp;refine⟨ι,Io.le.refl _,hS.zrK hβ hB hι (by simp; omega) q,_,rfl,?_⟩;exact .sl β 0 1 _ none b s sz cap hι (by omega) (by omega) h3 (by omega) (λc hc=>by cases hc) (λ_=>by omega)
theorem zjN(hS:Sim Try.prog B w1 ι h w){v:V}(ha:zfT ι [v] vs)(hv:(∃ β,v=.sl β 0 1 0 none)\/v=.lit (.slice none 0 0)):
  CallsIn (FW none) 0 Try.prog 118 vs w (zeF Try.prog B w1 ι (.ret v) h):=by
 obtain⟨x0,rfl,r0⟩:=zld ha;have:∃ a cap,x0=.slice a 0 cap:=by
  rcases hv with⟨β,rfl⟩| rfl
  .exact zsg r0
  cases r0; exact⟨_,_,rfl⟩
 obtain⟨a,cap,rfl⟩:=this;refine callsIn_wide.2 (Calls.mono (Any.slices_Compact_int_empty zA8 a cap w) λe w' hp=>?_);obtain⟨rfl,rfl⟩:=hp;exact⟨ι,Io.le.refl _,hS,_,rfl,r0⟩
def zBE:Orc:=λB f args h=>
 if f=118 then
  match args with
  | [.lit (.slice none 0 0)]=>some (.ret (.lit (.slice none 0 0)),h)
  | [.sl β 0 1 0 none]=>some (.ret (.sl β 0 1 0 none),h)
  | [.sl β 0 1 (len+1) none]=>
   match zas h β with
   | some cs=>
    match cs.mapM zrj with
    | some zs=>if B<=β/\len+1=zs.length then
      some (.ret (.sl β 0 1 (Go.Lib.compact zs).length none),h.set β (.blk ((Go.Lib.compact zs ++ List.replicate (zs.length - (Go.Lib.compact zs).length) 0).map zlD)))
     else none
    | none=>none
   | none=>none
  | _=>none
 else none
theorem zyh:zgQ Try.prog zBE:=by
 intro B f args h cr h' ho;unfold zBE at ho;split at ho
 .rename_i hf;subst hf;split at ho
  .cases ho;exact⟨.of (λw1 ι w vs hS ha=>⟨by kernel_rfl,zjN hS ha (.inr rfl)⟩) rfl,zar.refl _ _⟩
  .cases ho;exact⟨.of (λw1 ι w vs hS ha=>⟨by kernel_rfl,zjN hS ha (.inl ⟨_,rfl⟩)⟩) rfl,zar.refl _ _⟩
  .split at ho
   .rename_i cs hcs;split at ho
    .rename_i zs hzs;split at ho
     .rename_i hc;obtain⟨h1,h2⟩:=hc;cases ho;rw[ziB hzs]at hcs;exact⟨.of (λw1 ι w vs hS ha=>⟨by kernel_rfl,zsD hS (by rw[<- h2]; exact ha) hcs h1 (by omega)⟩) rfl,zar.set h _ h1⟩
     cases ho
    cases ho
   cases ho
  cases ho
 cases ho
end
def zDG:Ren:=⟨λn=>if n=125 then 138 else if n=128 then 161 else if n=129 then 162 else if n=189 then 117 else if n=215 then 175 else if n=216 then 158 else if n=257 then 137 else if n=294 then 152 else if n=295 then 153 else if n=296 then 154 else if n=297 then 155 else if n=298 then 156 else if n=299 then 157 else if n=300 then 159 else if n=301 then 160 else if n=328 then 170 else if n=329 then 171 else if n=330 then 172 else if n=331 then 173 else if n=332 then 174 else 183,
 λn=>if n=0 then 0 else if n=3 then 3 else if n=4 then 4 else if n=5 then 5 else if n=9 then 9 else if n=28 then 29 else if n=46 then 48 else if n=51 then 241 else if n=53 then 149 else if n=131 then 107 else if n=182 then 234 else if n=183 then 235 else if n=218 then 248 else if n=222 then 186 else if n=228 then 255 else 256,λn=>n⟩
theorem zBs:Lays.n189 Try.prog zDG where
 mixed:=by kernel_rfl
 f125:=Try.func138.trans (congrArg some (by kernel_rfl))
 f128:=Try.func161.trans (congrArg some (by kernel_rfl))
 f129:=Try.func162.trans (congrArg some (by kernel_rfl))
 f189:=Try.func117.trans (congrArg some (by kernel_rfl))
 f215:=Try.func175.trans (congrArg some (by kernel_rfl))
 f216:=Try.func158.trans (congrArg some (by kernel_rfl))
 f257:=Try.func137.trans (congrArg some (by kernel_rfl))
 f294:=Try.func152.trans (congrArg some (by kernel_rfl))
 f295:=Try.func153.trans (congrArg some (by kernel_rfl))
 f296:=Try.func154.trans (congrArg some (by kernel_rfl))
 f297:=Try.func155.trans (congrArg some (by kernel_rfl))
 f298:=Try.func156.trans (congrArg some (by kernel_rfl))
 f299:=Try.func157.trans (congrArg some (by kernel_rfl))
 f300:=Try.func159.trans (congrArg some (by kernel_rfl))
 f301:=Try.func160.trans (congrArg some (by kernel_rfl))
 f328:=Try.func170.trans (congrArg some (by kernel_rfl))
 f329:=Try.func171.trans (congrArg some (by kernel_rfl))
 f330:=Try.func172.trans (congrArg some (by kernel_rfl))
 f331:=Try.func173.trans (congrArg some (by kernel_rfl))
 f332:=Try.func174.trans (congrArg some (by kernel_rfl))
 f343:=Try.func183.trans (congrArg some (by kernel_rfl))
 t0:=Try.underlying0
 a0:=Try.isAgg0
 z0:=Try.sizeOf0
 v0:=Try.zeroValue0
 t3:=Try.underlying3
 a3:=Try.isAgg3
 z3:=Try.sizeOf3
 v3:=Try.zeroValue3
 t4:=Try.underlying4
 a4:=Try.isAgg4
 z4:=Try.sizeOf4
 v4:=Try.zeroValue4
 t5:=Try.underlying5
 a5:=Try.isAgg5
 z5:=Try.sizeOf5
 v5:=Try.zeroValue5
 t9:=Try.underlying9
 a9:=Try.isAgg9
 z9:=Try.sizeOf9
 v9:=Try.zeroValue9
 t28:=Try.underlying29
 a28:=Try.isAgg29
 z28:=Try.sizeOf29
 v28:=Try.zeroValue29
 t46:=Try.underlying48
 a46:=Try.isAgg48
 z46:=Try.sizeOf48
 v46:=Try.zeroValue48
 t51:=Try.underlying241
 a51:=Try.isAgg241
 z51:=Try.sizeOf241
 v51:=Try.zeroValue241
 t53:=Try.underlying149
 a53:=Try.isAgg149
 z53:=Try.sizeOf149
 v53:=Try.zeroValue149
 t131:=Try.underlying107
 a131:=Try.isAgg107
 z131:=Try.sizeOf107
 v131:=Try.zeroValue107
 t182:=Try.underlying234
 a182:=Try.isAgg234
 z182:=Try.sizeOf234
 v182:=Try.zeroValue234
 t183:=Try.underlying235
 a183:=Try.isAgg235
 z183:=Try.sizeOf235
 v183:=Try.zeroValue235
 t218:=Try.underlying248
 a218:=Try.isAgg248
 z218:=Try.sizeOf248
 v218:=Try.zeroValue248
 t222:=Try.underlying186
 a222:=Try.isAgg186
 z222:=Try.sizeOf186
 v222:=Try.zeroValue186
 t228:=Try.underlying255
 a228:=Try.isAgg255
 z228:=Try.sizeOf255
 v228:=Try.zeroValue255
 t229:=Try.underlying256
 a229:=Try.isAgg256
 z229:=Try.sizeOf256
 v229:=Try.zeroValue256
section
variable {B:Nat} {w1 w w':World} {ι:Io} {h:zaj}
def zxZ(zs:List Int):List Int:=zs.mergeSort λx y=>decide (x<=y)
theorem zuL(zs:List Int):(zxZ zs).length=zs.length:=List.length_mergeSort _
variable{vs:Array Value}
theorem zus(hS:Sim Try.prog B w1 ι h w){β:Nat}{zs:List Int}(ha:zfT ι [.sl β 0 1 zs.length none] vs)(hβ:zas h β=some (zs.map zlD))(hB:B<=β)(h0:0<zs.length)(hbig:zs.length * 8<=140737488355328):
  CallsIn (FW none) 0 Try.prog 117 vs w (zeF Try.prog B w1 ι (.ret (.tup [])) (h.set β (.blk ((zxZ zs).map zlD)))):=by
 obtain⟨x0,rfl,r0⟩:=zld ha;obtain⟨len,hlen⟩:∃ len,zs.length=len+1:=⟨zs.length - 1,by omega⟩;rw[hlen]at r0;obtain⟨b,s,sz,cap,hι,rfl,h1,h2,h3,h4⟩:=zkH r0;rw[<- hlen]at h2 ⊢;obtain⟨hH,hb⟩:=hS.holds hβ hB hι;refine callsIn_wide.2 (Calls.mono (Any.slices_Sort_int zBs b s cap zs w hH hb (by omega)) λe w' hp=>?_);obtain⟨rfl,q,os,rfl⟩:=hp;exact⟨ι,Io.le.refl _,hS.zxx hβ hB hι (zuL zs) q os,_,rfl,.tup [] #[] rfl λi x v h1 _=>by simp at h1⟩
theorem zkc(hS:Sim Try.prog B w1 ι h w){v:V}(ha:zfT ι [v] vs)(hv:(∃ β,v=.sl β 0 1 0 none)\/v=.lit (.slice none 0 0)):
  CallsIn (FW none) 0 Try.prog 117 vs w (zeF Try.prog B w1 ι (.ret (.tup [])) h):=by
 obtain⟨x0,rfl,r0⟩:=zld ha;have:∃ a cap,x0=.slice a 0 cap:=by
  rcases hv with⟨β,rfl⟩| rfl
  .exact zsg r0
  cases r0; exact⟨_,_,rfl⟩
 obtain⟨a,cap,rfl⟩:=this;refine callsIn_wide.2 (Calls.mono (Any.slices_Sort_int_none zBs a cap w) λe w' hp=>?_);obtain⟨rfl,rfl⟩:=hp;exact⟨ι,Io.le.refl _,hS,_,rfl,.tup [] #[] rfl λi x v h1 _=>by simp at h1⟩
def zBK:Orc:=λB f args h=>
 if f=117 then
  match args with
  | [.lit (.slice none 0 0)]=>some (.ret (.tup []),h)
  | [.sl β 0 1 0 none]=>some (.ret (.tup []),h)
  | [.sl β 0 1 (len+1) none]=>
   match zas h β with
   | some cs=>
    match cs.mapM zrj with
    | some zs=>if(B<=β/\len+1=zs.length)/\zs.length * 8<=140737488355328 then some (.ret (.tup []),h.set β (.blk ((zxZ zs).map zlD)))else none
    | none=>none
   | none=>none
  | _=>none
 else none
theorem zy4:zgQ Try.prog zBK:=by
 intro B f args h cr h' ho;unfold zBK at ho;split at ho
 .rename_i hf;subst hf;split at ho
  .cases ho;exact⟨.of (λw1 ι w vs hS ha=>⟨by kernel_rfl,zkc hS ha (.inr rfl)⟩) rfl,zar.refl _ _⟩
  .cases ho;exact⟨.of (λw1 ι w vs hS ha=>⟨by kernel_rfl,zkc hS ha (.inl ⟨_,rfl⟩)⟩) rfl,zar.refl _ _⟩
  .split at ho
   .rename_i cs hcs;split at ho
    .rename_i zs hzs;split at ho
     .rename_i hc;obtain⟨⟨h1,h2⟩,h3⟩:=hc;cases ho;rw[ziB hzs]at hcs;exact⟨.of (λw1 ι w vs hS ha=>⟨by kernel_rfl,zus hS (by rw[<- h2]; exact ha) hcs h1 (by omega) h3⟩) rfl,zar.set h _ h1⟩
     cases ho
    cases ho
   cases ho
  cases ho
 cases ho
end
end Go.Mx
