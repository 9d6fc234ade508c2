/-
 slices.Delete, slices.Compact and slices.Sort at []int, in place: the library's own walks stand for the plain machine's steps. Conditions: none.
-/
import Derived.Test.YtnfgibomhkbcpaaNfMxI
import Derived.Shelf.Slices.CompactI
import Derived.Shelf.Slices.Empties
import Derived.Shelf.Sort.Plain
import Derived.Shelf.Slices.In.SortNone
import Derived.Lib.RowBridge
set_option linter.unusedSimpArgs false
set_option linter.unusedVariables false
namespace Go.Mx
open Go Go.RowKit Go.Shelf Go.Proofs Go.Sort
section
variable {P:Program} {B:Nat} {w1 w w':World} {ι:Io} {h:zap}
def zku(z:Int):V:=.lit (.int .i64 z)
theorem zhv{cs:List V}{zs:List Int}(hz:cs.mapM zpg=some zs):cs=zs.map zku:=by
 induction cs generalizing zs with
 | nil=>simp at hz; subst hz; rfl
 | cons a r ih=>
  rw[qcH]at hz;cases h1:zpg a with
  | none=>rw[h1]at hz; cases hz
  | some z=>
   cases h2:r.mapM zpg with
   | none=>rw[h1,h2]at hz; cases hz
   | some zr=>
    rw[h1,h2]at hz;cases hz;rw[qaH,← ih h2,zoe h1];rfl
theorem Sim.holds(hS:Sim P B w1 ι h w){β:Nat}{zs:List Int}(hβ:zaC h β=some (zs.map zku))(hB:B≤β){b s sz:Nat}(hι:ι β=some (b,s,sz)):
  Holds (Value.int .i64) w b s zs.toArray∧b<w.heap.size:=by
 obtain⟨b',s',sz',arr,T,fr,k1,k2,k3,k4,k5,k6⟩:=hS.cells hβ;rw[hι]at k1; cases k1;have hfr:=k6 hB;subst hfr;refine⟨fun j hj=>?_,zaF k2⟩;have hj':j<zs.length:=by simpa using hj
 obtain⟨u,g1,g2,g3⟩:=k5 j _ (by rw[qaU,qad hj']; rfl);cases g2;refine⟨?_,by simp[World.frozen?,k2]⟩;rw[zdo k2 g1];simp[hj']
theorem zps(w:World)(os:Array Obj)(r:Option Nat):w.grownBy (Go.Sort.grow w os) r:=
 ⟨rfl,rfl,rfl,by simp[Go.Sort.grow],fun k hk _=>by simp[Go.Sort.grow,qbh hk]⟩
theorem zmO(w:World)(q:Nat)(r:Option Nat):w.grownBy (w.drewN q) r:=⟨rfl,rfl,rfl,qaj _,fun _ _ _=>rfl⟩
theorem Sim.ztP(hS:Sim P B w1 ι h w){β:Nat}{zs ys:List Int}(hβ:zaC h β=some (zs.map zku))(hB:B≤β){b s sz:Nat}(hι:ι β=some (b,s,sz))(hl:ys.length=zs.length)(q:Nat)(os:Array Obj):
  Sim P B w1 ι (h.set β (.blk (ys.map zku))) (Go.Sort.grow (putRow (Value.int .i64) (Go.Sort.ahead w q) b s ys.toArray) os):=by
 obtain⟨hH,_⟩:=hS.holds hβ hB hι;rw[Go.Lib.putRow_eq_setCells _ w b s _ ys q hH (by simpa using hl)];obtain⟨b',s',sz',arr,T,fr,k1,k2,k3,k4,k5,k6⟩:=hS.cells hβ;rw[hι]at k1; cases k1;have hfr:=k6 hB;subst hfr;have k2':(w.drewN q).heap[b]? = some (.cells arr T (0,0)):=k2;have hlen:(zs.map zku).length=zs.length:=by simp
 obtain⟨arr',h1,h2,h3⟩:=zbY (ys.map (Value.int .i64)) s arr (w.drewN q) k2' (by simp; omega);rw[h1];have hat:(zfY (w.drewN q) b (.cells arr' T (0,0))).heap[b]? = some (.cells arr' T (0,0)):=zdd _ (zaF k2');have hg:w.grownBy (Go.Sort.grow (zfY (w.drewN q) b (.cells arr' T (0,0))) os) (some b):=zbK (zmO w q _) (zbK (zbV _ _ _) (zps _ _ _));refine hS.change (o':=.blk _) (zcy hβ) trivial hB hι hg ⟨b,s,sz,arr',T,(0,0),hι,?_,by rw[h2]; exact k3,by simp; omega,fun k v hk=>?_,fun _=>rfl⟩
 ·show((zfY (w.drewN q) b (.cells arr' T (0,0))).heap ++ os)[b]? = _;rw[qbh (zaF hat)];exact hat
 rw[qaU,qai]at hk;obtain⟨z,hz,rfl⟩:=hk;have hkl:=(qab.1 hz).1;refine⟨.int .i64 z,?_,.lit _,rfl⟩;rw[h3,if_pos (by simp; omega)];simp[hz]
theorem Sim.zrL(hS:Sim P B w1 ι h w){β:Nat}{zs ys:List Int}(hβ:zaC h β=some (zs.map zku))(hB:B≤β){b s sz:Nat}(hι:ι β=some (b,s,sz))(hl:ys.length=zs.length)(q:Nat):
  Sim P B w1 ι (h.set β (.blk (ys.map zku))) (putRow (Value.int .i64) (Go.Sort.ahead w q) b s ys.toArray):=by
 have:=hS.ztP hβ hB hι hl q #[];rw[grow_empty]at this;exact this
theorem zoW(w:World)(b:Nat)(o:Obj){γ:Nat}(h:γ≠b):(zfY w b o).heap[γ]? = w.heap[γ]?:=by simp[zfY,qaT (Ne.symm h)]
theorem Sim.zoR(hS:Sim P B w1 ι h w){β:Nat}{zs ys:List Int}(hβ:zaC h β=some (zs.map zku))(hB:B≤β){b s sz:Nat}(hι:ι β=some (b,s,sz))(hl:ys.length=zs.length)(q:Nat):
  ∀ γ,γ≠b→(putRow (Value.int .i64) (Go.Sort.ahead w q) b s ys.toArray).heap[γ]? = w.heap[γ]?:=by
 intro γ hγ;obtain⟨hH,_⟩:=hS.holds hβ hB hι;rw[Go.Lib.putRow_eq_setCells _ w b s _ ys q hH (by simpa using hl)];obtain⟨b',s',sz',arr,T,fr,k1,k2,k3,k4,k5,k6⟩:=hS.cells hβ;rw[hι]at k1; cases k1;have hfr:=k6 hB;subst hfr;have k2':(w.drewN q).heap[b]? = some (.cells arr T (0,0)):=k2;have hlen:(zs.map zku).length=zs.length:=by simp
 obtain⟨arr',h1,h2,h3⟩:=zbY (ys.map (Value.int .i64)) s arr (w.drewN q) k2' (by simp; omega);rw[h1,zoW _ _ _ hγ];rfl
theorem zjS{v:V}{vs:Array Value}(ha:zfF ι [v] vs):∃ x,vs = #[x]∧VRel ι v x:=by
 obtain⟨x0,rfl⟩:∃ x0,vs = #[x0]:=by
  have:=ha.1;obtain⟨l⟩:=vs
  match l,this with
  | [a],_=>exact⟨a,rfl⟩
 exact⟨x0,rfl,ha.2 0 _ _ rfl rfl⟩
theorem zjR{β len:Nat}{u:Value}(hr:VRel ι (.sl β 0 1 (len+1) none) u):∃ b s sz cap,ι β=some (b,s,sz)∧u=.slice (some ⟨b,s,none⟩) (len+1) cap∧s+cap≤sz∧len+1≤cap∧cap<2 ^ 63∧sz≤s+cap:=by
 cases hr with
 | sl _ _ _ _ _ b s sz cap h1 h2 h3 h4 h5 h6 h7=>exact⟨b,s,sz,cap,h1,rfl,by omega,h3,h4,by have:=h7 rfl; omega⟩
theorem zq1{β:Nat}{u:Value}(hr:VRel ι (.sl β 0 1 0 none) u):∃ a cap,u=.slice a 0 cap:=by
 cases hr with
 | sl _ _ _ _ _ b s sz cap h1 h2 h3 h4 h5 h6 h7=>exact⟨_,_,rfl⟩
 | sl0=>exact⟨_,_,rfl⟩
end
def zAt:Ren:=⟨fun n=>103,
 fun n=>if n=0 then 0 else if n=3 then 3 else if n=4 then 4 else 41,fun n=>n⟩
theorem zzc:Lays2.n23 Try.prog zAt where
 mixed:=by kernel_rfl
 f23:=Try.func103.trans (congrArg some (by kernel_rfl))
 t0:=Try.underlying0
 a0:=Try.isAgg0
 z0:=Try.sizeOf0
 v0:=Try.zeroValue0
 t3:=Try.underlying3
 a3:=Try.isAgg3
 z3:=Try.sizeOf3
 v3:=Try.zeroValue3
 t4:=Try.underlying4
 a4:=Try.isAgg4
 z4:=Try.sizeOf4
 v4:=Try.zeroValue4
 t22:=Try.underlying41
 a22:=Try.isAgg41
 z22:=Try.sizeOf41
 v22:=Try.zeroValue41
 i3:=by kernel_rfl
section
variable {B:Nat} {w1 w w':World} {ι:Io} {h:zap}
theorem zlR(hS:Sim Try.prog B w1 ι h w){β i j:Nat}{zs:List Int}{vs:Array Value}(ha:zfF ι [.sl β 0 1 zs.length none,.lit (.int .i64 i),.lit (.int .i64 j)] vs)
  (hβ:zaC h β=some (zs.map zku)) (hB:B≤β) (hij:i≤j) (hj:j≤zs.length) (h0:0<zs.length):
  CallsIn (FW none) 0 Try.prog 103 vs w (fun en w'=>zeB Try.prog B w1 ι (.ret (.sl β 0 1 (zs.length - (j - i)) none)) (h.set β (.blk ((zs.take i ++ zs.drop j ++ List.replicate (j - i) 0).map zku))) en w'∧zrU B h ι w w' (some β)):=by
 obtain⟨x0,x1,x2,rfl⟩:∃ x0 x1 x2,vs = #[x0,x1,x2]:=by
  have:=ha.1;obtain⟨l⟩:=vs
  match l,this with
  | [a,b,c],_=>exact⟨a,b,c,rfl⟩
 have r0:=ha.2 0 _ _ rfl rfl;have r1:=ha.2 1 _ _ rfl rfl;have r2:=ha.2 2 _ _ rfl rfl;cases r1;cases r2;obtain⟨len,hlen⟩:∃ len,zs.length=len+1:=⟨zs.length - 1,by omega⟩;rw[hlen]at r0;obtain⟨b,s,sz,cap,hι,rfl,h1,h2,h3,h4⟩:=zjR r0;rw[← hlen]at h2 ⊢;obtain⟨hH,_⟩:=hS.holds hβ hB hι;refine callsIn_wide.2 (Calls.mono (Any.slices_Delete_int zzc b s cap i j zs w hH h2 (by omega) hij hj) fun e w' hp=>?_);obtain⟨rfl,q,rfl⟩:=hp;refine⟨⟨ι,Io.le.refl _,hS.zrL hβ hB hι (by simp; omega) q,_,rfl,?_⟩,.zhV (b:=b) (s:=s) (sz:=sz) (hS.zoR hβ hB hι (by simp; omega) q) rfl hι hβ hB⟩;exact .sl β 0 1 _ none b s sz cap hι (by omega) (by omega) h3 (by omega) (fun c hc=>by cases hc) (fun _=>by omega)
def zyt:Orc:=fun B f args h=>
 if f=103 then
  match args with
  | [.sl β 0 1 len none,.lit (.int .i64 i),.lit (.int .i64 j)]=>
   match zaC h β with
   | some cs=>
    match cs.mapM zpg with
    | some zs=>if(B≤β∧len=zs.length∧0<len)∧0≤i∧i≤j∧j≤len then
      some (.ret (.sl β 0 1 (len - (j.toNat - i.toNat)) none),h.set β (.blk ((zs.take i.toNat ++ zs.drop j.toNat ++ List.replicate (j.toNat - i.toNat) 0).map zku)))
     else none
    | none=>none
   | none=>none
  | _=>none
 else none
theorem zvr:zgo Try.prog zyt:=by
 intro B f args h cr h' ho;unfold zyt at ho;split at ho
 ·rename_i hf;subst hf;split at ho
  ·rename_i β len i j;split at ho
   ·rename_i cs hcs;split at ho
    ·rename_i zs hzs;split at ho
     ·rename_i hc;obtain⟨⟨h1,rfl,h0⟩,h2,h3,h4⟩:=hc;cases ho;rw[zhv hzs]at hcs;obtain⟨a,rfl⟩:∃ a:Nat,i=(a:Int):=⟨i.toNat,by omega⟩;obtain⟨c,rfl⟩:∃ c:Nat,j=(c:Int):=⟨j.toNat,by omega⟩;rw[qaF,qaF];exact⟨⟨fun w1 ι w vs hS ha=>⟨by kernel_rfl,CallsIn.mono (zlR hS ha hcs h1 (by omega) (by omega) h0) fun e w' hp=>hp.1⟩,fun _ w1 ι w vs hS ha=>zlR hS ha hcs h1 (by omega) (by omega) h0⟩,zay.set h _ h1⟩
     cases ho
    cases ho
   cases ho
  cases ho
 cases ho
end
def zA6:Ren:=⟨fun n=>133,
 fun n=>if n=0 then 0 else if n=3 then 3 else if n=4 then 4 else 41,fun n=>n⟩
theorem zx4:Lays2.n20 Try.prog zA6 where
 mixed:=by kernel_rfl
 f20:=Try.func133.trans (congrArg some (by kernel_rfl))
 t0:=Try.underlying0
 a0:=Try.isAgg0
 z0:=Try.sizeOf0
 v0:=Try.zeroValue0
 t3:=Try.underlying3
 a3:=Try.isAgg3
 z3:=Try.sizeOf3
 v3:=Try.zeroValue3
 t4:=Try.underlying4
 a4:=Try.isAgg4
 z4:=Try.sizeOf4
 v4:=Try.zeroValue4
 t22:=Try.underlying41
 a22:=Try.isAgg41
 z22:=Try.sizeOf41
 v22:=Try.zeroValue41
 i3:=by kernel_rfl
section
variable {B:Nat} {w1 w w':World} {ι:Io} {h:zap}
theorem zpk(zs:List Int):(Go.Lib.compact zs).length≤zs.length:=Go.Lib.compact_length_le zs
theorem zrX(hS:Sim Try.prog B w1 ι h w){β:Nat}{zs:List Int}{vs:Array Value}(ha:zfF ι [.sl β 0 1 zs.length none] vs)
  (hβ:zaC h β=some (zs.map zku)) (hB:B≤β) (h0:0<zs.length):
  CallsIn (FW none) 0 Try.prog 133 vs w (zeB Try.prog B w1 ι (.ret (.sl β 0 1 (Go.Lib.compact zs).length none)) (h.set β (.blk ((Go.Lib.compact zs ++ List.replicate (zs.length - (Go.Lib.compact zs).length) 0).map zku)))):=by
 obtain⟨x0,rfl,r0⟩:=zjS ha;obtain⟨len,hlen⟩:∃ len,zs.length=len+1:=⟨zs.length - 1,by omega⟩;rw[hlen]at r0;obtain⟨b,s,sz,cap,hι,rfl,h1,h2,h3,h4⟩:=zjR r0;rw[← hlen]at h2 ⊢;obtain⟨hH,_⟩:=hS.holds hβ hB hι;have hle:=zpk zs;refine callsIn_wide.2 (Calls.mono (Any.slices_Compact_int zx4 b s cap zs w hH (by omega) h2) fun e w' hp=>?_);obtain⟨rfl,q,rfl⟩:=hp;refine⟨ι,Io.le.refl _,hS.zrL hβ hB hι (by simp; omega) q,_,rfl,?_⟩;exact .sl β 0 1 _ none b s sz cap hι (by omega) (by omega) h3 (by omega) (fun c hc=>by cases hc) (fun _=>by omega)
theorem ziS(hS:Sim Try.prog B w1 ι h w){v:V}{vs:Array Value}(ha:zfF ι [v] vs)(hv:(∃ β,v=.sl β 0 1 0 none)∨v=.lit (.slice none 0 0)):
  CallsIn (FW none) 0 Try.prog 133 vs w (zeB Try.prog B w1 ι (.ret v) h):=by
 obtain⟨x0,rfl,r0⟩:=zjS ha;have:∃ a cap,x0=.slice a 0 cap:=by
  rcases hv with⟨β,rfl⟩| rfl
  ·exact zq1 r0
  cases r0; exact⟨_,_,rfl⟩
 obtain⟨a,cap,rfl⟩:=this;refine callsIn_wide.2 (Calls.mono (Any.slices_Compact_int_empty zx4 a cap w) fun e w' hp=>?_);obtain⟨rfl,rfl⟩:=hp;exact⟨ι,Io.le.refl _,hS,_,rfl,r0⟩
def zyw:Orc:=fun B f args h=>
 if f=133 then
  match args with
  | [.lit (.slice none 0 0)]=>some (.ret (.lit (.slice none 0 0)),h)
  | [.sl β 0 1 0 none]=>some (.ret (.sl β 0 1 0 none),h)
  | [.sl β 0 1 (len+1) none]=>
   match zaC h β with
   | some cs=>
    match cs.mapM zpg with
    | some zs=>if B≤β∧len+1=zs.length then
      some (.ret (.sl β 0 1 (Go.Lib.compact zs).length none),h.set β (.blk ((Go.Lib.compact zs ++ List.replicate (zs.length - (Go.Lib.compact zs).length) 0).map zku)))
     else none
    | none=>none
   | none=>none
  | _=>none
 else none
theorem zvh:zgo Try.prog zyw:=by
 intro B f args h cr h' ho;unfold zyw at ho;split at ho
 ·rename_i hf;subst hf;split at ho
  ·cases ho;exact⟨.of (fun w1 ι w vs hS ha=>⟨by kernel_rfl,ziS hS ha (.inr rfl)⟩) rfl,zay.refl _ _⟩
  ·cases ho;exact⟨.of (fun w1 ι w vs hS ha=>⟨by kernel_rfl,ziS hS ha (.inl ⟨_,rfl⟩)⟩) rfl,zay.refl _ _⟩
  ·split at ho
   ·rename_i cs hcs;split at ho
    ·rename_i zs hzs;split at ho
     ·rename_i hc;obtain⟨h1,h2⟩:=hc;cases ho;rw[zhv hzs]at hcs;exact⟨.of (fun w1 ι w vs hS ha=>⟨by kernel_rfl,zrX hS (by rw[← h2]; exact ha) hcs h1 (by omega)⟩) rfl,zay.set h _ h1⟩
     cases ho
    cases ho
   cases ho
  cases ho
 cases ho
end
def zAE:Ren:=⟨fun n=>if n=125 then 112 else if n=128 then 148 else if n=129 then 149 else if n=189 then 50 else if n=215 then 163 else if n=216 then 145 else if n=257 then 111 else if n=294 then 139 else if n=295 then 140 else if n=296 then 141 else if n=297 then 142 else if n=298 then 143 else if n=299 then 144 else if n=300 then 146 else if n=301 then 147 else if n=328 then 158 else if n=329 then 159 else if n=330 then 160 else if n=331 then 161 else if n=332 then 162 else 166,
 fun n=>if n=0 then 0 else if n=3 then 3 else if n=4 then 4 else if n=5 then 5 else if n=9 then 9 else if n=28 then 41 else if n=46 then 103 else if n=51 then 199 else if n=53 then 147 else if n=131 then 71 else if n=182 then 192 else if n=183 then 193 else if n=218 then 208 else if n=222 then 212 else if n=228 then 214 else 215,fun n=>n⟩
theorem zwM:Lays.n189 Try.prog zAE where
 mixed:=by kernel_rfl
 f125:=Try.func112.trans (congrArg some (by kernel_rfl))
 f128:=Try.func148.trans (congrArg some (by kernel_rfl))
 f129:=Try.func149.trans (congrArg some (by kernel_rfl))
 f189:=Try.func50.trans (congrArg some (by kernel_rfl))
 f215:=Try.func163.trans (congrArg some (by kernel_rfl))
 f216:=Try.func145.trans (congrArg some (by kernel_rfl))
 f257:=Try.func111.trans (congrArg some (by kernel_rfl))
 f294:=Try.func139.trans (congrArg some (by kernel_rfl))
 f295:=Try.func140.trans (congrArg some (by kernel_rfl))
 f296:=Try.func141.trans (congrArg some (by kernel_rfl))
 f297:=Try.func142.trans (congrArg some (by kernel_rfl))
 f298:=Try.func143.trans (congrArg some (by kernel_rfl))
 f299:=Try.func144.trans (congrArg some (by kernel_rfl))
 f300:=Try.func146.trans (congrArg some (by kernel_rfl))
 f301:=Try.func147.trans (congrArg some (by kernel_rfl))
 f328:=Try.func158.trans (congrArg some (by kernel_rfl))
 f329:=Try.func159.trans (congrArg some (by kernel_rfl))
 f330:=Try.func160.trans (congrArg some (by kernel_rfl))
 f331:=Try.func161.trans (congrArg some (by kernel_rfl))
 f332:=Try.func162.trans (congrArg some (by kernel_rfl))
 f343:=Try.func166.trans (congrArg some (by kernel_rfl))
 t0:=Try.underlying0
 a0:=Try.isAgg0
 z0:=Try.sizeOf0
 v0:=Try.zeroValue0
 t3:=Try.underlying3
 a3:=Try.isAgg3
 z3:=Try.sizeOf3
 v3:=Try.zeroValue3
 t4:=Try.underlying4
 a4:=Try.isAgg4
 z4:=Try.sizeOf4
 v4:=Try.zeroValue4
 t5:=Try.underlying5
 a5:=Try.isAgg5
 z5:=Try.sizeOf5
 v5:=Try.zeroValue5
 t9:=Try.underlying9
 a9:=Try.isAgg9
 z9:=Try.sizeOf9
 v9:=Try.zeroValue9
 t28:=Try.underlying41
 a28:=Try.isAgg41
 z28:=Try.sizeOf41
 v28:=Try.zeroValue41
 t46:=Try.underlying103
 a46:=Try.isAgg103
 z46:=Try.sizeOf103
 v46:=Try.zeroValue103
 t51:=Try.underlying199
 a51:=Try.isAgg199
 z51:=Try.sizeOf199
 v51:=Try.zeroValue199
 t53:=Try.underlying147
 a53:=Try.isAgg147
 z53:=Try.sizeOf147
 v53:=Try.zeroValue147
 t131:=Try.underlying71
 a131:=Try.isAgg71
 z131:=Try.sizeOf71
 v131:=Try.zeroValue71
 t182:=Try.underlying192
 a182:=Try.isAgg192
 z182:=Try.sizeOf192
 v182:=Try.zeroValue192
 t183:=Try.underlying193
 a183:=Try.isAgg193
 z183:=Try.sizeOf193
 v183:=Try.zeroValue193
 t218:=Try.underlying208
 a218:=Try.isAgg208
 z218:=Try.sizeOf208
 v218:=Try.zeroValue208
 t222:=Try.underlying212
 a222:=Try.isAgg212
 z222:=Try.sizeOf212
 v222:=Try.zeroValue212
 t228:=Try.underlying214
 a228:=Try.isAgg214
 z228:=Try.sizeOf214
 v228:=Try.zeroValue214
 t229:=Try.underlying215
 a229:=Try.isAgg215
 z229:=Try.sizeOf215
 v229:=Try.zeroValue215
section
variable {B:Nat} {w1 w w':World} {ι:Io} {h:zap}
def zvj(zs:List Int):List Int:=zs.mergeSort fun x y=>decide (x≤y)
theorem zro(zs:List Int):(zvj zs).length=zs.length:=List.length_mergeSort _
theorem zqY(hS:Sim Try.prog B w1 ι h w){β:Nat}{zs:List Int}{vs:Array Value}(ha:zfF ι [.sl β 0 1 zs.length none] vs)
  (hβ:zaC h β=some (zs.map zku)) (hB:B≤β) (h0:0<zs.length) (hbig:zs.length * 8≤140737488355328):
  CallsIn (FW none) 0 Try.prog 50 vs w (zeB Try.prog B w1 ι (.ret (.tup [])) (h.set β (.blk ((zvj zs).map zku)))):=by
 obtain⟨x0,rfl,r0⟩:=zjS ha;obtain⟨len,hlen⟩:∃ len,zs.length=len+1:=⟨zs.length - 1,by omega⟩;rw[hlen]at r0;obtain⟨b,s,sz,cap,hι,rfl,h1,h2,h3,h4⟩:=zjR r0;rw[← hlen]at h2 ⊢;obtain⟨hH,hb⟩:=hS.holds hβ hB hι;refine callsIn_wide.2 (Calls.mono (Any.slices_Sort_int zwM b s cap zs w hH hb (by omega)) fun e w' hp=>?_);obtain⟨rfl,q,os,rfl⟩:=hp;exact⟨ι,Io.le.refl _,hS.ztP hβ hB hι (zro zs) q os,_,rfl,.tup [] #[] rfl fun i x v h1 _=>by simp at h1⟩
theorem zi4(hS:Sim Try.prog B w1 ι h w){v:V}{vs:Array Value}(ha:zfF ι [v] vs)(hv:(∃ β,v=.sl β 0 1 0 none)∨v=.lit (.slice none 0 0)):
  CallsIn (FW none) 0 Try.prog 50 vs w (zeB Try.prog B w1 ι (.ret (.tup [])) h):=by
 obtain⟨x0,rfl,r0⟩:=zjS ha;have:∃ a cap,x0=.slice a 0 cap:=by
  rcases hv with⟨β,rfl⟩| rfl
  ·exact zq1 r0
  cases r0; exact⟨_,_,rfl⟩
 obtain⟨a,cap,rfl⟩:=this;refine callsIn_wide.2 (Calls.mono (Any.slices_Sort_int_none zwM a cap w) fun e w' hp=>?_);obtain⟨rfl,rfl⟩:=hp;exact⟨ι,Io.le.refl _,hS,_,rfl,.tup [] #[] rfl fun i x v h1 _=>by simp at h1⟩
def zys:Orc:=fun B f args h=>
 if f=50 then
  match args with
  | [.lit (.slice none 0 0)]=>some (.ret (.tup []),h)
  | [.sl β 0 1 0 none]=>some (.ret (.tup []),h)
  | [.sl β 0 1 (len+1) none]=>
   match zaC h β with
   | some cs=>
    match cs.mapM zpg with
    | some zs=>if(B≤β∧len+1=zs.length)∧zs.length * 8≤140737488355328 then some (.ret (.tup []),h.set β (.blk ((zvj zs).map zku)))else none
    | none=>none
   | none=>none
  | _=>none
 else none
theorem zu7:zgo Try.prog zys:=by
 intro B f args h cr h' ho;unfold zys at ho;split at ho
 ·rename_i hf;subst hf;split at ho
  ·cases ho;exact⟨.of (fun w1 ι w vs hS ha=>⟨by kernel_rfl,zi4 hS ha (.inr rfl)⟩) rfl,zay.refl _ _⟩
  ·cases ho;exact⟨.of (fun w1 ι w vs hS ha=>⟨by kernel_rfl,zi4 hS ha (.inl ⟨_,rfl⟩)⟩) rfl,zay.refl _ _⟩
  ·split at ho
   ·rename_i cs hcs;split at ho
    ·rename_i zs hzs;split at ho
     ·rename_i hc;obtain⟨⟨h1,h2⟩,h3⟩:=hc;cases ho;rw[zhv hzs]at hcs;exact⟨.of (fun w1 ι w vs hS ha=>⟨by kernel_rfl,zqY hS (by rw[← h2]; exact ha) hcs h1 (by omega) h3⟩) rfl,zay.set h _ h1⟩
     cases ho
    cases ho
   cases ho
  cases ho
 cases ho
end
end Go.Mx
