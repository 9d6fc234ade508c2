/-
 Code: sequences, branches, blocks, loops, ranges over functions. Conditions: none.
-/
import Derived.Test.YtbjogdohfhdaiaaGreatErJ20
import Derived.RangeFuncNested
set_option linter.unusedSimpArgs false
set_option linter.unusedVariables false
namespace Go.Mx
open Go Go.RowKit
section
variable {F:Fence} {n:Nat} {P:Program} {Q:Exit->Act->World->Prop} {a:Act} {w:World}
variable{b:Frame}{k:List Item}{c:Code}
theorem ze6{cs:List Frame}:step P (lone (b.atR a (.code (.scope c):: k)) cs w)=.next (lone (b.atR a (.code c :: .inScope c :: k)) cs w):=
 step_lone_go (by simp[stepG,stepG.exec,Frame.atR])
theorem zmY{cs:List Frame}:step P (lone (b.atR a (.inScope c :: k)) cs w)=.next (lone (b.atR a k) cs w):=
 step_lone_go (by simp[stepG,stepG.exec,Frame.atR])
theorem zt8(hg:∀ l a w,¬ Q (.goto l) a w)(h:c.wpIn F n P Q a w):(Code.scope c).wpIn F n P Q a w:=by
 intro b k cs hro hb hr;have h0:(lone (b.atR a (.code (.scope c):: k)) cs w).fenced P F:=fenced_calm hb hr rfl;obtain⟨e,a₁,w₁,hq,harr⟩:=h b (.inScope c :: k) cs hro hb hr;cases e with
 | normal=>exact⟨.normal,a₁,w₁,hq,.head h0 ze6 (StepsIn.trans harr (.one (fenced_calm hb hr rfl) zmY))⟩
 | exit id=>
  have hx:exitTo id (.inScope c :: k)=exitTo id k:=by simp[exitTo]
  refine⟨.exit id,a₁,w₁,hq,.of_steps (.one h0 ze6) ⟨λk' hk=>harr.1 k' (hx.trans hk),λhs hk=>harr.2 hs (hx.trans hk)⟩⟩
 | ret=>exact⟨.ret,a₁,w₁,hq,.of_steps (.one h0 ze6) harr⟩
 | panic ch=>exact⟨.panic ch,a₁,w₁,hq,.of_steps (.one h0 ze6) harr⟩
 | goto l=>simp_all
 | outgrown=>exact⟨.outgrown,a₁,w₁,hq,.of_steps (.one h0 ze6) harr⟩
theorem zik{id:Nat}:∀(k k':List Item),exitTo id k=some k'->k'.length<k.length
 | [],k',h=>by simp[exitTo]at h
 | x :: k,k',h=>by
  have hcons:exitTo id k=some k'->k'.length<(x :: k).length:=λh1=>by have:=zik k k' h1; simp; omega
  cases x<;>grind [exitTo]
theorem ze0{I:Machine->Prop}{cs:List Frame}{m':Machine}(hI:I (lone (b.atR a (.inLoop c :: k)) cs w))(h:StepsIn I P (lone (b.atR a (.code (.loop c):: k)) cs w) m')(hne:m'≠lone (b.atR a (.code (.loop c):: k)) cs w):
  StepsIn I P (lone (b.atR a (.inLoop c :: k)) cs w) m':=by
 cases h with
 | refl=>exact absurd rfl hne
 | head hI' hs h'=>
  rw[stepR_loop]at hs;cases hs;exact .head hI stepR_inLoop h'
theorem zzP{fr fr':Frame}{cs cs':List Frame}{w w':World}(h:lone fr cs w=lone fr' cs' w'):fr=fr'/\cs=cs'/\w=w':=by
 grind [lone]
theorem zqE(hg:∀ l a w,¬ Q (.goto l) a w)(ho:∀ a w,¬ Q .outgrown a w)(h:c.wpIn F n P (Exit.then (λa' w'=>(Code.loop c).wpIn F n P Q a' w') Q) a w):(Code.loop c).wpIn F n P Q a w:=by
 intro b k cs hro hb hr;have h0:(lone (b.atR a (.code (.loop c):: k)) cs w).fenced P F:=fenced_calm hb hr rfl;obtain⟨e,a₁,w₁,hq,harr⟩:=h b (.inLoop c :: k) cs hro hb hr;cases e with
 | normal=>
  obtain⟨e₂,a₂,w₂,hq₂,harr₂⟩:=hq b k cs hro hb hr;have hI:(lone (b.atR a₁ (.inLoop c :: k)) cs w₁).fenced P F:=fenced_calm hb hr rfl;have hne:∀(fr:Frame) (cs':List Frame) (w':World),fr.todo≠.code (.loop c):: k\/fr.mode≠.run->lone fr cs' w'≠lone (b.atR a₁ (.code (.loop c):: k)) cs w₁:=by
   intro fr cs' w' hd he;obtain⟨h1,_,_⟩:=zzP he;subst h1;rcases hd with hd | hd<;>exact hd rfl
  have key:ArrivesIn (Machine.fenced P F) P (lone (b.atR a₁ (.inLoop c :: k)) cs w₁) b k cs e₂ a₂ w₂:=by
   cases e₂ with
   | normal=>exact ze0 hI harr₂ (hne _ _ _ (.inl λhc=>by have:=congrArg List.length hc; simp[Frame.atR]at this))
   | exit id=>
    refine⟨λk' hk=>ze0 hI (harr₂.1 k' hk) (hne _ _ _ (.inl λhc=>?_)),λhs hk=>?_⟩
    .have h1:=congrArg List.length hc;have h2:=zik k k' hk;simp[Frame.atR]at h1;omega
    .obtain⟨k₁,h1,h2⟩:=harr₂.2 hs hk;exact⟨k₁,h1,ze0 hI h2 (hne _ _ _ (.inl λhc=>by simp[Frame.atR]at hc))⟩
   | ret=>
    refine⟨λhn=>?_,λhs=>?_⟩
    .obtain⟨todo,h1⟩:=harr₂.1 hn;exact⟨todo,ze0 hI h1 (hne _ _ _ (.inr (by simp)))⟩
    .obtain⟨k₁,h1⟩:=harr₂.2 hs;exact⟨k₁,ze0 hI h1 (hne _ _ _ (.inl λhc=>by simp[Frame.atR]at hc))⟩
   | panic ch=>
    obtain⟨todo,h1⟩:=harr₂;exact⟨todo,ze0 hI h1 (hne _ _ _ (.inr (by simp)))⟩
   | goto l=>exact(hg l a₂ w₂ hq₂).elim
   | outgrown=>exact(ho a₂ w₂ hq₂).elim
  exact⟨e₂,a₂,w₂,hq₂,.of_steps (.head h0 stepR_loop harr) key⟩
 | exit id=>exact⟨_,a₁,w₁,hq,.of_steps (.one h0 stepR_loop) (.pass (x:=.inLoop c) rfl (λ_ _=>.inl (by simp)) harr)⟩
 | goto l=>exact⟨_,a₁,w₁,hq,.of_steps (.one h0 stepR_loop) (.pass (x:=.inLoop c) rfl (λ_ _=>.inl (by simp)) harr)⟩
 | ret=>exact⟨_,a₁,w₁,hq,.of_steps (.one h0 stepR_loop) (.pass (x:=.inLoop c) rfl (λ_ _=>.inl (by simp)) harr)⟩
 | panic ch=>exact⟨_,a₁,w₁,hq,.of_steps (.one h0 stepR_loop) (.pass (x:=.inLoop c) rfl (λ_ _=>.inl (by simp)) harr)⟩
 | outgrown=>exact⟨_,a₁,w₁,hq,.of_steps (.one h0 stepR_loop) (.pass (x:=.inLoop c) rfl (λ_ _=>.inl (by simp)) harr)⟩
end
section
variable {P:Program} {B N:Nat} {w1 w:World} {ι:Io} {S S':St} {a:Act} {r:Rec} {rd rb:Option Nat} {ex:Ex}
theorem zkl(l:Nat)(a:Act)(w:World):¬ zfT P N B w1 ι ex S' (.goto l) a w:=by
 grind [Go.Mx.zfT]
theorem ztC(a:Act)(w:World):¬ zfT P N B w1 ι ex S' .outgrown a w:=by
 grind [Go.Mx.zfT]
theorem zgc{α β:Type}(f:α->β):∀(l:List α) (k:Nat) (arr:Array α),(∀ j,l[j]? = arr[k+j]?)->(List.range' k l.length).filterMap (λi=>(arr[i]?).map f)=l.map f
 | [],k,arr,_=>by simp
 | x :: l,k,arr,h=>by
  have h0:arr[k]? = some x:=by have:=h 0; simpa using this.symm
  simp only[qaB,qb5,qcE,h0,qbe,qaL];rw[zgc f l (k+1) arr (λj=>by have:=h (j+1); rw[qcF]at this; rw[this]; congr 1; omega)]
theorem zgO{α β:Type}(arr:Array α)(f:α->β):(List.range arr.size).filterMap (λi=>(arr[i]?).map f)=arr.toList.map f:=by
 have:=zgc f arr.toList 0 arr (λj=>by simp)
 grind [qcT]
theorem zo8(hm:P.follows .mixedOrders=true)(hr:RecOk P r){id:Nat}{ops:Array Oper}{draw dr bar:Bool}{os:List O}(hc:comp P N (.region id ops draw)=.reg dr bar os)(h:zbg r B bar rd.isNone (!dr) os S=some (ex,S'))(hF:FSim P N B w1 ι S a w)(hrd:zhl ι rd rb):
  (Code.region id ops draw).wpIn (FW rb) 0 P (zfT P N B w1 ι ex S') a w:=by
 cases draw with
 | false=>
  simp only[comp]at hc;cases hb:ops.all (λo=>zlm N o.dst)with
  | false=>simp_all
  | true=>
   simp only[hb,qdt]at hc;cases hc;refine wpIn_region (zfO (bar:=false) (e:=!false) hr _ S ι a w hF hrd ?_)<;> grind [zgO]
 | true=>
  grind [comp,zqw]
theorem zcR(hm:P.follows .mixedOrders=true)(hr:RecOk P r):∀(code:Code) (S S':St) (ex:Ex) (w1:World) (ι:Io) (a:Act) (w:World) (rb:Option Nat),exec r B rd (comp P N code) S=some (ex,S')->FSim P N B w1 ι S a w->zhl ι rd rb ->
  code.wpIn (FW rb) 0 P (zfT P N B w1 ι ex S') a w
 | .skip,S,S',ex,w1,ι,a,w,rb,h,hF,hrd=>by
  simp only[comp,exec,qae,qan]at h;obtain⟨rfl,rfl⟩:=h
  grind [wpIn_skip,Io.le,Go.Mx.zfT]
 | .label l,S,S',ex,w1,ι,a,w,rb,h,hF,hrd=>by
  simp only[comp,exec,qae,qan]at h;obtain⟨rfl,rfl⟩:=h
  grind [wpIn_label,Io.le,Go.Mx.zfT]
 | .exit id,S,S',ex,w1,ι,a,w,rb,h,hF,hrd=>by
  simp only[comp,exec,qae,qan]at h;obtain⟨rfl,rfl⟩:=h
  grind [wpIn_exit,Io.le,Go.Mx.zfT]
 | .ret,S,S',ex,w1,ι,a,w,rb,h,hF,hrd=>by
  simp only[comp,exec,qae,qan]at h;obtain⟨rfl,rfl⟩:=h
  grind [wpIn_ret,Io.le,Go.Mx.zfT]
 | .region id ops draw,S,S',ex,w1,ι,a,w,rb,h,hF,hrd=>by
  cases hc:comp P N (.region id ops draw)with
  | reg dr bar os=>
   grind [zo8,Go.Mx.exec]
  | bad=>rw[hc]at h; cases h
  | _=>
   exfalso
   cases draw<;>grind [comp]
 | .seq x y,S,S',ex,w1,ι,a,w,rb,h,hF,hrd=>by
  simp only[comp,exec]at h;refine wpIn_seq ?_;cases hx:exec r B rd (comp P N x) S with
  | none=>rw[hx]at h; cases h
  | some res=>
   obtain⟨ex1,S1⟩:=res;rw[hx]at h;refine wpIn_mono (zcR hm hr x S S1 ex1 w1 ι a w rb hx hF hrd) λen a1 wx hp=>?_
   obtain⟨ι1,hle,hp⟩:=hp;cases ex1 with
   | normal=>
    obtain⟨rfl,hF1⟩:=hp;exact wpIn_mono (zcR hm hr y S1 S' ex w1 ι1 a1 wx rb h hF1 (hrd.mono hle)) λen a2 w2 hp2=>hp2.mono hle
   | exit id=>
    simp only[qae,qan]at h;obtain⟨rfl,rfl⟩:=h;obtain⟨rfl,hF1⟩:=hp;exact⟨ι1,hle,rfl,hF1⟩
   | ret=>
    simp only[qae,qan]at h;obtain⟨rfl,rfl⟩:=h;obtain⟨rfl,hF1⟩:=hp;exact⟨ι1,hle,rfl,hF1⟩
   | panic v e=>
    simp only[qae,qan]at h;obtain⟨rfl,rfl⟩:=h;obtain⟨u,rfl,hp⟩:=hp;exact⟨ι1,hle,u,rfl,hp⟩
 | .cond c x y,S,S',ex,w1,ι,a,w,rb,h,hF,hrd=>by
  simp only[comp,exec]at h;split at h
  .rename_i hb;exact wpIn_cond_true (zfd hF.env hb) (zcR hm hr x S S' ex w1 ι a w rb h hF hrd)
  .rename_i hb;exact wpIn_cond_false (zfd hF.env hb) (zcR hm hr y S S' ex w1 ι a w rb h hF hrd)
  .cases h
 | .block id c,S,S',ex,w1,ι,a,w,rb,h,hF,hrd=>by
  simp only[comp,exec]at h;refine wpIn_block ?_;cases hx:exec r B rd (comp P N c) S with
  | none=>rw[hx]at h; cases h
  | some res=>
   obtain⟨ex1,S1⟩:=res;rw[hx]at h;refine wpIn_mono (zcR hm hr c S S1 ex1 w1 ι a w rb hx hF hrd) λen a1 wx hp=>?_
   grind [Exit.inBlock,Go.Mx.zfT]
 | .loop c,S,S',ex,w1,ι,a,w,rb,h,hF,hrd=>by
  simp only[comp,exec]at h;refine zqE (λl a w=>zkl l a w) (λa w=>ztC a w) ?_;cases hx:exec r B rd (comp P N c) S with
  | none=>rw[hx]at h; cases h
  | some res=>
   obtain⟨ex1,S1⟩:=res;rw[hx]at h;refine wpIn_mono (zcR hm hr c S S1 ex1 w1 ι a w rb hx hF hrd) λen a1 wx hp=>?_
   obtain⟨ι1,hle,hp⟩:=hp;cases ex1 with
   | normal=>
    obtain⟨rfl,hF1⟩:=hp;exact wpIn_mono ((hr.code _ _ _ _ _ _ h).1 N (.loop c) w1 ι1 a1 wx rb rfl hF1 (hrd.mono hle)) λen a2 w2 hp2=>hp2.mono hle
   | exit id=>
    simp only[qae,qan]at h;obtain⟨rfl,rfl⟩:=h;obtain⟨rfl,hF1⟩:=hp;exact⟨ι1,hle,rfl,hF1⟩
   | ret=>
    simp only[qae,qan]at h;obtain⟨rfl,rfl⟩:=h;obtain⟨rfl,hF1⟩:=hp;exact⟨ι1,hle,rfl,hF1⟩
   | panic v e=>
    simp only[qae,qan]at h;obtain⟨rfl,rfl⟩:=h;obtain⟨u,rfl,hp⟩:=hp;exact⟨ι1,hle,u,rfl,hp⟩
 | .scope c,S,S',ex,w1,ι,a,w,rb,h,hF,hrd=>by
  simp only[comp,exec]at h;exact zt8 (λl a w=>zkl l a w) (zcR hm hr c S S' ex w1 ι a w rb h hF hrd)
 | .rangeFunc x ps asg body,S,S',ex,w1,ι,a,w,rb,h,hF,hrd=>by
  simp only[comp,exec]at h;split at h
  .rename_i gf first cap hx
   cases hok:zuh rd S.heap with
   | false=>simp_all
   | true=>
    simp only[hok,qbs,qdu]at h;have hg:=zae hF.env hx;generalize hu0:a.eval x=u0 at hg;cases hg with
    | clo _ _ _ xs ys g1 g2 g3 g4=>
    cases hcall:r.call B gf (first ++ [.yld (zca rd S).length]++ cap) (zca rd S ++ [.loop true none S.env ps.toList (comp P N asg) (comp P N body)])with
    | none=>rw[hcall]at h; cases h
    | some res=>
     obtain⟨cr,h2⟩:=res;rw[hcall]at h;refine wpIn_rangeFunc λfn _=>?_
     have henter:∃(l:Nat) (mark:List Deferred) (wa:World) (ιa:Io) (R:Loop),(Instr.enterLoop fn a.tmps ps asg body rb).run P w=.ok (l,mark) (zbI wa (.loop R))/\wa.heap.size=l/\Io.le ι ιa/\Sim P B w1 ιa (zca rd S) wa/\DfsRel ιa (zfY rd S) (mark ++ a.defers)/\
       R.state=.ready/\R.pending=none/\R.tmps=a.tmps/\R.params=ps/\R.assign=asg/\R.body=body:=by
      rcases hrd with⟨rfl,rfl⟩| ⟨l0,b0,s0,sz0,rfl,rfl,hι0⟩
      .have hS0:=hF.sim.alloc (o:=.dfr) (s:=0) (sz:=0) (.deferred (some [])) ⟨w.heap.size,0,0,Io.zbf _ _ _,zdt _ _⟩;refine⟨w.heap.size+1,_,zbI w (.deferred (some [])),_,_,run_enterLoop_outer fn a.tmps ps asg body,by simp[zbI],hF.sim.zdQ _,hS0,?_,rfl,rfl,rfl,rfl,rfl,rfl⟩;exact .cons (.coll _ w.heap.size 0 0 (Io.zbf _ _ _)) (hF.dfs.mono (hF.sim.zdQ _))
      simp only[zuh]at hok;split at hok
      .rename_i st pend env ps' asg' body' hl;obtain⟨b,s,sz,R0,k1,k2,_⟩:=hF.sim.obj l0 _ hl;rw[hι0]at k1; cases k1;exact⟨w.heap.size,[],w,ι,_,run_enterLoop_inner k2 fn a.tmps ps asg body,rfl,Io.le.refl _,hF.sim,hF.dfs,rfl,rfl,rfl,rfl,rfl,rfl⟩
      cases hok
     obtain⟨l,mark,wa,ιa,R,he,hsz,hlea,hSa,hdfs,e1,e2,e3,e4,e5,e6⟩:=henter;have hSb:Sim P B w1 (ιa.ext (zca rd S).length (wa.heap.size,0,0)) (zca rd S ++ [.loop true none S.env ps.toList (comp P N asg) (comp P N body)]) (zbI wa (.loop R)):=by
      refine hSa.alloc (.loop R) ⟨wa.heap.size,0,0,R,Io.zbf _ _ _,zdt _ _,e1,e2,?_,λk v hk=>?_,?_,?_,?_⟩
      .rw[e3,hF.env.1,hF.env.2.1]
      .rw[e3]; exact((hF.env.2.2 k v hk).mono hlea).mono (hSa.zdQ _)
      .rw[e4]
      .rw[e5,hF.env.2.1]
      rw[e6,hF.env.2.1]
     generalize hιb:ιa.ext (zca rd S).length (wa.heap.size,0,0)=ιb at hSb;have hleb:Io.le ι ιb:=by rw[<- hιb]; exact hlea.trans (hSa.zdQ _)
     have hleab:Io.le ιa ιb:=by rw[<- hιb]; exact hSa.zdQ _
     have hιl:ιb (zca rd S).length=some (l,0,0):=by rw[<- hιb,Io.zbf,hsz]
     have hargs:zgq ιb (first ++ [.yld (zca rd S).length]++ cap) (xs ++ #[.func (.yield l) #[] #[]]++ ys):=by
      refine zgq.append (zgq.append (l:=first) (arr:=xs) ⟨g1,λi x v h1 h2=>(g3 i x v h1 h2).mono hleb⟩ ⟨rfl,λi x v h1 h2=>?_⟩) ⟨g2,λi x v h1 h2=>(g4 i x v h1 h2).mono hleb⟩;cases i with
      | zero=>simp at h1 h2; subst h1; subst h2; exact .yld _ _ 0 0 hιl
      | succ i=>simp at h1
     obtain⟨hco,hkeep⟩:=hr.call _ _ _ _ _ _ hcall;obtain⟨hbody,hcalls⟩:=hco.1 w1 ιb (zbI wa (.loop R)) _ hSb hargs;have hBl:B<=(zca rd S).length:=hSa.base;have hinv:∀ w',(invoke (.fn (.func gf) ys) (xs ++ #[.func (.yield l) #[] #[]])).run P w'=.ok (.enter gf (xs ++ #[.func (.yield l) #[] #[]]++ ys)) w':=by
      intro w';unfold zhp at hbody;cases hfn:P.funcs[gf]? with
      | none=>rw[hfn]at hbody; cases hbody
      | some fn'=>
       rw[hfn]at hbody;simp only[qai,qbh,qdA]at hbody;have q1:¬ (fn'.name = "runtime.NumGoroutine"):=hbody.1;obtain⟨bd,hbd⟩:=qa5.1 hbody.2;simp[invoke,callFunc,hfn,q1,hbd]
     refine⟨l,mark,zbI wa (.loop R),{ target:=.fn (.func gf) ys,args:=xs ++ #[.func (.yield l) #[] #[]] },zbI wa (.loop R),gf,xs ++ #[.func (.yield l) #[] #[]]++ ys,zbI wa (.loop R),he,?_,λ_ _=>trivial,hinv _,zjZ rb 0,?_⟩
     .simp only[resolve,hu0,Deferred.ofValue];simp[Act.eval]
     refine CallsIn.mono (F:=FW rb) (n:=0) hcalls λen wx hp=>?_
     obtain⟨ι2,hle2,hS2,hp⟩:=hp;cases cr with
     | pan v=>
      obtain⟨u,rfl,hv⟩:=hp;simp only[qae,qan]at h;obtain⟨rfl,rfl⟩:=h;exact⟨ι2,hleb.trans hle2,u,rfl,hv,hS2,hdfs.mono (hleab.trans hle2),λ_=>hF.env.mono (hleb.trans hle2)⟩
     | ret v=>
      obtain⟨u,rfl,hv⟩:=hp;simp only[]at h;have fin:∀(st:Bool) (pend:Option Jump) env' ps' asg' body',h2[(zca rd S).length]? = some (.loop st pend env' ps' asg' body')->¬ (st=false/\pend=none)->
        ∃ w4,(Instr.endLoop l).run P wx=.ok (pend.map zg3) w4/\FSim P N B w1 ι2 ⟨S.env,zfY rd S,h2.set (zca rd S).length .dead⟩ { a with defers:=mark ++ a.defers } w4:=by
       intro st pend env' ps' asg' body' hl hst;obtain⟨b,s,sz,R2,k1,k2,k3,k4,_⟩:=hS2.obj _ _ hl;rw[hle2 _ _ hιl]at k1; cases k1;have hnb:R2.state≠.busy:=by
        rw[k3];cases st with
        | true=>simp
        | false=>
         cases pend with
         | none=>exact absurd ⟨rfl,rfl⟩ hst
         | some j=>simp
       have hend:=run_endLoop (P:=P) k2 hnb;rw[k4]at hend;exact⟨_,hend,hS2.change (o':=.dead) hl trivial hBl (hle2 _ _ hιl) (zcs _ _ _) trivial,hF.env.mono (hleb.trans hle2),hdfs.mono (hleab.trans hle2)⟩
      split at h
      .rename_i env' ps' asg' body' hl;simp only[qae,qan]at h;obtain⟨rfl,rfl⟩:=h;obtain⟨w4,q1,q2⟩:=fin true none env' ps' asg' body' hl (by simp);exact⟨none,w4,q1,ι2,hleb.trans hle2,rfl,q2⟩
      .rename_i j env' ps' asg' body' hl;simp only[qae,qan]at h;obtain⟨rfl,rfl⟩:=h;obtain⟨w4,q1,q2⟩:=fin false (some j) env' ps' asg' body' hl (by simp);refine⟨some (zg3 j),w4,q1,?_⟩;cases j with
       | ret=>exact wpIn_ret ⟨ι2,hleb.trans hle2,rfl,q2⟩
       | exit id=>exact wpIn_exit ⟨ι2,hleb.trans hle2,rfl,q2⟩
      cases h
  .cases h
 | .goto l,S,S',ex,w1,ι,a,w,rb,h,hF,hrd=>by cases h
 | .refuse s,S,S',ex,w1,ι,a,w,rb,h,hF,hrd=>by cases h
theorem zbH(hr:RecOk P r):∀(c:C) (S S':St) (ex:Ex),exec r B rd c S=some (ex,S')->B<=S.heap.length->zaG B S.heap S'.heap
 | .skip,S,S',ex,h,_=>by simp only[exec,qae,qan]at h; obtain⟨_,rfl⟩:=h; exact zaG.refl _ _
 | .label l,S,S',ex,h,_=>by simp only[exec,qae,qan]at h; obtain⟨_,rfl⟩:=h; exact zaG.refl _ _
 | .exit id,S,S',ex,h,_=>by simp only[exec,qae,qan]at h; obtain⟨_,rfl⟩:=h; exact zaG.refl _ _
 | .ret,S,S',ex,h,_=>by simp only[exec,qae,qan]at h; obtain⟨_,rfl⟩:=h; exact zaG.refl _ _
 | .reg dr bar os,S,S',ex,h,_=>zgv hr os S S' ex h
 | .seq x y,S,S',ex,h,hB=>by
  simp only[exec]at h;split at h
  .rename_i S1 hx;have k1:=zbH hr x S S1 _ hx hB;exact k1.trans (zbH hr y S1 S' ex h (qaq hB (k1 hB).1))
  .exact zbH hr x S S' ex h hB
 | .cond x c d,S,S',ex,h,hB=>by
  simp only[exec]at h;split at h
  .exact zbH hr c S S' ex h hB
  .exact zbH hr d S S' ex h hB
  .cases h
 | .block id c,S,S',ex,h,hB=>by
  simp only[exec]at h;split at h
  .rename_i id' S1 hx;have k1:=zbH hr c S S1 _ hx hB
   grind
  .exact zbH hr c S S' ex h hB
 | .loop c,S,S',ex,h,hB=>by
  simp only[exec]at h;split at h
  .rename_i S1 hx;exact(zbH hr c S S1 _ hx hB).trans (hr.code _ _ _ _ _ _ h).2
  .exact zbH hr c S S' ex h hB
 | .scope c,S,S',ex,h,hB=>by
  simp only[exec]at h;exact zbH hr c S S' ex h hB
 | .zey x ps asg body,S,S',ex,h,hB=>by
  simp only[exec]at h;split at h
  .cases hok:zuh rd S.heap with
   | false=>simp_all
   | true=>
    simp only[hok,qbs,qdu]at h;have k0:zaG B S.heap (zca rd S):=by
     cases rd with
     | none=>exact zaG.snoc _ _ _
     | some l=>exact zaG.refl _ _
    have hBl:B<=(zca rd S).length:=qaq hB (k0 hB).1;split at h
    .grind [Go.Mx.zaG,Go.Mx.RecOk]
    .grind [Go.Mx.zaG,Go.Mx.RecOk]
    cases h
  .cases h
 | .bad,S,S',ex,h,_=>by cases h
end
def znE(P:Program)(f:Nat)(fn:Fn):Prop:=zjG P f=some { fn with p:=false }
theorem znE.wr{P:Program}{f:Nat}{fn:Fn}(h:znE P f fn):wrF f=false:=by
 grind [znE,zjG]
theorem znE.inv{P:Program}{f:Nat}{fn:Fn}(h:znE P f fn):∃ fn0 body,P.funcs[f]? = some fn0/\fn0.body=some body/\fn.N=fn0.ntmps/\fn.c=comp P fn0.ntmps body/\fn.rs=fn0.results.toList.map (zmG P)/\fn0.results.toList.all (zp1 P)=true/\zhp P f=true:=by
 grind [znE,zjG,zhp,qc6]
section
variable {P:Program} {B N:Nat} {w1 w:World} {ι:Io} {S S':St} {a:Act} {r:Rec} {h h':zam}
def zlY(tmps:Array Value):ResultVar->Sem Value
 | .tmp t=>pure (tmps.getD t undef)
 | .cell a t=>do loadVar t (<- asAddr (tmps.getD a undef))
theorem zt5(fn:Func)(tmps:Array Value):results fn tmps=(do let vs <- fn.results.mapM (zlY tmps); pure (if h:vs.size=1 then vs[0]else .tuple vs)):=by
 unfold results;congr 1
theorem zps(hS:Sim P B w1 ι h w){env:List V}(hE:zcq ι N env a){x:ResultVar}(hk:zp1 P x=true){v:V}(hv:zht h env (zmG P x)=some v):∃ u,VRel ι v u/\(zlY a.tmps x).run P w=.ok u w:=by
 cases x with
 | tmp t=>exact⟨_,hE.2.2 t v hv,by simp[zlY]⟩
 | cell c t=>
  simp only[zmG,zht]at hv;split at hv
  .rename_i β o hc;obtain⟨cs,h2,h3⟩:=qaY.1 hv;have hx:=hE.2.2 c _ hc;generalize hu0:a.tmps.getD c undef=u0 at hx;cases hx with
   | ptr _ _ b s sz hι=>
    obtain⟨u,g1,g2⟩:=zdK (P:=P) (w:=w) hk h3 (λk x hk=>hS.cellAt h2 hι k x hk)
    grind [zlY,asAddr]
  cases hv
theorem zjn(hS:Sim P B w1 ι h w){env:List V}(hE:zcq ι N env a):∀(xs:List ResultVar) {vs:List V},xs.all (zp1 P)=true->zcL h env (xs.map (zmG P))=some vs ->
  ∃ us:List Value,us.length=vs.length/\(∀(i:Nat) x u,vs[i]? = some x->us[i]? = some u->VRel ι x u)/\(xs.mapM (zlY a.tmps)).run P w=.ok us w
 | [],vs,_,hv=>by
  simp_all [zcL]
 | x :: xs,vs,hk,hv=>by
  simp only[qaL,zcL]at hv;simp only[qdn,qai]at hk;split at hv
  .rename_i v1 vs1 h1 h2;cases hv;obtain⟨u,g1,g2⟩:=zps hS hE hk.1 h1;obtain⟨us,g3,g4,g5⟩:=zjn hS hE xs hk.2 h2;refine⟨u :: us,by simp[g3],λi y z hy hz=>?_,by simp[qcZ,g2,g5]⟩<;> grind
  cases hv
theorem ziq(hS:Sim P B w1 ι h w){env:List V}(hE:zcq ι N env a){fn:Func}(hk:fn.results.toList.all (zp1 P)=true){vs:List V}(hv:zcL h env (fn.results.toList.map (zmG P))=some vs):
  ∃ u,VRel ι (zhB vs) u/\(results fn a.tmps).run P w=.ok u w:=by
 obtain⟨us,g1,g2,g3⟩:=zjn hS hE _ hk hv;have hm:(fn.results.mapM (zlY a.tmps)).run P w=.ok us.toArray w:=by
  have:fn.results=fn.results.toList.toArray:=by simp
  rw[this,List.mapM_toArray];simp[g3]
 rw[zt5];simp only[Sem.run_bind,hm,Result.andThen_ok,Sem.run_pure];refine⟨_,?_,rfl⟩
 match vs,us,g1 with
 | [v],[u],_=>exact g2 0 v u rfl rfl
 | [],[],_=>exact .tup _ _ rfl (by simp)
 | v :: v' :: vs,u :: u' :: us,hl=>
  grind [zhB,Go.Mx.VRel]
variable{u:FrameMode}
theorem CallsDIn.mono{F:Fence}{n:Nat}{f:FuncId}{args:Array Value}{R R':Ending->FrameMode->World->Prop}(hc:CallsDIn F n P f args u w R)(hr:∀ e u' w',R e u' w'->R' e u' w'):CallsDIn F n P f args u w R':=
 ⟨hc.1,λc cs hm hroom=>let ⟨e,u',w',fr,r,rest⟩:=hc.2 c cs hm hroom; ⟨e,u',w',fr,hr _ _ _ r,rest⟩⟩
variable{f:Nat}
theorem ztb(hf:zhp P f=true)(xs ys:Array Value)(w':World):(invoke (.fn (.func f) ys) xs).run P w'=.ok (.enter f (xs ++ ys)) w':=by
 unfold zhp at hf;cases hfn:P.funcs[f]? with
 | none=>rw[hfn]at hf; cases hf
 | some fn=>
  rw[hfn]at hf;simp only[qai,qbh,qdA]at hf;have h1:¬ (fn.name = "runtime.NumGoroutine"):=hf.1;obtain⟨bd,hbd⟩:=qa5.1 hf.2
  simp_all [invoke,callFunc]
theorem zpc(pu:Option Value):zff pu≠.run:=by cases pu<;>simp[zff]
theorem zfZ(hr:RecOk P r){fn:Func}{tmps:Array Value}{R:Ending->World->Prop}{pv':Option V}{h':zam}:∀(ds:List Df) (es:List Deferred) (pv:Option V) (pu:Option Value) (h:zam) (w:World) (ι:Io),leave r B pv ds h=some (pv',h')->Sim P B w1 ι h w->DfsRel ι ds es->zok ι pv pu ->
  (∀ ι' w' pu',Io.le ι ι'->Sim P B w1 ι' h' w'->zok ι' pv' pu'->LeavesInM (FW none) 0 P fn tmps R [] (zff pu') w')->LeavesInM (FW none) 0 P fn tmps R es (zff pu) w
 | [],es,pv,pu,h,w,ι,hl,hS,hd,hp,hk=>by
  grind [leave,Io.le,Go.Mx.DfsRel]
 | .coll d :: ds,es,pv,pu,h,w,ι,hl,hS,hd,hp,hk=>by
  cases hd with
  | cons hd1 hds=>
  cases hd1 with
  | coll _ b s sz hι=>
   simp only[leave]at hl;split at hl
   .rename_i hdd;cases hB:Nat.ble B d with
    | false=>simp_all
    | true=>
     simp only[hB,qdt]at hl;have hB:=qad hB;obtain⟨b',s',sz',k1,k2⟩:=hS.obj d _ hdd;rw[hι]at k1; cases k1;refine⟨zpc pu,.inl ⟨b,_,rfl,run_takeDeferred k2,?_⟩⟩;have hS':Sim P B w1 ι (h.set d .dead) (zhH w b (.deferred none)):=hS.change (o':=.dead) hdd trivial hB hι (zcs _ _ _) trivial;exact zfZ hr ds _ pv pu _ _ ι hl hS' hds hp hk
   .cases hl
 | .fn f args :: ds,es,pv,pu,h,w,ι,hl,hS,hd,hp,hk=>by
  cases hd with
  | cons hd1 hds=>
  cases hd1 with
  | fn _ _ xs ys ha=>
   simp only[leave]at hl;split at hl
   .rename_i pv1 h1 hdc;obtain⟨hok,_⟩:=hr.dcall _ _ _ _ _ _ _ hdc;obtain⟨hbody,hcd⟩:=hok w1 ι w (xs ++ ys) pu hS ha hp;refine⟨zpc pu,.inr ⟨zjZ none 0,.func f,ys,f,xs ++ ys,rfl,ztb hbody xs ys w,λ_ _=>trivial,?_⟩⟩;refine CallsDIn.mono hcd λe u' w' he=>?_
    obtain⟨⟨v,rfl⟩,ι',pu',hle,hS',hset,hp'⟩:=he;show LeavesInM (FW none) 0 P fn tmps R _ (settle u') w';rw[hset];exact zfZ hr ds _ pv1 pu' h1 w' ι' hl hS' (hds.mono hle) hp' (λι2 w2 pu2 hle2=>hk ι2 w2 pu2 (hle.trans hle2))
   cases hl
theorem zf1(hr:RecOk P r){pv':Option V}{h':zam}:∀(ds:List Df) (pv:Option V) (h:zam),leave r B pv ds h=some (pv',h')->zaG B h h'
 | [],pv,h,hl=>by
  grind [leave,zaG.refl]
 | .coll d :: ds,pv,h,hl=>by
  simp only[leave]at hl;split at hl
  .cases hB:Nat.ble B d with
   | false=>simp_all
   | true=>
    simp only[hB,qdt]at hl;exact(zaG.set _ _ (qad hB)).trans (zf1 hr ds pv _ hl)
  .cases hl
 | .fn f args :: ds,pv,h,hl=>by
  simp only[leave]at hl;split at hl
  .rename_i pv1 h1 hdc;exact(hr.dcall _ _ _ _ _ _ _ hdc).2.trans (zf1 hr ds _ _ hl)
  cases hl
variable{args:List V}
theorem zof{vs:Array Value}(ha:zgq ι args vs){n:Nat}(hn:args.length<=n):zcq ι n (args ++ List.replicate (n - args.length) zbc) ⟨vs ++ Array.replicate (n - vs.size) undef,[]⟩:=by
 have hsz:=ha.1;refine⟨by simp; omega,by simp; omega,λk v hk=>?_⟩;simp only[Array.getD_eq_getD_getElem?];rw[qch]at hk;rw[Array.getElem?_append];rw[hsz];split at hk
 .rename_i hlt;rw[if_pos hlt];have hlt':k<vs.size:=by omega
  rw[qbd hlt',qbA];exact ha.2 k v _ hk (qbd hlt')
 rename_i hge;rw[if_neg hge];have hv:v=zbc:=by
  have:=qaC hk;exact(qcv.1 this).2
 subst hv;have:((Array.replicate (n - args.length) undef)[k - args.length]?).getD undef=undef:=by
  rw[Array.getElem?_replicate];split<;>rfl
 rw[this];exact .lit _
variable{pv:Option V}{cr:CR}
theorem zkY(hr:RecOk P r){fn:Fn}{fn0:Func}(hrs:fn.rs=fn0.results.toList.map (zmG P))(hres:fn0.results.toList.all (zp1 P)=true){pu:Option Value}{e:Bool}{h':zam}(hf:fin r B fn pv e S'=some (cr,h')){ι0:Io}(hle0:Io.le ι0 ι)(hS:Sim P B w1 ι S'.heap w)(hE:e=true->zcq ι N S'.env a)(hd:DfsRel ι S'.dfs a.defers)(hp:zok ι pv pu):
  LeavesInM (FW none) 0 P fn0 a.tmps (zfw P B w1 ι0 cr h') a.defers (zff pu) w:=by
 unfold fin at hf;split at hf
 .rename_i h1 hl;cases e with
  | false=>simp_all
  | true=>
  simp only[qbs,qdu,qal,qan]at hf;obtain⟨vs,hv,rfl,rfl⟩:=hf;refine zfZ hr _ _ pv pu _ w ι hl hS hd hp λι' w' pu' hle hS' hp'=>?_
  cases pu' with
  | some _=>exact hp'.elim
  | none=>
   rw[hrs]at hv;obtain⟨u,g1,g2⟩:=ziq hS' ((hE rfl).mono hle) hres hv;exact⟨u,g2,ι',hle0.trans hle,hS',u,rfl,g1⟩
 .rename_i v h1 hl;simp only[qae,qan]at hf;obtain⟨rfl,rfl⟩:=hf;refine zfZ hr _ _ pv pu _ w ι hl hS hd hp λι' w' pu' hle hS' hp'=>?_
  cases pu' with
  | none=>exact hp'.elim
  | some u=>exact⟨ι',hle0.trans hle,hS',u,rfl,hp'⟩
 cases hf
theorem zlS(hm:P.follows .mixedOrders=true)(hr:RecOk P r){fn:Fn}(hfn:znE P f fn)(hc:body r fn B args h=some (cr,h')):zqa P B f args h cr h':=by
 unfold body at hc;obtain⟨fn0,body,hf,hb,hN,hcc,hrs,hres,hbody⟩:=hfn.inv;cases hle:Nat.ble args.length fn.N with
 | false=>simp_all
 | true=>
  simp only[hle,qdt]at hc;have hle:=qad hle;intro w1 ι w vs hS ha;refine⟨hbody,callsIn_of_wp_marks hf hb trivial ?_⟩;have hF:FSim P fn0.ntmps B w1 ι ⟨args ++ List.replicate (fn.N - args.length) zbc,[],h⟩ ⟨vs ++ Array.replicate (fn0.ntmps - vs.size) undef,[]⟩ w:=⟨hS,by rw[hN]at hle ⊢; exact zof ha hle,.nil⟩;cases hx:exec r B none fn.c ⟨args ++ List.replicate (fn.N - args.length) zbc,[],h⟩with
  | none=>rw[hx]at hc; cases hc
  | some res=>
   obtain⟨ex,S'⟩:=res;rw[hx]at hc;rw[hcc]at hx;refine wpIn_mono (zcR hm hr body _ S' ex w1 ι _ w none hx hF (.inl ⟨rfl,rfl⟩)) λen a' w' hp=>?_
   obtain⟨ι',hle',hp⟩:=hp;cases ex with
   | normal=>
    obtain⟨rfl,hF'⟩:=hp;exact zkY (pv:=none) (pu:=none) (N:=fn0.ntmps) hr hrs hres hc hle' hF'.sim (λ_=>hF'.env) hF'.dfs trivial
   | ret=>
    obtain⟨rfl,hF'⟩:=hp;exact zkY (pv:=none) (pu:=none) (N:=fn0.ntmps) hr hrs hres hc hle' hF'.sim (λ_=>hF'.env) hF'.dfs trivial
   | panic v e=>
    obtain⟨u,rfl,hv,hS',hd,hE⟩:=hp;exact zkY (pv:=some v) (pu:=some u) (N:=fn0.ntmps) hr hrs hres hc hle' hS' hE hd hv
   | exit id=>cases hc
theorem ztY(hr:RecOk P r){fn:Fn}(hc:body r fn B args h=some (cr,h')):zaG B h h':=by
 have hfin:∀ {pv:Option V} {e:Bool} {S':St},fin r B fn pv e S'=some (cr,h')->zaG B S'.heap h':=by
  intro pv e S' hf;unfold fin at hf;split at hf
  .rename_i h1 hl;cases e with
   | false=>simp_all
   | true=>
    simp only[qbs,qdu,qal,qan]at hf;obtain⟨vs,hv,_,rfl⟩:=hf;exact zf1 hr _ _ _ hl
  .rename_i v h1 hl;simp only[qae,qan]at hf;obtain⟨_,rfl⟩:=hf;exact zf1 hr _ _ _ hl
  cases hf
 intro hB;unfold body at hc;cases hle:Nat.ble args.length fn.N with
 | false=>simp_all
 | true=>
  simp only[hle,qdt]at hc;split at hc
  .rename_i S' hx; exact((zbH hr _ _ _ _ hx hB).trans (hfin hc)) hB
  .rename_i S' hx; exact((zbH hr _ _ _ _ hx hB).trans (hfin hc)) hB
  .rename_i v e S' hx; exact((zbH hr _ _ _ _ hx hB).trans (hfin hc)) hB
  cases hc
theorem znv{ι ι':Io}:∀(vs:List V),V.lits vs=true->∀(i:Nat) x u,vs[i]? = some x->VRel ι x u->VRel ι' x u
 | [],_,i,x,u,hx,_=>by simp at hx
 | v :: vs,hl,i,x,u,hx,hr=>by
  cases v with
  | lit y=>
   simp only[V.lits]at hl;cases i with
   | zero=>grind [Go.Mx.VRel]
   | succ i=>exact znv vs hl i x u (by simpa using hx) hr
  | _=>simp[V.lits]at hl
variable{ι':Io}
theorem zvi{ι:Io}{vs:List V}(hl:V.lits vs=true){u:Value}(hr:VRel ι (.agg vs) u):VRel ι' (.agg vs) u:=by
 cases hr with
 | agg _ arr h1 h2 h3=>exact .agg vs arr h1 (λi x v hx hv=>znv vs hl i x v hx (h2 i x v hx hv)) h3
theorem zxR{ι:Io}{v:V}(hp:v.plain=true){u:Value}(hr:VRel ι v u):VRel ι' v u:=by
 cases v with
 | lit x=>cases hr; exact .lit _
 | tup vs=>
  cases hr with
  | tup _ arr h1 h2=>exact .tup vs arr h1 (λi x v hx hv=>znv vs hp i x v hx (h2 i x v hx hv))
 | agg vs=>exact zvi hp hr
 | ifc t v=>
  grind [zvi,V.plain,Go.Mx.VRel]
 | _=>simp[V.plain]at hp
theorem Sim.still{w':World}(hS:Sim P B w1 ι h w)(hb:Below w.heap.size w w'):Sim P B w1 ι h w':=
 hS.grown ⟨hb.os,hb.tape,hb.output,hb.size,λk hk _=>hb.block k hk⟩
variable{fns:Nat->Option Fn}
theorem zqD(hm:P.follows .mixedOrders=true)(hr:RecOk P r)(hfns:∀ f fn,fns f=some fn->znE P f fn){f:Nat}(hc:zi2 r fns B f args h=some (cr,h')):zgb P B f args h cr h'/\zaG B h h':=by
 unfold zi2 at hc;split at hc
 .rename_i fn hfn;have hok:=hfns f fn hfn;cases hp:fn.p with
  | false=>
   grind [zlS,ztY,zgb.of,znE.wr]
  | true=>
   simp only[hp,qdt]at hc;cases hB:Nat.ble B h.length with
   | false=>simp_all
   | true=>
    simp only[hB,qdt]at hc;have key:∀ cr2 h2,body r fn h.length args h=some (cr2,h2)->(∃ v,(cr2=.ret v\/cr2=.pan v)/\v.plain=true)->cr2=cr->h=h'->zgb P B f args h cr h'/\zaG B h h':=by
     intro cr2 h2 hb hpl hcr hh;subst hcr; subst hh;refine⟨.of (λw1 ι w vs hS ha=>?_) hok.wr,zaG.refl _ _⟩;obtain⟨g1,g2⟩:=zlS hm hr hok hb w ι w vs hS.zz8 ha;refine⟨g1,CallsIn.mono g2 λen w' hpost=>?_⟩;obtain⟨ι',hle,hS',hpost⟩:=hpost;refine⟨ι,Io.le.refl _,hS.still hS'.below,?_⟩<;> grind [zxR]
    cases hb:body r fn h.length args h with
    | none=>rw[hb]at hc; simp[forget]at hc
    | some res=>
     obtain⟨cr2,h2⟩:=res;rw[hb]at hc;cases cr2<;>grind [forget]
 cases hc
def zud(ι:Io)(pv:Option V)(u:FrameMode):Prop:=(∃ v x,pv=some v/\u=.panicking [{ v:=x,recovered:=false }]/\VRel ι v x)\/(pv=none/\(u=.returning\/∃ x,u=.panicking [{ v:=x,recovered:=true }]))
theorem zud.mono{ι ι':Io}(hle:Io.le ι ι'){pv:Option V}{u:FrameMode}(hm:zud ι pv u):zud ι' pv u:=by
 grind [VRel.mono,zud]
theorem zud.settle(hm:zud ι pv u):∃ pu,settle u=zff pu/\zok ι pv pu:=by
 rcases hm with⟨v,x,rfl,rfl,h3⟩| ⟨rfl,rfl | ⟨x,rfl⟩⟩
 .exact⟨some x,rfl,h3⟩
 .exact⟨none,rfl,qds⟩
 exact⟨none,rfl,qds⟩
def ziS(P:Program)(N B:Nat)(w1:World)(ι:Io)(ex:Ex)(pv':Option V)(S':St)(c₀:Frame)(cs₀:List Frame):Exit->Act->List Frame->World->Prop:=λen a' cs' w'=>
 ∃ u',cs'={ c₀ with mode:=u' }:: cs₀/\∃ ι',Io.le ι ι'/\zud ι' pv' u' /\
 match ex with
 | .panic _ _=>True
 | .normal=>en=.normal/\FSim P N B w1 ι' S' a' w'
 | .exit id=>en=.exit id/\FSim P N B w1 ι' S' a' w'
 | .ret=>en=.ret/\FSim P N B w1 ι' S' a' w'
variable{pv':Option V}{c₀:Frame}{cs₀:List Frame}
theorem ziS.mono{ι:Io}(hle:Io.le ι ι'){ex:Ex}{en:Exit}{a':Act}{cs':List Frame}{w':World}(hp:ziS P N B w1 ι' ex pv' S' c₀ cs₀ en a' cs' w'):ziS P N B w1 ι ex pv' S' c₀ cs₀ en a' cs' w':=by
 grind [Io.le.trans,ziS]
theorem zfP{F:Fence}{n:Nat}{c:Code}{Q Q':Exit->Act->List Frame->World->Prop}{cs:List Frame}(hw:c.wpSIn F n P Q a cs w)(hq:∀ e a cs w,Q e a cs w->Q' e a cs w):c.wpSIn F n P Q' a cs w:=
 λb k hb hr hF hroom=>let ⟨e,a',cs',w',l,q,x⟩:=hw b k hb hr hF hroom; ⟨e,a',cs',w',l,hq _ _ _ _ q,x⟩
theorem zqF{o:Oper}(hi:za1 P o=.recover)(w':World):(execOp a.eval o).run P w'=.ok .recover w':=by
 obtain⟨dst,op,type,pos,after,guard⟩:=o;have key:∀ {b:Bool} {i:I},(bif b then i else I.bad)=.recover->b=true/\i=.recover:=by
  simp_all
 cases op with
 | call c=>
  simp only[za1,zj3]at hi;split at hi
  .obtain⟨_,hi⟩:=key hi; cases hi
  .cases hi
  .rename_i b hc;split at hi
   .split at hi<;>cases hi
   .cases hi
   .cases hi
   .split at hi
    .obtain⟨_,hi⟩:=key hi;split at hi
     .obtain⟨_,hi⟩:=key hi; cases hi
     cases hi
    cases hi
   .split at hi
    .obtain⟨_,hi⟩:=key hi; cases hi
    cases hi
   .split at hi
    .obtain⟨_,hi⟩:=key hi;split at hi
     .obtain⟨_,hi⟩:=key hi; cases hi
     cases hi
    cases hi
   .rw[zbM rfl hc];rfl
   cases hi
  .cases hi
 | alloc t=>
  simp only[za1]at hi;split at hi
  .obtain⟨_,hi⟩:=key hi; cases hi
  .cases hi
 | build t parts=>
  simp only[za1]at hi;split at hi
  .obtain⟨_,hi⟩:=key hi;split at hi
   .obtain⟨_,hi⟩:=key hi; cases hi
   .obtain⟨_,hi⟩:=key hi; cases hi
   cases hi
  .cases hi
 | buildSlice t len parts=>
  simp only[za1]at hi;split at hi
  .obtain⟨_,hi⟩:=key hi;split at hi
   .obtain⟨_,hi⟩:=key hi; cases hi
   cases hi
  .cases hi
 | load t x=>simp only[za1]at hi; obtain⟨_,hi⟩:=key hi; cases hi
 | store t x y=>simp only[za1]at hi; obtain⟨_,hi⟩:=key hi; cases hi
 | fieldAddr s x f=>
  simp only[za1]at hi;split at hi
  .split at hi
   .obtain⟨_,hi⟩:=key hi; cases hi
   cases hi
  .cases hi
 | field s x f=>
  simp only[za1]at hi;split at hi
  .split at hi
   .obtain⟨_,hi⟩:=key hi; cases hi
   cases hi
  .cases hi
 | indexAddr t x i=>
  simp only[za1]at hi;split at hi
  .obtain⟨_,hi⟩:=key hi; cases hi
  .obtain⟨_,hi⟩:=key hi; cases hi
  .cases hi
 | index t x i=>
  simp only[za1]at hi;split at hi
  .obtain⟨_,hi⟩:=key hi; cases hi
  .split at hi<;>cases hi
  .cases hi
 | makeFunc fn first cap=>cases fn<;>cases hi
 | makeInterface t x=>simp only[za1]at hi; split at hi<;>cases hi
 | binOp op t x y ty=>
  simp only[za1]at hi;split at hi
  .cases hi
  all_goals first
   |(split at hi<;>cases hi; done)
   |(cases hi; done)
   |(rename_i fs hs; cases hb:zy5 P t fs<;>rw[hb]at hi<;>simp only[qdt,qdu]at hi<;>first | (split at hi<;>cases hi; done)| (cases hi; done))
 | convert s d x=>simp only[za1]at hi; split at hi<;>cases hi
 | makeSlice t l c=>
  simp only[za1]at hi;split at hi
  .obtain⟨_,hi⟩:=key hi;split at hi
   .obtain⟨_,hi⟩:=key hi; cases hi
   cases hi
  .cases hi
 | slice t x lo hi' mx=>
  simp only[za1]at hi;split at hi
  .obtain⟨_,hi⟩:=key hi; cases hi
  .obtain⟨_,hi⟩:=key hi; cases hi
  .cases hi
 | defer c=>simp only[za1]at hi; split at hi<;>cases hi
 | _=>cases hi
theorem zdg{ops:Array Oper}{c₀:Frame}{cs₀:List Frame}{pv':Option V}:∀(l:List Nat) (S:St) (pv:Option V) (u:FrameMode) (ι:Io) (a:Act) (w:World),FSim P N B w1 ι S a w->zud ι pv u->zqQ B (l.filterMap λi=>(ops[i]?).map (irO P N ops)) pv S=some (pv',S')->
  wpOpsSIn (FW none) 0 P ops (ziS P N B w1 ι .normal pv' S' c₀ cs₀) l a ({ c₀ with mode:=u }:: cs₀) w
 | [],S,pv,u,ι,a,w,hF,hM,h=>by
  simp only[List.filterMap_nil,zqQ,qae,qan]at h;obtain⟨rfl,rfl⟩:=h;exact⟨u,rfl,ι,Io.le.refl _,hM,rfl,hF⟩
 | i :: l,S,pv,u,ι,a,w,hF,hM,h=>by
  have hmono:∀ {ι1:Io} (hle:Io.le ι ι1) (l:List Nat) (a':Act) (cs':List Frame) (w':World),wpOpsSIn (FW none) 0 P ops (ziS P N B w1 ι1 .normal pv' S' c₀ cs₀) l a' cs' w'->wpOpsSIn (FW none) 0 P ops (ziS P N B w1 ι .normal pv' S' c₀ cs₀) l a' cs' w':=by
   intro ι1 hle l;induction l with
   | nil=>intro a' cs' w' hh; exact ziS.mono hle hh
   | cons j l ih=>
    intro a' cs' w' hh;simp only[wpOpsSIn]at hh ⊢;split
    .rename_i ho; simp only[ho]at hh; exact ih _ _ _ hh
    rename_i o ho;simp only[ho]at hh;refine⟨hh.1,?_⟩;have hh:=hh.2;split
    .rename_i hw;simp only[hw,if_true]at hh;generalize (execOp a'.eval o).run P w'=res at hh;cases res with
     | ok x w''=>
      cases x<;>simp only[]at hh ⊢<;>first | exact ih _ _ _ hh | exact hh | (split at hh<;>exact ih _ _ _ hh)
     | halt x w''=>cases x<;>simp only[]at hh ⊢<;>first | exact ziS.mono hle hh | exact hh
    rename_i hw;simp only[hw]at hh;exact ih _ _ _ hh
  simp only[wpOpsSIn];cases ho:ops[i]? with
  | none=>
   simp only[qcE,ho,qdo]at h;exact zdg l S pv u ι a w hF hM h
  | some o=>
   simp only[qcE,ho,qbe,zqQ]at h;refine⟨λ_ _=>trivial,?_⟩;have hwe:=zhX (ops:=ops) hF o;have hi:(irO P N ops o).i=za1 P o:=rfl;have hdst:(irO P N ops o).dst=o.dst:=rfl;simp only[hi,hdst]at h;cases hw:wanted S.env (irO P N ops o).g with
   | false=>
    rw[hw]at h hwe;rw[<- hwe];simp only[qbv,if_false];exact zdg l _ pv u ι _ w (hF.put (.lit _)) hM h
   | true=>
    rw[hw]at h hwe;rw[<- hwe];simp only[if_true];cases hc:zr8 (za1 P o)with
    | true=>
     have hir:za1 P o=.recover:=by
      generalize za1 P o=i at hc;cases i<;>first | rfl | cases hc
     rw[zqF hir];rw[hir]at h;simp only[]at h ⊢;rcases hM with⟨v,x,rfl,rfl,h3⟩| ⟨rfl,rfl | ⟨x,rfl⟩⟩
     .simp only[]at h;simp only[recoverD];exact zdg l _ none (.panicking [{ v:=x,recovered:=true }]) ι _ w (hF.put h3) (.inr ⟨rfl,.inr ⟨x,rfl⟩⟩) h
     .simp only[]at h;simp only[recoverD];exact zdg l _ none .returning ι _ w (hF.put (.lit _)) (.inr ⟨rfl,.inl rfl⟩) h
     .simp only[]at h;simp only[recoverD];exact zdg l _ none (.panicking [{ v:=x,recovered:=true }]) ι _ w (hF.put (.lit _)) (.inr ⟨rfl,.inr ⟨x,rfl⟩⟩) h
    | false=>
     have hh:(bif zak (za1 P o)then(match q S.heap S.env (za1 P o)with | some v=>zqQ B (l.filterMap λi=>(ops[i]?).map (irO P N ops)) pv (S.put o.dst v)| none=>none)
       else(match eff B S.heap S.env (za1 P o)with | some (v,h)=>zqQ B (l.filterMap λi=>(ops[i]?).map (irO P N ops)) pv ({ S with heap:=h }.put o.dst v)| none=>none))=some (pv',S'):=by
      generalize za1 P o=i at h hc;cases i<;>first | exact h | cases hc
     cases hq:zak (za1 P o)with
     | true=>
      rw[hq]at hh;simp only[qdt]at hh;split at hh
      .rename_i v hv;obtain⟨x,h1,h2⟩:=zvX hF.sim hF.env o hv;rw[h1 w (λ_ _=>rfl)];exact zdg l _ pv u ι _ w (hF.put h2) hM hh
      .cases hh
     | false=>
      rw[hq]at hh;simp only[qdu]at hh;split at hh
      .rename_i v h' hv;obtain⟨x,w',ι',hrun,hle,hS',hvr,_⟩:=zvO hF.sim hF.env o hv;rcases hrun with hrun | ⟨hrun,rfl⟩
       .rw[hrun];exact hmono hle _ _ _ _ (zdg l _ pv u ι' _ w' ((hF.heap hle hS').put hvr) (hM.mono hle) hh)
       rw[hrun];exact hmono hle _ _ _ _ (zdg l _ pv u ι' _ w' ((hF.heap hle hS').put hvr) (hM.mono hle) hh)
      cases hh
theorem zqP(hm:P.follows .mixedOrders=true)(hr:RecOk P r):∀(code:Code) (S S':St) (pv pv':Option V) (ex:Ex) (u:FrameMode) (ι:Io) (a:Act) (w:World),zgn r B (comp P N code) pv S=some (ex,pv',S')->FSim P N B w1 ι S a w->zud ι pv u ->
  (∀ v e,ex≠.panic v e)->code.wpSIn (FW none) 0 P (ziS P N B w1 ι ex pv' S' c₀ cs₀) a ({ c₀ with mode:=u }:: cs₀) w:=by
 have plain:∀(code:Code) (S S':St) (pv pv':Option V) (ex:Ex) (u:FrameMode) (ι:Io) (a:Act) (w:World),(exec r B none (comp P N code) S).map (λx=>(x.1,pv,x.2))=some (ex,pv',S')->FSim P N B w1 ι S a w->zud ι pv u ->
   (∀ v e,ex≠.panic v e)->code.wpSIn (FW none) 0 P (ziS P N B w1 ι ex pv' S' c₀ cs₀) a ({ c₀ with mode:=u }:: cs₀) w:=by
  intro code S S' pv pv' ex u ι a w h hF hM hnp;simp only[qal,qan,qdp]at h;obtain⟨ex1,S1,hx,rfl,rfl,rfl⟩:=h;refine wpSIn_of_wpIn rfl (wpIn_mono (zcR hm hr code S S1 ex1 w1 ι a w none hx hF (.inl ⟨rfl,rfl⟩)) λen a1 w2 hp=>?_)
  grind [VRel.mono,zud,ziS,Go.Mx.zfT]
 intro code;induction code with
 | seq x y ihx ihy=>
  intro S S' pv pv' ex u ι a w h hF hM hnp;simp only[comp,zgn]at h;refine wpSIn_seq ?_;cases hx:zgn r B (comp P N x) pv S with
  | none=>rw[hx]at h; cases h
  | some res=>
   obtain⟨ex1,pv1,S1⟩:=res;rw[hx]at h;cases ex1 with
   | normal=>
    refine zfP (ihx S S1 pv pv1 .normal u ι a w hx hF hM (by simp)) λen a1 cs1 wx hp=>?_
    obtain⟨u1,rfl,ι1,hle,hM1,rfl,hF1⟩:=hp;exact zfP (ihy S1 S' pv1 pv' ex u1 ι1 a1 wx h hF1 hM1 hnp) λen a2 cs2 w2 hp2=>ziS.mono hle hp2
   | exit id=>
    simp only[qae,qan]at h;obtain⟨rfl,rfl,rfl⟩:=h;refine zfP (ihx S S1 pv pv1 _ u ι a w hx hF hM (by simp)) λen a1 cs1 wx hp=>?_
    obtain⟨u1,rfl,ι1,hle,hM1,rfl,hF1⟩:=hp;exact⟨u1,rfl,ι1,hle,hM1,rfl,hF1⟩
   | ret=>
    simp only[qae,qan]at h;obtain⟨rfl,rfl,rfl⟩:=h;refine zfP (ihx S S1 pv pv1 _ u ι a w hx hF hM (by simp)) λen a1 cs1 wx hp=>?_
    obtain⟨u1,rfl,ι1,hle,hM1,rfl,hF1⟩:=hp;exact⟨u1,rfl,ι1,hle,hM1,rfl,hF1⟩
   | panic v e=>
    grind
 | cond c x y ihx ihy=>
  intro S S' pv pv' ex u ι a w h hF hM hnp;simp only[comp,zgn]at h
  grind [wpSIn_cond,zfd,Go.Mx.FSim,Go.Mx.evB]
 | region id ops draw=>
  intro S S' pv pv' ex u ι a w h hF hM hnp;cases hc:comp P N (.region id ops draw)with
  | reg dr bar os=>
   rw[hc]at h;simp only[zgn]at h;cases hrec:os.any isRec with
   | false=>
    grind [exec]
   | true=>
    simp only[hrec,qdt]at h;cases dr with
    | true=>simp_all
    | false=>
     simp only[qdu,qal,qan,qdp]at h;obtain⟨pv1,S1,ho,rfl,rfl,rfl⟩:=h;cases draw with
     | true=>
      grind [comp]
     | false=>
      simp only[comp]at hc;cases hb:ops.all (λo=>zlm N o.dst)with
      | false=>simp_all
      | true=>
       simp only[hb,qdt]at hc;cases hc;refine wpSIn_region (zdg _ S pv u ι a w hF hM ?_)<;> grind [zgO]
  | bad=>rw[hc]at h; simp[zgn,exec]at h
  | _=>
   exfalso
   cases draw with
   | false=>
    simp only[comp]at hc;cases hb:ops.all (λo=>zlm N o.dst)<;> simp only[hb,qdu,qdt]at hc<;>cases hc
   | true=>
    simp only[comp]at hc;cases hb:ops.all (λo=>zlm N o.dst)<;> simp only[hb,qdu,qdt]at hc
    .cases hc
    .split at hc
     .cases hc
     .split at hc<;>cases hc
 | _=>
  grind [comp,zgn]
theorem zqr(hm:P.follows .mixedOrders=true)(hr:RecOk P r)(hfns:∀ f fn,fns f=some fn->znE P f fn){f:Nat}(hc:zm6 r fns B f args pv h=some (pv',h')):zxx P B f args pv h pv' h':=by
 unfold zm6 at hc;split at hc
 .rename_i fn hfn;obtain⟨fn0,body,hf,hb,hN,hcc,hrs,hres,hbody⟩:=(hfns f fn hfn).inv;cases hle:Nat.ble args.length fn.N with
  | false=>simp_all
  | true=>
   simp only[hle,qdt]at hc;have hle:=qad hle;intro w1 ι w vs pu hS ha hp;refine⟨hbody,callsDIn_of_wpSIn hf hb trivial λc₀ cs hmode=>?_⟩;have hF:FSim P fn0.ntmps B w1 ι ⟨args ++ List.replicate (fn.N - args.length) zbc,[],h⟩ ⟨vs ++ Array.replicate (fn0.ntmps - vs.size) undef,[]⟩ w:=⟨hS,by rw[hN]at hle ⊢; exact zof ha hle,.nil⟩;have hM:zud ι pv (zff pu):=by
    cases pv with
    | none=>cases pu with
     | none=>exact .inr ⟨rfl,.inl rfl⟩
     | some _=>exact hp.elim
    | some v=>cases pu with
     | none=>exact hp.elim
     | some x=>exact .inl ⟨v,x,rfl,rfl,hp⟩
   have hc0:c₀={ c₀ with mode:=zff pu }:=by rw[<- hmode]
   have fin:∀(ex:Ex) (env:List V) (h1:zam) (pv1:Option V),(ex=.normal\/ex=.ret)->zgn r B fn.c pv ⟨args ++ List.replicate (fn.N - args.length) zbc,[],h⟩=some (ex,pv1,⟨env,[],h1⟩)->
     (zcL h1 env fn.rs).map (λ_=>(pv1,h1))=some (pv',h')->
     body.wpSIn (FW none) 0 P (bodyPostS P fn0 c₀ cs λen u' w'=>(∃ v,en=.returned v)/\∃ ι' pu',Io.le ι ι'/\Sim P B w1 ι' h' w'/\settle u'=zff pu'/\zok ι' pv' pu') ⟨vs ++ Array.replicate (fn0.ntmps - vs.size) undef,[]⟩ (c₀ :: cs) w:=by
    intro ex env h1 pv1 hex hx hres1;simp only[qal,qan]at hres1;obtain⟨rv,hrv,rfl,rfl⟩:=hres1;rw[hcc]at hx;rw[hc0];refine zfP (zqP hm hr body _ _ pv pv1 ex (zff pu) ι _ w hx hF hM (by rcases hex with rfl | rfl<;>simp)) λen a' cs' w' hpp=>?_
    obtain⟨u',rfl,ι',hle',hM',hpp⟩:=hpp;rw[hrs]at hrv;have key:∀ en,(en=.normal\/en=.ret)->FSim P fn0.ntmps B w1 ι' ⟨env,[],h1⟩ a' w'->bodyPostS P fn0 { c₀ with mode:=zff pu } cs (λen u' w'=>(∃ v,en=.returned v)/\∃ ι' pu',Io.le ι ι'/\Sim P B w1 ι' h1 w'/\settle u'=zff pu'/\zok ι' pv1 pu') en a' ({ { c₀ with mode:=zff pu }with mode:=u' }:: cs) w':=by
     intro en hen hF';have hd:a'.defers=[]:=by
      have:=hF'.dfs;generalize a'.defers=es at this;cases this; rfl
     obtain⟨x,_,g2⟩:=ziq hF'.sim hF'.env hres hrv;obtain⟨pu',k1,k2⟩:=hM'.settle;rcases hen with rfl | rfl<;>exact⟨hd,u',rfl,x,g2,⟨x,rfl⟩,ι',pu',hle',hF'.sim,k1,k2⟩
    rcases hex with rfl | rfl
    .obtain⟨rfl,hF'⟩:=hpp;exact key _ (.inl rfl) hF'
    obtain⟨rfl,hF'⟩:=hpp;exact key _ (.inr rfl) hF'
   split at hc
   .rename_i pv1 env h1 hx;exact fin .normal env h1 pv1 (.inl rfl) hx hc
   .rename_i pv1 env h1 hx;exact fin .ret env h1 pv1 (.inr rfl) hx hc
   cases hc
 cases hc
theorem ze2:∀(l:List O) (S S':St) (pv pv':Option V),zqQ B l pv S=some (pv',S')->zaG B S.heap S'.heap
 | [],S,S',pv,pv',h=>by
  grind [zqQ,zaG.refl]
 | o :: l,S,S',pv,pv',h=>by
  have hput:∀(S0:St) (d:Option Nat) (v:V),(S0.put d v).heap=S0.heap:=by
   intro S0 d v; cases d<;>rfl
  simp only[zqQ]at h;split at h
  .have:=ze2 l _ S' _ _ h; rw[hput]at this; exact this
  split at h
  .split at h
   .have:=ze2 l _ S' _ _ h; rw[hput]at this; exact this
   have:=ze2 l _ S' _ _ h; rw[hput]at this; exact this
  cases hq:zak o.i with
  | true=>
   simp only[hq,qdt]at h;split at h
   .have:=ze2 l _ S' _ _ h; rw[hput]at this; exact this
   .cases h
  | false=>
   simp only[hq,qdu]at h;split at h
   .rename_i v h1 he;have:=ze2 l _ S' _ _ h; rw[hput]at this; exact(zpm he).trans this
   cases h
theorem zk8(hr:RecOk P r):∀(c:C) (S S':St) (pv pv':Option V) (ex:Ex),zgn r B c pv S=some (ex,pv',S')->B<=S.heap.length->zaG B S.heap S'.heap:=by
 have plain:∀(c:C) (S S':St) (pv pv':Option V) (ex:Ex),(exec r B none c S).map (λx=>(x.1,pv,x.2))=some (ex,pv',S')->B<=S.heap.length->zaG B S.heap S'.heap:=by
  grind [qal,zbH]
 intro c;induction c with
 | seq x y ihx ihy=>
  grind [zgn,Go.Mx.zaG]
 | cond x c d ihc ihd=>
  grind [zgn]
 | reg dr bar os=>
  intro S S' pv pv' ex h hB;simp only[zgn]at h;cases hrec:os.any isRec with
  | false=>
   grind [qal,zgv]
  | true=>
   simp only[hrec,qdt]at h;cases dr with
   | true=>simp_all
   | false=>
    simp only[qdu,qal,qan,qdp]at h;obtain⟨pv1,S1,ho,_,rfl,rfl⟩:=h;exact ze2 os S S1 pv pv1 ho
 | _=>
  intro S S' pv pv' ex h hB;exact plain _ S S' pv pv' ex h hB
theorem zqB(hr:RecOk P r)(hc:zm6 r fns B f args pv h=some (pv',h')):zaG B h h':=by
 intro hB;unfold zm6 at hc;split at hc
 .rename_i fn hfn;cases hle:Nat.ble args.length fn.N with
  | false=>simp_all
  | true=>
   simp only[hle,qdt]at hc;split at hc
   .rename_i pv1 env h1 hx;simp only[qal,qan]at hc;obtain⟨_,_,_,rfl⟩:=hc;exact zk8 hr _ _ _ _ _ _ hx hB hB
   .rename_i pv1 env h1 hx;simp only[qal,qan]at hc;obtain⟨_,_,_,rfl⟩:=hc;exact zk8 hr _ _ _ _ _ _ hx hB hB
   cases hc
 cases hc
end
end Go.Mx
