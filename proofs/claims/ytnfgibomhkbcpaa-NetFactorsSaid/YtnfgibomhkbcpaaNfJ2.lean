/-
 Bend.Of: the copy of the nodes, one of which stays open. Conditions: none.
-/
import Derived.Test.YtnfgibomhkbcpaaNfJ1
set_option linter.unusedSimpArgs false
set_option linter.unusedVariables false
set_option maxRecDepth 100000
set_option maxHeartbeats 4000000
namespace Go.Dc
open Go Go.Mx Go.Lx Go.Proofs
abbrev sN(a n l:Nat):D:=.sl a 0 n l none l
abbrev gP(l:List Int):LB:=.grow 1 (l.map ((eI .i64).c true))
abbrev h5E(m:Nat)(r:List (Nat×D)):List (Nat×D):=(2,.ptr 0 0)::(3,.ptr 1 0)::(4,.ptr 2 0)::(5,sN 3 3 m):: r
abbrev h4B(b0:LB)(g:D)(nodes:List S_api_Node)(b2:LB)(es:List (List D))(r:List LB):List LB:=b0 :: .cells [g,fzE false zaa nodes]:: b2 :: .grow 3 es :: r
def zbr:C:=
 .seq (.seq (rg [oM 39 8,
 oF 40 1 3,
 oL 41 40,
 oM 42 6,
 oI 43 3 41 42,
 oF 44 2 43,
 oL 45 44,
 oE 46 45,
 oB 47 .lss 39 46])
 (.cond (.s 47) (.skip)
 (.exit 2)))
 (.seq (.block 3 (.seq (rg [⟨some 9,.mov (.c (.slice none 0 0)),none⟩])
 (.reg true false [oF 50 2 7,
 oL 51 50,
 oM 52 9,
 oF 53 1 3,
 oL 54 53,
 oM 55 6,
 oI 56 3 54 55,
 oF 57 2 56,
 oL 58 57,
 oM 59 8,
 oI 60 1 58 59,
 oL 61 60,
 ⟨none,.avo [(.s 50)] (.s 52),none⟩,
 oT 62 1 8 52 61,
 ⟨some 63,.bsl 1 1 [(.slice none 0 0)] [(0,(.s 62))],none⟩,
 oT 64 1 24 51 63,
 oF 65 2 7,
 oS 1 65 64])))
 (rg [oM 48 8,
 oD 49 .add 48 1,
 oM 8 49]))
def za7:C:=
 .seq (.seq (rg [oM 15 6,
 oF 16 1 3,
 oL 17 16,
 oE 18 17,
 oB 19 .lss 15 18])
 (.cond (.s 19) (.skip)
 (.exit 0)))
 (.seq (.block 1 (.seq (rg [oF 22 1 3,
 oL 23 22,
 oM 24 6,
 oI 25 3 23 24,
 oF 26 0 25,
 oL 27 26,
 ⟨some 28,.build [(.int .i64 0),(.slice none 0 0),(.slice none 0 0)] [(0,1,(.s 27))],none⟩,
 ⟨some 7,.alloc [(.int .i64 0),(.slice none 0 0),(.slice none 0 0)],none⟩,
 oS 3 7 28])
 (.seq (.reg true false [oF 29 1 7,
 oL 30 29,
 oF 31 1 3,
 oL 32 31,
 oM 33 6,
 oI 34 3 32 33,
 oF 35 1 34,
 oL 36 35,
 oT 37 1 8 30 36,
 oF 38 1 7,
 oS 1 38 37])
 (.seq (.seq (rg [oK 8 0])
 (.scope (.block 2 (.loop (zbr)))))
 (rg [oM 66 5,
 oN 67 3 7,
 ⟨some 68,.bsl 3 1 [(.int .i64 0),(.slice none 0 0),(.slice none 0 0)] [(0,(.s 67))],none⟩,
 oT 69 3 56 66 68,
 oM 5 69])))))
 (rg [oM 20 6,
 oD 21 .add 20 1,
 oM 6 21]))
def zup:C:=
 .seq (.seq (rg [oM 264 12,
 oM 265 13,
 oB 266 .lss 264 265])
 (.cond (.s 266) (.skip)
 (.exit 5)))
 (.seq (.block 6 (.seq (rg [oM 269 10,
 oZ 270 269,
 oF 271 2 270,
 oL 272 271,
 oM 273 11,
 oI 274 1 272 273,
 oL 275 274,
 oM 276 12,
 oI 277 1 275 276,
 oL 278 277,
 oM 14 278])
 (.seq (.reg true false [oM 279 10,
 oZ 280 279,
 oF 281 2 280,
 oL 282 281,
 oM 283 11,
 oI 284 1 282 283,
 oL 285 284,
 oM 286 12,
 oM 287 10,
 oZ 288 287,
 oF 289 2 288,
 oL 290 289,
 oM 291 11,
 oI 292 1 290 291,
 oL 293 292,
 oM 294 13,
 oI 295 1 293 294,
 oL 296 295,
 oI 297 1 285 286,
 oS 1 297 296])
 (.seq (rg [oM 298 10,
 oZ 299 298,
 oF 300 2 299,
 oL 301 300,
 oM 302 11,
 oI 303 1 301 302,
 oL 304 303,
 oM 305 13,
 oM 306 14,
 oI 307 1 304 305,
 oS 1 307 306])
 (rg [oM 308 13,
 oD 309 .sub 308 1,
 oM 13 309])))))
 (rg [oM 267 12,
 oD 268 .add 267 1,
 oM 12 268]))
def zkq:C:=
 .block 4 (.seq (rg [⟨some 111,.bin .eql (.s 101) (.c (.int .u8 0)),none⟩,
 oM 110 111])
 (.scope (.cond (.s 110) (rg [oF 112 3 2,
 oL 113 112,
 oF 114 0 3,
 oS 1 114 113])
 (.seq (rg [⟨some 116,.bin .eql (.s 101) (.c (.int .u8 1)),none⟩,
 oM 115 116])
 (.cond (.s 115) (rg [oM 117 10,
 oF 118 3 2,
 oL 119 118,
 oZ 120 117,
 oF 121 0 120,
 oS 1 121 119])
 (.seq (rg [⟨some 123,.bin .eql (.s 101) (.c (.int .u8 2)),none⟩,
 oM 122 123])
 (.cond (.s 122) (.reg true false [oM 124 10,
 oM 125 10,
 oZ 126 125,
 oF 127 1 126,
 oL 128 127,
 oF 129 3 2,
 oL 130 129,
 ⟨some 131,.bsl 1 1 [(.int .i64 0)] [(0,(.s 130))],none⟩,
 oT 132 1 8 128 131,
 oZ 133 124,
 oF 134 1 133,
 oS 1 134 132])
 (.seq (rg [⟨some 136,.bin .eql (.s 101) (.c (.int .u8 3)),none⟩,
 oM 135 136])
 (.cond (.s 135) (rg [oM 137 10,
 oZ 138 137,
 oF 139 1 138,
 ⟨none,.store 1 (.s 139) (.c (.slice none 0 0)),none⟩])
 (.seq (rg [⟨some 141,.bin .eql (.s 101) (.c (.int .u8 4)),none⟩,
 oM 140 141])
 (.cond (.s 140) (.reg true false [oM 142 10,
 oM 143 10,
 oZ 144 143,
 oF 145 2 144,
 oL 146 145,
 oF 147 3 2,
 oL 148 147,
 ⟨some 149,.bsl 1 1 [(.int .i64 0)] [(0,(.s 148))],none⟩,
 ⟨some 150,.bsl 1 1 [(.slice none 0 0)] [(0,(.s 149))],none⟩,
 oT 151 1 24 146 150,
 oZ 152 142,
 oF 153 2 152,
 oS 1 153 151])
 (.seq (rg [⟨some 155,.bin .eql (.s 101) (.c (.int .u8 5)),none⟩,
 oM 154 155])
 (.cond (.s 154) (.seq (rg [oM 156 11,
 oD 157 .geq 156 0])
 (.cond (.s 157) (rg [oM 158 10,
 oM 159 10,
 oZ 160 159,
 oF 161 2 160,
 oL 162 161,
 oM 163 11,
 ⟨some 164,.slc 1 (.s 162) none (some (.s 163)) none,none⟩,
 oZ 165 158,
 oF 166 2 165,
 oS 1 166 164])
 (.skip)))
 (.seq (rg [⟨some 168,.bin .eql (.s 101) (.c (.int .u8 6)),none⟩,
 oM 167 168])
 (.cond (.s 167) (.seq (.scope (rg [oM 169 11,
 oD 170 .geq 169 0,
 oM 171 170,
 oMg 172 10 171 true,
 ⟨some 173,.nilck (.s 172),some (171,true)⟩,
 oFg 174 2 173 171 true,
 oLg 175 174 171 true,
 oMg 176 11 171 true,
 ⟨some 177,.idxS 1 (.s 175) (.s 176),some (171,true)⟩,
 oLg 178 177 171 true,
 ⟨some 179,.len (.s 178),some (171,true)⟩,
 oDg 180 .gtr 179 0 171 true,
 ⟨some 181,.pick (.s 171) (.s 180) (.c (.bool false)),none⟩]))
 (.cond (.s 181) (.reg true false [oM 182 10,
 oZ 183 182,
 oF 184 2 183,
 oL 185 184,
 oM 186 11,
 oI 187 1 185 186,
 oL 188 187,
 oF 189 3 2,
 oL 190 189,
 ⟨some 191,.idxS 1 (.s 188) (.c (.int .i64 0)),none⟩,
 oS 1 191 190])
 (.skip)))
 (.seq (rg [⟨some 193,.bin .eql (.s 101) (.c (.int .u8 7)),none⟩,
 oM 192 193])
 (.cond (.s 192) (.seq (rg [oM 194 11,
 oD 195 .geq 194 0])
 (.cond (.s 195) (.reg true false [oM 196 10,
 oZ 197 196,
 oF 198 2 197,
 oL 199 198,
 oM 200 11,
 oM 201 10,
 oZ 202 201,
 oF 203 2 202,
 oL 204 203,
 oM 205 11,
 oI 206 1 204 205,
 oL 207 206,
 ⟨some 208,.bsl 1 1 [(.int .i64 0)] [(0,(.c (.int .i64 0)))],none⟩,
 ⟨none,.avo [(.s 198)] (.s 207),none⟩,
 oT 209 1 8 207 208,
 oI 210 1 199 200,
 oS 1 210 209])
 (.skip)))
 (.seq (rg [⟨some 212,.bin .eql (.s 101) (.c (.int .u8 8)),none⟩,
 oM 211 212])
 (.cond (.s 211) (.seq (.scope (rg [oM 213 11,
 oD 214 .geq 213 0,
 oM 215 214,
 oMg 216 10 215 true,
 ⟨some 217,.nilck (.s 216),some (215,true)⟩,
 oFg 218 2 217 215 true,
 oLg 219 218 215 true,
 oMg 220 11 215 true,
 ⟨some 221,.idxS 1 (.s 219) (.s 220),some (215,true)⟩,
 oLg 222 221 215 true,
 ⟨some 223,.len (.s 222),some (215,true)⟩,
 oDg 224 .gtr 223 0 215 true,
 ⟨some 225,.pick (.s 215) (.s 224) (.c (.bool false)),none⟩]))
 (.cond (.s 225) (.seq (.reg true false [oM 226 10,
 oZ 227 226,
 oF 228 2 227,
 oL 229 228,
 oM 230 11,
 oM 231 10,
 oZ 232 231,
 oF 233 2 232,
 oL 234 233,
 oM 235 11,
 oI 236 1 234 235,
 oL 237 236,
 oE 238 237,
 ⟨some 239,.mk 1 8 [(.int .i64 0)] (.s 238) (.s 238),none⟩,
 oI 240 1 229 230,
 oS 1 240 239])
 (.reg true false [oM 241 10,
 oZ 242 241,
 oF 243 2 242,
 oL 244 243,
 oM 245 11,
 oI 246 1 244 245,
 oL 247 246,
 oF 248 0 3,
 oL 249 248,
 ⟨some 250,.idxS 1 (.s 247) (.c (.int .i64 0)),none⟩,
 oS 1 250 249]))
 (.skip)))
 (.seq (rg [⟨some 252,.bin .eql (.s 101) (.c (.int .u8 9)),none⟩,
 oM 251 252])
 (.cond (.s 251) (.seq (rg [oM 253 11,
 oD 254 .geq 253 0])
 (.cond (.s 254) (.seq (.reg true false [oM 255 10,
 oZ 256 255,
 oF 257 2 256,
 oL 258 257,
 oM 259 11,
 oI 260 1 258 259,
 oL 261 260,
 oE 262 261,
 oD 263 .sub 262 1,
 oK 12 0,
 oM 13 263])
 (.scope (.block 5 (.loop (zup)))))
 (.skip)))
 (.seq (rg [⟨some 311,.bin .eql (.s 101) (.c (.int .u8 10)),none⟩,
 oM 310 311])
 (.cond (.s 310) (rg [oF 312 1 3,
 oL 313 312,
 oF 314 0 3,
 oL 315 314,
 ⟨some 316,.bsl 1 1 [(.int .i64 0)] [(0,(.s 315))],none⟩,
 ⟨some 317,.bsl 1 1 [(.slice none 0 0)] [(0,(.s 316))],none⟩,
 ⟨some 318,.build [(.int .i64 0),(.slice none 0 0),(.slice none 0 0)] [(0,1,(.c (.int .i64 1))),(2,1,(.s 317))],none⟩,
 ⟨some 319,.bsl 3 1 [(.int .i64 0),(.slice none 0 0),(.slice none 0 0)] [(0,(.s 318))],none⟩,
 oT 320 3 56 313 319,
 oF 321 1 3,
 oS 1 321 320])
 (rg [oF 102 1 3,
 oL 103 102,
 oF 104 1 3,
 oL 105 104,
 oE 106 105,
 oD 107 .sub 106 1,
 ⟨some 108,.slc 3 (.s 103) none (some (.s 107)) none,none⟩,
 oF 109 1 3,
 oS 1 109 108]))))))))))))))))))))))))
def zwC:C:=
 .seq (rg [oW 2 0,
 oW 3 1,
 ⟨some 4,.alloc [(.int .i64 0),(.slice none 0 0)],none⟩])
 (.seq (rg [⟨some 5,.mov (.c (.slice none 0 0)),none⟩])
 (.seq (.seq (rg [oK 6 0])
 (.scope (.block 0 (.loop (za7)))))
 (.seq (rg [oM 70 5,
 oF 71 1 3,
 oS 1 71 70])
 (.seq (.seq (rg [oM 72 5,
 oE 73 72,
 oD 74 .eql 73 0])
 (.cond (.s 74) (.seq (rg [oN 75 2 3,
 oS 2 4 75])
 (.ret))
 (.skip)))
 (.seq (rg [oM 76 5,
 oF 77 1 2,
 oL 78 77,
 ⟨some 79,.conv .i64 (.s 78),none⟩,
 oM 80 5,
 oE 81 80,
 oB 82 .rem 79 81,
 oI 83 3 76 82,
 oM 10 83])
 (.seq (rg [⟨some 11,.mov (.c (.int .i64 (-1))),none⟩])
 (.seq (.seq (rg [oM 84 10,
 oZ 85 84,
 oF 86 2 85,
 oL 87 86,
 oE 88 87,
 oD 89 .gtr 88 0])
 (.scope (.cond (.s 89) (.reg true false [oF 90 2 2,
 oL 91 90,
 ⟨some 92,.conv .i64 (.s 91),none⟩,
 oM 93 10,
 oZ 94 93,
 oF 95 2 94,
 oL 96 95,
 oE 97 96,
 oB 98 .rem 92 97,
 oM 11 98])
 (.skip))))
 (.seq (.seq (rg [oF 99 0 2,
 oL 100 99,
 ⟨some 101,.bin .rem (.s 100) (.c (.int .u8 12)),none⟩])
 (zkq))
 (.seq (rg [oN 322 2 3,
 oS 2 4 322])
 (.ret))))))))))
abbrev KB(n:Nat)(es:List (List D)):Prop:=∀ kp:Nat→Bool,(∀ j,j<n→kp j=true)→∀ cs∈es,D.zbC kp cs
theorem Mt.zbC{L:List LB}{F kp:Nat→Bool}:∀ {es:List (List D)},(∀ cs∈es,D.zbC kp cs)→Mt L F kp es es
 | [],_=>.nil
 | x :: r,h=>.cons (Mos.kin (h x qap)) (Mt.zbC fun cs hc=>h cs (qal _ hc))
theorem KB.app{n:Nat}{a b:List (List D)}(ha:KB n a)(hb:KB n b):KB n (a ++ b):=by
 intro kp h cs hm;rcases qbl.1 hm with hm | hm
 ·exact ha kp h cs hm
 exact hb kp h cs hm
theorem KB.map{α:Type}{n:Nat}(e:En α)(t:Bool)(xs:List α):KB n (xs.map (e.c t)):=fun kp _=>zh2 e kp t xs
theorem KB.one{n:Nat}{c:List D}(h:∀ kp:Nat→Bool,(∀ j,j<n→kp j=true)→D.zbC kp c):KB n [c]:=fun kp hk cs hm=>by rw[qa0.1 hm]; exact h kp hk
theorem KB.le{n m:Nat}{a:List (List D)}(ha:KB n a)(h:n≤m):KB m a:=fun kp hk=>ha kp fun j hj=>hk j (qbv hj h)
abbrev fzR(r:List Int):List D:=[fzE true (eI .i64) r]
theorem zAf{K0:List K}{Q:LX→LSt→Prop}{b0 b2:LB}{g:D}{nodes:List S_api_Node}{x:S_api_Node}{v:Nat}{es rs:List (List D)}{i m q:Nat}(hb0:∀ kp,LB.kin kp b0)(hb2:∀ kp,LB.kin kp b2)(hg:∀ kp,D.kin kp g)(hes:KB 4 es)(hrs:KB 7 rs)(g3:zaP nodes (v:Int)=some x)(hq:rs.length=q)(hlen:x.rows.length * 24≤zac)(hrf:∀ r∈x.rows,r.length * 8≤zac)(hi:i<x.rows.length)(hiq:q=i)
  (hn:EvL mC 0 (.code (.loop zbr):: K0) ⟨323,(h5E m [(6,dI v),(7,.ptr 4 0),(8,dI ((i+1:Nat):Int))]),(h4B b0 g nodes b2 es [.cells [dI x.card,sN 5 1 x.parents.length,sN 6 1 (i+1)],gP x.parents,.grow 1 (rs ++ [fzR x.rows[i]])])⟩ Q):
  EvL mC 0 (.code (.loop zbr):: K0) ⟨323,(h5E m [(6,dI v),(7,.ptr 4 0),(8,dI (i:Int))]),(h4B b0 g nodes b2 es [.cells [dI x.card,sN 5 1 x.parents.length,sN 6 1 i],gP x.parents,.grow 1 rs])⟩ Q:=by
 subst hiq;have hmb:zac=140737488355328:=rfl;have g8:zaP x.rows (q:Int)=some x.rows[q]:=zdt hi;have c6:decide ((q:Int)<(x.rows.length:Int))=true:=decide_eq_true (by omega);have hw:IntKind.i64.wrap ((q:Int)+1)=((q+1:Nat):Int):=by rw[wrap64 (by omega) (by omega)]; omega
 have hqf:(q+1)* 24≤zac:=by omega
 have hr1:=hrf _ (qaq hi);refine EvL.zdw ?_
 conv=>enter [3,1,1]; simp only[zbr,ze3]
 refine zab ?_;simp only[rnA,Nat.reduceEqDiff,Nat.reduceLT,Nat.reduceAdd,Nat.reduceLeDiff,zad,zak (n:=3) (e:=zaa) rfl g3,zam,c6,hw,hq,zak (n:=1) (e:=(eL (eI .i64))) rfl g8,(show ∀ L,zg5 L 1 (fzE false (eI .i64) x.rows[q])=some (x.rows[q].map ((eI .i64).c true))from fun L=>zdE (e:=(eI .i64)) rfl _ L false),hr1,hqf];refine EvL.zdJ ?_ hn;exact wm0 [.k,.k,.k,.k,.k,.k,.k,.f] ⟨.same (hb0 _),⟨MB.cs ⟨hg _,qdc,qdc⟩,⟨.same (hb2 _),⟨MB.zaT (Mt.zbC (hes _ (by decide))),⟨MB.cs ⟨qdc,rfl,rfl,qdc⟩,⟨MB.gs (eI .i64) true x.parents,⟨MB.zaT (Mt.app (Mt.zbC (hrs _ (by decide))) (.cons (.cons (.fr (zc8 (e:=(eI .i64)) (t:=true) rfl rfl (.inr rfl) rfl rfl (fun k h=>nomatch h) (fun h=>by cases h<;>rfl))) .nil) .nil)),qdc⟩⟩⟩⟩⟩⟩⟩
theorem zyS{K0:List K}{Q:LX→LSt→Prop}{b0 b2:LB}{g:D}{nodes:List S_api_Node}{x:S_api_Node}{v:Nat}{P7:List (List D)}{es rs:List (List D)}{i m q:Nat}(hb0:∀ kp,LB.kin kp b0)(hb2:∀ kp,LB.kin kp b2)(hg:∀ kp,D.kin kp g)(hes:KB 4 es)(hrs:KB 8 rs)(h7:KB 8 P7)(g3:zaP nodes (v:Int)=some x)(hq:rs.length=q)(hlen:x.rows.length * 24≤zac)(hrf:∀ r∈x.rows,r.length * 8≤zac)(hi:i<x.rows.length)(hiq:q=i)
  (hn:EvL mC 0 (.code (.loop zbr):: K0) ⟨323,(h5E m [(6,dI v),(7,.ptr 4 0),(8,dI ((i+1:Nat):Int))]),(h4B b0 g nodes b2 es [.cells [dI x.card,sN 5 1 x.parents.length,sN 6 1 (i+1)],gP x.parents,.grow 1 (rs ++ [fzR x.rows[i]]),.grow 1 P7])⟩ Q):
  EvL mC 0 (.code (.loop zbr):: K0) ⟨323,(h5E m [(6,dI v),(7,.ptr 4 0),(8,dI (i:Int))]),(h4B b0 g nodes b2 es [.cells [dI x.card,sN 5 1 x.parents.length,sN 6 1 i],gP x.parents,.grow 1 rs,.grow 1 P7])⟩ Q:=by
 subst hiq;have hmb:zac=140737488355328:=rfl;have g8:zaP x.rows (q:Int)=some x.rows[q]:=zdt hi;have c6:decide ((q:Int)<(x.rows.length:Int))=true:=decide_eq_true (by omega);have hw:IntKind.i64.wrap ((q:Int)+1)=((q+1:Nat):Int):=by rw[wrap64 (by omega) (by omega)]; omega
 have hqf:(q+1)* 24≤zac:=by omega
 have hr1:=hrf _ (qaq hi);refine EvL.zdw ?_
 conv=>enter [3,1,1]; simp only[zbr,ze3]
 refine zab ?_;simp only[rnA,Nat.reduceEqDiff,Nat.reduceLT,Nat.reduceAdd,Nat.reduceLeDiff,zad,zak (n:=3) (e:=zaa) rfl g3,zam,c6,hw,hq,zak (n:=1) (e:=(eL (eI .i64))) rfl g8,(show ∀ L,zg5 L 1 (fzE false (eI .i64) x.rows[q])=some (x.rows[q].map ((eI .i64).c true))from fun L=>zdE (e:=(eI .i64)) rfl _ L false),hr1,hqf];refine EvL.zdJ ?_ hn;exact wm0 [.k,.k,.k,.k,.k,.k,.k,.k,.f] ⟨.same (hb0 _),⟨MB.cs ⟨hg _,qdc,qdc⟩,⟨.same (hb2 _),⟨MB.zaT (Mt.zbC (hes _ (by decide))),⟨MB.cs ⟨qdc,rfl,rfl,qdc⟩,⟨MB.gs (eI .i64) true x.parents,⟨MB.zaT (Mt.app (Mt.zbC (hrs _ (by decide))) (.cons (.cons (.fr (zc8 (e:=(eI .i64)) (t:=true) rfl rfl (.inr rfl) rfl rfl (fun k h=>nomatch h) (fun h=>by cases h<;>rfl))) .nil) .nil)),⟨MB.zaT (Mt.zbC (h7 _ (by decide))),qdc⟩⟩⟩⟩⟩⟩⟩⟩
theorem zAB{K0:List K}{Q:LX→LSt→Prop}{b0 b2:LB}{g:D}{nodes:List S_api_Node}{x:S_api_Node}{v:Nat}{P5 P6:List (List D)}{es rs:List (List D)}{i m q:Nat}(hb0:∀ kp,LB.kin kp b0)(hb2:∀ kp,LB.kin kp b2)(hg:∀ kp,D.kin kp g)(hes:KB 7 es)(hrs:KB 10 rs)(h5:KB 7 P5)(h6:KB 7 P6)(g3:zaP nodes (v:Int)=some x)(hq:rs.length=q)(hlen:x.rows.length * 24≤zac)(hrf:∀ r∈x.rows,r.length * 8≤zac)(hi:i<x.rows.length)(hiq:q=i)
  (hn:EvL mC 0 (.code (.loop zbr):: K0) ⟨323,(h5E m [(6,dI v),(7,.ptr 7 0),(8,dI ((i+1:Nat):Int))]),(h4B b0 g nodes b2 es [.gone,.grow 1 P5,.grow 1 P6,.cells [dI x.card,sN 8 1 x.parents.length,sN 9 1 (i+1)],gP x.parents,.grow 1 (rs ++ [fzR x.rows[i]])])⟩ Q):
  EvL mC 0 (.code (.loop zbr):: K0) ⟨323,(h5E m [(6,dI v),(7,.ptr 7 0),(8,dI (i:Int))]),(h4B b0 g nodes b2 es [.gone,.grow 1 P5,.grow 1 P6,.cells [dI x.card,sN 8 1 x.parents.length,sN 9 1 i],gP x.parents,.grow 1 rs])⟩ Q:=by
 subst hiq;have hmb:zac=140737488355328:=rfl;have g8:zaP x.rows (q:Int)=some x.rows[q]:=zdt hi;have c6:decide ((q:Int)<(x.rows.length:Int))=true:=decide_eq_true (by omega);have hw:IntKind.i64.wrap ((q:Int)+1)=((q+1:Nat):Int):=by rw[wrap64 (by omega) (by omega)]; omega
 have hqf:(q+1)* 24≤zac:=by omega
 have hr1:=hrf _ (qaq hi);refine EvL.zdw ?_
 conv=>enter [3,1,1]; simp only[zbr,ze3]
 refine zab ?_;simp only[rnA,Nat.reduceEqDiff,Nat.reduceLT,Nat.reduceAdd,Nat.reduceLeDiff,zad,zak (n:=3) (e:=zaa) rfl g3,zam,c6,hw,hq,zak (n:=1) (e:=(eL (eI .i64))) rfl g8,(show ∀ L,zg5 L 1 (fzE false (eI .i64) x.rows[q])=some (x.rows[q].map ((eI .i64).c true))from fun L=>zdE (e:=(eI .i64)) rfl _ L false),hr1,hqf];refine EvL.zdJ ?_ hn;exact wm0 [.k,.k,.k,.k,.k,.k,.k,.k,.k,.k,.f] ⟨.same (hb0 _),⟨MB.cs ⟨hg _,qdc,qdc⟩,⟨.same (hb2 _),⟨MB.zaT (Mt.zbC (hes _ (by decide))),⟨MB.same trivial,⟨MB.zaT (Mt.zbC (h5 _ (by decide))),⟨MB.zaT (Mt.zbC (h6 _ (by decide))),⟨MB.cs ⟨qdc,rfl,rfl,qdc⟩,⟨MB.gs (eI .i64) true x.parents,⟨MB.zaT (Mt.app (Mt.zbC (hrs _ (by decide))) (.cons (.cons (.fr (zc8 (e:=(eI .i64)) (t:=true) rfl rfl (.inr rfl) rfl rfl (fun k h=>nomatch h) (fun h=>by cases h<;>rfl))) .nil) .nil)),qdc⟩⟩⟩⟩⟩⟩⟩⟩⟩⟩
theorem zA3{K0:List K}{Q:LX→LSt→Prop}{b0 b2:LB}{g:D}{nodes:List S_api_Node}{x:S_api_Node}{v:Nat}{P5 P6 P7:List (List D)}{es rs:List (List D)}{i m q:Nat}(hb0:∀ kp,LB.kin kp b0)(hb2:∀ kp,LB.kin kp b2)(hg:∀ kp,D.kin kp g)(hes:KB 8 es)(hrs:KB 11 rs)(h5:KB 8 P5)(h6:KB 8 P6)(h7:KB 8 P7)(g3:zaP nodes (v:Int)=some x)(hq:rs.length=q)(hlen:x.rows.length * 24≤zac)(hrf:∀ r∈x.rows,r.length * 8≤zac)(hi:i<x.rows.length)(hiq:q=i)
  (hn:EvL mC 0 (.code (.loop zbr):: K0) ⟨323,(h5E m [(6,dI v),(7,.ptr 8 0),(8,dI ((i+1:Nat):Int))]),(h4B b0 g nodes b2 es [.gone,.grow 1 P5,.grow 1 P6,.grow 1 P7,.cells [dI x.card,sN 9 1 x.parents.length,sN 10 1 (i+1)],gP x.parents,.grow 1 (rs ++ [fzR x.rows[i]])])⟩ Q):
  EvL mC 0 (.code (.loop zbr):: K0) ⟨323,(h5E m [(6,dI v),(7,.ptr 8 0),(8,dI (i:Int))]),(h4B b0 g nodes b2 es [.gone,.grow 1 P5,.grow 1 P6,.grow 1 P7,.cells [dI x.card,sN 9 1 x.parents.length,sN 10 1 i],gP x.parents,.grow 1 rs])⟩ Q:=by
 subst hiq;have hmb:zac=140737488355328:=rfl;have g8:zaP x.rows (q:Int)=some x.rows[q]:=zdt hi;have c6:decide ((q:Int)<(x.rows.length:Int))=true:=decide_eq_true (by omega);have hw:IntKind.i64.wrap ((q:Int)+1)=((q+1:Nat):Int):=by rw[wrap64 (by omega) (by omega)]; omega
 have hqf:(q+1)* 24≤zac:=by omega
 have hr1:=hrf _ (qaq hi);refine EvL.zdw ?_
 conv=>enter [3,1,1]; simp only[zbr,ze3]
 refine zab ?_;simp only[rnA,Nat.reduceEqDiff,Nat.reduceLT,Nat.reduceAdd,Nat.reduceLeDiff,zad,zak (n:=3) (e:=zaa) rfl g3,zam,c6,hw,hq,zak (n:=1) (e:=(eL (eI .i64))) rfl g8,(show ∀ L,zg5 L 1 (fzE false (eI .i64) x.rows[q])=some (x.rows[q].map ((eI .i64).c true))from fun L=>zdE (e:=(eI .i64)) rfl _ L false),hr1,hqf];refine EvL.zdJ ?_ hn;exact wm0 [.k,.k,.k,.k,.k,.k,.k,.k,.k,.k,.k,.f] ⟨.same (hb0 _),⟨MB.cs ⟨hg _,qdc,qdc⟩,⟨.same (hb2 _),⟨MB.zaT (Mt.zbC (hes _ (by decide))),⟨MB.same trivial,⟨MB.zaT (Mt.zbC (h5 _ (by decide))),⟨MB.zaT (Mt.zbC (h6 _ (by decide))),⟨MB.zaT (Mt.zbC (h7 _ (by decide))),⟨MB.cs ⟨qdc,rfl,rfl,qdc⟩,⟨MB.gs (eI .i64) true x.parents,⟨MB.zaT (Mt.app (Mt.zbC (hrs _ (by decide))) (.cons (.cons (.fr (zc8 (e:=(eI .i64)) (t:=true) rfl rfl (.inr rfl) rfl rfl (fun k h=>nomatch h) (fun h=>by cases h<;>rfl))) .nil) .nil)),qdc⟩⟩⟩⟩⟩⟩⟩⟩⟩⟩⟩
theorem zza{K0:List K}{Q:LX→LSt→Prop}{b0 b2:LB}{g:D}{nodes:List S_api_Node}{x:S_api_Node}{v:Nat}{es rs:List (List D)}{i m q:Nat}(hb0:∀ kp,LB.kin kp b0)(hb2:∀ kp,LB.kin kp b2)(hg:∀ kp,D.kin kp g)(hes:KB 4 es)(hrs:KB 7 rs)(g3:zaP nodes (v:Int)=some x)(hq:rs.length=q)(hlen:x.rows.length * 24≤zac)(hrf:∀ r∈x.rows,r.length * 8≤zac)(hi:i<x.rows.length)(hiq:q=i)
  (hn:EvL mC 0 (.code (.loop zbr):: K0) ⟨323,(h5E m [(6,dI v),(7,.ptr 4 0),(8,dI ((i+1:Nat):Int))]),(h4B b0 g nodes b2 es [.cells [dI x.card,sN 5 1 x.parents.length,sN 6 1 (i+1)],gP x.parents,.grow 1 (rs ++ [[sN 7 1 x.rows[i].length]]),.grow 1 (x.rows[i].map ((eI .i64).c true))])⟩ Q):
  EvL mC 0 (.code (.loop zbr):: K0) ⟨323,(h5E m [(6,dI v),(7,.ptr 4 0),(8,dI (i:Int))]),(h4B b0 g nodes b2 es [.cells [dI x.card,sN 5 1 x.parents.length,sN 6 1 i],gP x.parents,.grow 1 rs])⟩ Q:=by
 subst hiq;have hmb:zac=140737488355328:=rfl;have g8:zaP x.rows (q:Int)=some x.rows[q]:=zdt hi;have c6:decide ((q:Int)<(x.rows.length:Int))=true:=decide_eq_true (by omega);have hw:IntKind.i64.wrap ((q:Int)+1)=((q+1:Nat):Int):=by rw[wrap64 (by omega) (by omega)]; omega
 have hqf:(q+1)* 24≤zac:=by omega
 have hr1:=hrf _ (qaq hi);refine EvL.zdw ?_
 conv=>enter [3,1,1]; simp only[zbr,ze3]
 refine zab ?_;simp only[rnA,Nat.reduceEqDiff,Nat.reduceLT,Nat.reduceAdd,Nat.reduceLeDiff,zad,zak (n:=3) (e:=zaa) rfl g3,zam,c6,hw,hq,zak (n:=1) (e:=(eL (eI .i64))) rfl g8,(show ∀ L,zg5 L 1 (fzE false (eI .i64) x.rows[q])=some (x.rows[q].map ((eI .i64).c true))from fun L=>zdE (e:=(eI .i64)) rfl _ L false),hr1,hqf];refine EvL.zdJ ?_ hn;exact wm0 [.k,.k,.k,.k,.k,.k,.k,.k] ⟨.same (hb0 _),⟨MB.cs ⟨hg _,qdc,qdc⟩,⟨.same (hb2 _),⟨MB.zaT (Mt.zbC (hes _ (by decide))),⟨MB.cs ⟨qdc,rfl,rfl,qdc⟩,⟨MB.gs (eI .i64) true x.parents,⟨MB.zaT (Mt.zbC ((KB.app (KB.le hrs (Nat.le_succ _)) (KB.one (c:=[sN 7 1 x.rows[q].length]) fun kp hk=>⟨hk 7 (by decide),qdc⟩)) _ (by decide))),⟨MB.gs (eI .i64) true x.rows[q],qdc⟩⟩⟩⟩⟩⟩⟩⟩
theorem zuU{K0:List K}{Q:LX→LSt→Prop}{b0 b2:LB}{g:D}{nodes:List S_api_Node}{x:S_api_Node}{v:Nat}{es:List (List D)}{m j:Nat}(hb0:∀ kp,LB.kin kp b0)(hb2:∀ kp,LB.kin kp b2)(hg:∀ kp,D.kin kp g)(hes:KB 4 es)(g3:zaP nodes (v:Int)=some x)(hlen:x.rows.length * 24≤zac)(hrf:∀ r∈x.rows,r.length * 8≤zac)(hj:j≤x.rows.length):∀(d i:Nat) (rs:List (List D)),j - i=d→i≤j→rs.length=i→KB 7 rs →
  EvL mC 0 (.code (.loop zbr):: K0) ⟨323,(h5E m [(6,dI v),(7,.ptr 4 0),(8,dI (j:Int))]),(h4B b0 g nodes b2 es [.cells [dI x.card,sN 5 1 x.parents.length,sN 6 1 j],gP x.parents,.grow 1 (rs ++ ((x.rows.drop i).take (j - i)).map fzR)])⟩ Q →
  EvL mC 0 (.code (.loop zbr):: K0) ⟨323,(h5E m [(6,dI v),(7,.ptr 4 0),(8,dI (i:Int))]),(h4B b0 g nodes b2 es [.cells [dI x.card,sN 5 1 x.parents.length,sN 6 1 i],gP x.parents,.grow 1 rs])⟩ Q
 | 0,i,rs,hd,hij,hl,hk,hn=>by
  have:i=j:=by omega
  subst this;rw[qbU,qbz,qbI,qaN]at hn;exact hn
 | d+1,i,rs,hd,hij,hl,hk,hn=>by
  refine zAf hb0 hb2 hg hes hk g3 hl hlen hrf (show i<x.rows.length by omega) rfl ?_;refine zuU hb0 hb2 hg hes g3 hlen hrf hj d (i+1) _ (by omega) (by omega) (by simp[hl]) (KB.app hk (KB.one fun kp _=>⟨qdc,qdc⟩)) ?_;have e:((x.rows.drop i).take (j - i)).map fzR=[fzR (x.rows[i]'(by omega))]++ ((x.rows.drop (i+1)).take (j - (i+1))).map fzR:=by
   rw[qao (show i<x.rows.length by omega),show j - i=(j - (i+1))+1 by omega,qbc];rfl
  rw[e,← qaW]at hn;exact hn
theorem zwz{K0:List K}{Q:LX→LSt→Prop}{b0 b2:LB}{g:D}{nodes:List S_api_Node}{x:S_api_Node}{v:Nat}{es rs:List (List D)}{m i:Nat}(hb0:∀ kp,LB.kin kp b0)(hb2:∀ kp,LB.kin kp b2)(hg:∀ kp,D.kin kp g)(hes:KB 4 es)(hrs:KB 7 rs)(g3:zaP nodes (v:Int)=some x)(hlen:x.rows.length * 24≤zac)(hrf:∀ r∈x.rows,r.length * 8≤zac)(hi:i=x.rows.length):
  EvL mC 0 (.code (.loop zbr):: .blk 2 :: .inv (Jn 0 (fun _:Unit=>⟨323,(h5E m [(6,dI v),(7,.ptr 4 0)]),(h4B b0 g nodes b2 es [.cells [dI x.card,sN 5 1 x.parents.length,sN 6 1 i],gP x.parents,.grow 1 rs])⟩) (fun _=>True)):: K0) ⟨323,(h5E m [(6,dI v),(7,.ptr 4 0),(8,dI (i:Int))]),(h4B b0 g nodes b2 es [.cells [dI x.card,sN 5 1 x.parents.length,sN 6 1 i],gP x.parents,.grow 1 rs])⟩ Q:=by
 have c6:decide ((i:Int)<(x.rows.length:Int))=false:=decide_eq_false (by omega);refine EvL.zdw ?_
 conv=>enter [3,1,1]; simp only[zbr,ze3]
 refine zab ?_;simp only[rnA,Nat.reduceEqDiff,Nat.reduceLT,Nat.reduceAdd,Nat.reduceLeDiff,zad,zak (n:=3) (e:=zaa) rfl g3,zam,c6];exact⟨(),qdc,wm0 [.k,.k,.k,.k,.k,.k,.k] ⟨.same (hb0 _),⟨MB.cs ⟨hg _,qdc,qdc⟩,⟨.same (hb2 _),⟨MB.zaT (Mt.zbC (hes _ (by decide))),⟨MB.cs ⟨qdc,rfl,rfl,qdc⟩,⟨MB.gs (eI .i64) true x.parents,⟨MB.zaT (Mt.zbC (hrs _ (by decide))),qdc⟩⟩⟩⟩⟩⟩⟩⟩
theorem zuE{K0:List K}{Q:LX→LSt→Prop}{b0 b2:LB}{g:D}{nodes:List S_api_Node}{x:S_api_Node}{v:Nat}{P7:List (List D)}{es:List (List D)}{m j:Nat}(hb0:∀ kp,LB.kin kp b0)(hb2:∀ kp,LB.kin kp b2)(hg:∀ kp,D.kin kp g)(hes:KB 4 es)(h7:KB 8 P7)(g3:zaP nodes (v:Int)=some x)(hlen:x.rows.length * 24≤zac)(hrf:∀ r∈x.rows,r.length * 8≤zac)(hj:j≤x.rows.length):∀(d i:Nat) (rs:List (List D)),j - i=d→i≤j→rs.length=i→KB 8 rs →
  EvL mC 0 (.code (.loop zbr):: K0) ⟨323,(h5E m [(6,dI v),(7,.ptr 4 0),(8,dI (j:Int))]),(h4B b0 g nodes b2 es [.cells [dI x.card,sN 5 1 x.parents.length,sN 6 1 j],gP x.parents,.grow 1 (rs ++ ((x.rows.drop i).take (j - i)).map fzR),.grow 1 P7])⟩ Q →
  EvL mC 0 (.code (.loop zbr):: K0) ⟨323,(h5E m [(6,dI v),(7,.ptr 4 0),(8,dI (i:Int))]),(h4B b0 g nodes b2 es [.cells [dI x.card,sN 5 1 x.parents.length,sN 6 1 i],gP x.parents,.grow 1 rs,.grow 1 P7])⟩ Q
 | 0,i,rs,hd,hij,hl,hk,hn=>by
  have:i=j:=by omega
  subst this;rw[qbU,qbz,qbI,qaN]at hn;exact hn
 | d+1,i,rs,hd,hij,hl,hk,hn=>by
  refine zyS hb0 hb2 hg hes hk h7 g3 hl hlen hrf (show i<x.rows.length by omega) rfl ?_;refine zuE hb0 hb2 hg hes h7 g3 hlen hrf hj d (i+1) _ (by omega) (by omega) (by simp[hl]) (KB.app hk (KB.one fun kp _=>⟨qdc,qdc⟩)) ?_;have e:((x.rows.drop i).take (j - i)).map fzR=[fzR (x.rows[i]'(by omega))]++ ((x.rows.drop (i+1)).take (j - (i+1))).map fzR:=by
   rw[qao (show i<x.rows.length by omega),show j - i=(j - (i+1))+1 by omega,qbc];rfl
  rw[e,← qaW]at hn;exact hn
theorem zwQ{K0:List K}{Q:LX→LSt→Prop}{b0 b2:LB}{g:D}{nodes:List S_api_Node}{x:S_api_Node}{v:Nat}{P7:List (List D)}{es rs:List (List D)}{m i:Nat}(hb0:∀ kp,LB.kin kp b0)(hb2:∀ kp,LB.kin kp b2)(hg:∀ kp,D.kin kp g)(hes:KB 4 es)(hrs:KB 8 rs)(h7:KB 8 P7)(g3:zaP nodes (v:Int)=some x)(hlen:x.rows.length * 24≤zac)(hrf:∀ r∈x.rows,r.length * 8≤zac)(hi:i=x.rows.length):
  EvL mC 0 (.code (.loop zbr):: .blk 2 :: .inv (Jn 0 (fun _:Unit=>⟨323,(h5E m [(6,dI v),(7,.ptr 4 0)]),(h4B b0 g nodes b2 es [.cells [dI x.card,sN 5 1 x.parents.length,sN 6 1 i],gP x.parents,.grow 1 rs,.grow 1 P7])⟩) (fun _=>True)):: K0) ⟨323,(h5E m [(6,dI v),(7,.ptr 4 0),(8,dI (i:Int))]),(h4B b0 g nodes b2 es [.cells [dI x.card,sN 5 1 x.parents.length,sN 6 1 i],gP x.parents,.grow 1 rs,.grow 1 P7])⟩ Q:=by
 have c6:decide ((i:Int)<(x.rows.length:Int))=false:=decide_eq_false (by omega);refine EvL.zdw ?_
 conv=>enter [3,1,1]; simp only[zbr,ze3]
 refine zab ?_;simp only[rnA,Nat.reduceEqDiff,Nat.reduceLT,Nat.reduceAdd,Nat.reduceLeDiff,zad,zak (n:=3) (e:=zaa) rfl g3,zam,c6];exact⟨(),qdc,wm0 [.k,.k,.k,.k,.k,.k,.k,.k] ⟨.same (hb0 _),⟨MB.cs ⟨hg _,qdc,qdc⟩,⟨.same (hb2 _),⟨MB.zaT (Mt.zbC (hes _ (by decide))),⟨MB.cs ⟨qdc,rfl,rfl,qdc⟩,⟨MB.gs (eI .i64) true x.parents,⟨MB.zaT (Mt.zbC (hrs _ (by decide))),⟨MB.zaT (Mt.zbC (h7 _ (by decide))),qdc⟩⟩⟩⟩⟩⟩⟩⟩⟩
theorem zxJ{K0:List K}{Q:LX→LSt→Prop}{b0 b2:LB}{g:D}{nodes:List S_api_Node}{x:S_api_Node}{v:Nat}{P5 P6:List (List D)}{es:List (List D)}{m j:Nat}(hb0:∀ kp,LB.kin kp b0)(hb2:∀ kp,LB.kin kp b2)(hg:∀ kp,D.kin kp g)(hes:KB 7 es)(h5:KB 7 P5)(h6:KB 7 P6)(g3:zaP nodes (v:Int)=some x)(hlen:x.rows.length * 24≤zac)(hrf:∀ r∈x.rows,r.length * 8≤zac)(hj:j≤x.rows.length):∀(d i:Nat) (rs:List (List D)),j - i=d→i≤j→rs.length=i→KB 10 rs →
  EvL mC 0 (.code (.loop zbr):: K0) ⟨323,(h5E m [(6,dI v),(7,.ptr 7 0),(8,dI (j:Int))]),(h4B b0 g nodes b2 es [.gone,.grow 1 P5,.grow 1 P6,.cells [dI x.card,sN 8 1 x.parents.length,sN 9 1 j],gP x.parents,.grow 1 (rs ++ ((x.rows.drop i).take (j - i)).map fzR)])⟩ Q →
  EvL mC 0 (.code (.loop zbr):: K0) ⟨323,(h5E m [(6,dI v),(7,.ptr 7 0),(8,dI (i:Int))]),(h4B b0 g nodes b2 es [.gone,.grow 1 P5,.grow 1 P6,.cells [dI x.card,sN 8 1 x.parents.length,sN 9 1 i],gP x.parents,.grow 1 rs])⟩ Q
 | 0,i,rs,hd,hij,hl,hk,hn=>by
  have:i=j:=by omega
  subst this;rw[qbU,qbz,qbI,qaN]at hn;exact hn
 | d+1,i,rs,hd,hij,hl,hk,hn=>by
  refine zAB hb0 hb2 hg hes hk h5 h6 g3 hl hlen hrf (show i<x.rows.length by omega) rfl ?_;refine zxJ hb0 hb2 hg hes h5 h6 g3 hlen hrf hj d (i+1) _ (by omega) (by omega) (by simp[hl]) (KB.app hk (KB.one fun kp _=>⟨qdc,qdc⟩)) ?_;have e:((x.rows.drop i).take (j - i)).map fzR=[fzR (x.rows[i]'(by omega))]++ ((x.rows.drop (i+1)).take (j - (i+1))).map fzR:=by
   rw[qao (show i<x.rows.length by omega),show j - i=(j - (i+1))+1 by omega,qbc];rfl
  rw[e,← qaW]at hn;exact hn
theorem zyZ{K0:List K}{Q:LX→LSt→Prop}{b0 b2:LB}{g:D}{nodes:List S_api_Node}{x:S_api_Node}{v:Nat}{P5 P6:List (List D)}{es rs:List (List D)}{m i:Nat}(hb0:∀ kp,LB.kin kp b0)(hb2:∀ kp,LB.kin kp b2)(hg:∀ kp,D.kin kp g)(hes:KB 7 es)(hrs:KB 10 rs)(h5:KB 7 P5)(h6:KB 7 P6)(g3:zaP nodes (v:Int)=some x)(hlen:x.rows.length * 24≤zac)(hrf:∀ r∈x.rows,r.length * 8≤zac)(hi:i=x.rows.length):
  EvL mC 0 (.code (.loop zbr):: .blk 2 :: .inv (Jn 0 (fun _:Unit=>⟨323,(h5E m [(6,dI v),(7,.ptr 7 0)]),(h4B b0 g nodes b2 es [.gone,.grow 1 P5,.grow 1 P6,.cells [dI x.card,sN 8 1 x.parents.length,sN 9 1 i],gP x.parents,.grow 1 rs])⟩) (fun _=>True)):: K0) ⟨323,(h5E m [(6,dI v),(7,.ptr 7 0),(8,dI (i:Int))]),(h4B b0 g nodes b2 es [.gone,.grow 1 P5,.grow 1 P6,.cells [dI x.card,sN 8 1 x.parents.length,sN 9 1 i],gP x.parents,.grow 1 rs])⟩ Q:=by
 have c6:decide ((i:Int)<(x.rows.length:Int))=false:=decide_eq_false (by omega);refine EvL.zdw ?_
 conv=>enter [3,1,1]; simp only[zbr,ze3]
 refine zab ?_;simp only[rnA,Nat.reduceEqDiff,Nat.reduceLT,Nat.reduceAdd,Nat.reduceLeDiff,zad,zak (n:=3) (e:=zaa) rfl g3,zam,c6];exact⟨(),qdc,wm0 [.k,.k,.k,.k,.k,.k,.k,.k,.k,.k] ⟨.same (hb0 _),⟨MB.cs ⟨hg _,qdc,qdc⟩,⟨.same (hb2 _),⟨MB.zaT (Mt.zbC (hes _ (by decide))),⟨MB.same trivial,⟨MB.zaT (Mt.zbC (h5 _ (by decide))),⟨MB.zaT (Mt.zbC (h6 _ (by decide))),⟨MB.cs ⟨qdc,rfl,rfl,qdc⟩,⟨MB.gs (eI .i64) true x.parents,⟨MB.zaT (Mt.zbC (hrs _ (by decide))),qdc⟩⟩⟩⟩⟩⟩⟩⟩⟩⟩⟩
theorem zwx{K0:List K}{Q:LX→LSt→Prop}{b0 b2:LB}{g:D}{nodes:List S_api_Node}{x:S_api_Node}{v:Nat}{P5 P6 P7:List (List D)}{es:List (List D)}{m j:Nat}(hb0:∀ kp,LB.kin kp b0)(hb2:∀ kp,LB.kin kp b2)(hg:∀ kp,D.kin kp g)(hes:KB 8 es)(h5:KB 8 P5)(h6:KB 8 P6)(h7:KB 8 P7)(g3:zaP nodes (v:Int)=some x)(hlen:x.rows.length * 24≤zac)(hrf:∀ r∈x.rows,r.length * 8≤zac)(hj:j≤x.rows.length):∀(d i:Nat) (rs:List (List D)),j - i=d→i≤j→rs.length=i→KB 11 rs →
  EvL mC 0 (.code (.loop zbr):: K0) ⟨323,(h5E m [(6,dI v),(7,.ptr 8 0),(8,dI (j:Int))]),(h4B b0 g nodes b2 es [.gone,.grow 1 P5,.grow 1 P6,.grow 1 P7,.cells [dI x.card,sN 9 1 x.parents.length,sN 10 1 j],gP x.parents,.grow 1 (rs ++ ((x.rows.drop i).take (j - i)).map fzR)])⟩ Q →
  EvL mC 0 (.code (.loop zbr):: K0) ⟨323,(h5E m [(6,dI v),(7,.ptr 8 0),(8,dI (i:Int))]),(h4B b0 g nodes b2 es [.gone,.grow 1 P5,.grow 1 P6,.grow 1 P7,.cells [dI x.card,sN 9 1 x.parents.length,sN 10 1 i],gP x.parents,.grow 1 rs])⟩ Q
 | 0,i,rs,hd,hij,hl,hk,hn=>by
  have:i=j:=by omega
  subst this;rw[qbU,qbz,qbI,qaN]at hn;exact hn
 | d+1,i,rs,hd,hij,hl,hk,hn=>by
  refine zA3 hb0 hb2 hg hes hk h5 h6 h7 g3 hl hlen hrf (show i<x.rows.length by omega) rfl ?_;refine zwx hb0 hb2 hg hes h5 h6 h7 g3 hlen hrf hj d (i+1) _ (by omega) (by omega) (by simp[hl]) (KB.app hk (KB.one fun kp _=>⟨qdc,qdc⟩)) ?_;have e:((x.rows.drop i).take (j - i)).map fzR=[fzR (x.rows[i]'(by omega))]++ ((x.rows.drop (i+1)).take (j - (i+1))).map fzR:=by
   rw[qao (show i<x.rows.length by omega),show j - i=(j - (i+1))+1 by omega,qbc];rfl
  rw[e,← qaW]at hn;exact hn
theorem zzk{K0:List K}{Q:LX→LSt→Prop}{b0 b2:LB}{g:D}{nodes:List S_api_Node}{x:S_api_Node}{v:Nat}{P5 P6 P7:List (List D)}{es rs:List (List D)}{m i:Nat}(hb0:∀ kp,LB.kin kp b0)(hb2:∀ kp,LB.kin kp b2)(hg:∀ kp,D.kin kp g)(hes:KB 8 es)(hrs:KB 11 rs)(h5:KB 8 P5)(h6:KB 8 P6)(h7:KB 8 P7)(g3:zaP nodes (v:Int)=some x)(hlen:x.rows.length * 24≤zac)(hrf:∀ r∈x.rows,r.length * 8≤zac)(hi:i=x.rows.length):
  EvL mC 0 (.code (.loop zbr):: .blk 2 :: .inv (Jn 0 (fun _:Unit=>⟨323,(h5E m [(6,dI v),(7,.ptr 8 0)]),(h4B b0 g nodes b2 es [.gone,.grow 1 P5,.grow 1 P6,.grow 1 P7,.cells [dI x.card,sN 9 1 x.parents.length,sN 10 1 i],gP x.parents,.grow 1 rs])⟩) (fun _=>True)):: K0) ⟨323,(h5E m [(6,dI v),(7,.ptr 8 0),(8,dI (i:Int))]),(h4B b0 g nodes b2 es [.gone,.grow 1 P5,.grow 1 P6,.grow 1 P7,.cells [dI x.card,sN 9 1 x.parents.length,sN 10 1 i],gP x.parents,.grow 1 rs])⟩ Q:=by
 have c6:decide ((i:Int)<(x.rows.length:Int))=false:=decide_eq_false (by omega);refine EvL.zdw ?_
 conv=>enter [3,1,1]; simp only[zbr,ze3]
 refine zab ?_;simp only[rnA,Nat.reduceEqDiff,Nat.reduceLT,Nat.reduceAdd,Nat.reduceLeDiff,zad,zak (n:=3) (e:=zaa) rfl g3,zam,c6];exact⟨(),qdc,wm0 [.k,.k,.k,.k,.k,.k,.k,.k,.k,.k,.k] ⟨.same (hb0 _),⟨MB.cs ⟨hg _,qdc,qdc⟩,⟨.same (hb2 _),⟨MB.zaT (Mt.zbC (hes _ (by decide))),⟨MB.same trivial,⟨MB.zaT (Mt.zbC (h5 _ (by decide))),⟨MB.zaT (Mt.zbC (h6 _ (by decide))),⟨MB.zaT (Mt.zbC (h7 _ (by decide))),⟨MB.cs ⟨qdc,rfl,rfl,qdc⟩,⟨MB.gs (eI .i64) true x.parents,⟨MB.zaT (Mt.zbC (hrs _ (by decide))),qdc⟩⟩⟩⟩⟩⟩⟩⟩⟩⟩⟩⟩
theorem kfz{kp:Nat→Bool}{rs:List (List Int)}:∀ cs∈rs.map fzR,D.zbC kp cs:=zh2 (eL (eI .i64)) kp true rs
theorem KB.fz{n:Nat}{rs:List (List Int)}:KB n (rs.map fzR):=fun kp _=>kfz
theorem KB.nil{n:Nat}:KB n []:=fun _ _ _ h=>nomatch h
structure FitN (x:S_api_Node):Prop where
 ps:(x.parents.length+1)* 8≤zac
 rs:(x.rows.length+1)* 24≤zac
 row:∀ r∈x.rows,(r.length+1)* 8≤zac
theorem FitN.p1{x:S_api_Node}(h:FitN x):x.parents.length * 8≤zac:=by have:=h.ps; omega
theorem FitN.r1{x:S_api_Node}(h:FitN x):x.rows.length * 24≤zac:=by have:=h.rs; omega
theorem FitN.w1{x:S_api_Node}(h:FitN x):∀ r∈x.rows,r.length * 8≤zac:=fun r hr=>by have:=h.row r hr; omega
theorem zyV{K0:List K}{Q:LX→LSt→Prop}{b0 b2:LB}{g:D}{nodes:List S_api_Node}{x:S_api_Node}{v:Nat}{es:List (List D)}(hb0:∀ kp,LB.kin kp b0)(hb2:∀ kp,LB.kin kp b2)(hg:∀ kp,D.kin kp g)(hes:KB 4 es)(g3:zaP nodes (v:Int)=some x)(hm:es.length=v)(hv:v<nodes.length)(hn56:(nodes.length+1)* 56≤zac)(hf:FitN x)
  (hn:EvL mC 0 (.code (.loop za7):: K0) ⟨323,(h5E (v+1) [(6,dI (((v+1):Nat):Int))]),(h4B b0 g nodes b2 (es ++ [zaa.c true x]) [])⟩ Q):
  EvL mC 0 (.code (.loop za7):: K0) ⟨323,(h5E v [(6,dI ((v:Nat):Int))]),(h4B b0 g nodes b2 es [])⟩ Q:=by
 have hmb:zac=140737488355328:=rfl;have c1:decide ((v:Int)<(nodes.length:Int))=true:=decide_eq_true (by omega);have hw:IntKind.i64.wrap ((v:Int)+1)=((v+1:Nat):Int):=by rw[wrap64 (by omega) (by omega)]; omega
 have hmf:(v+1)* 56≤zac:=by omega
 have hpf:=hf.p1;refine EvL.zdw ?_
 conv=>enter [3,1,1]; simp only[za7,ze3]
 refine zab ?_;simp only[rnA,Nat.reduceEqDiff,Nat.reduceLT,Nat.reduceAdd,Nat.reduceLeDiff,zad,zak (n:=3) (e:=zaa) rfl g3,zam,c1,hpf,(show ∀ L,zg5 L 1 (fzE false (eI .i64) x.parents)=some (x.parents.map ((eI .i64).c true))from fun L=>zdE (e:=(eI .i64)) rfl _ L false)];refine EvL.jn (α:=Unit) (fun _=>⟨323,(h5E v [(6,dI v),(7,.ptr 4 0)]),(h4B b0 g nodes b2 es [.cells [dI x.card,sN 5 1 x.parents.length,sN 6 1 x.rows.length],gP x.parents,.grow 1 (x.rows.map fzR)])⟩) (fun _=>True) ?_ (fun _ _=>?_)
 ·refine zab ?_;simp only[rnA];refine EvL.zdJ (zbx.zeX (n:=1) (β:=4) (o:=2) (by decide) rfl rfl) ?_;refine EvL.zdJ (S':=⟨323,(h5E v [(6,dI v),(7,.ptr 4 0),(8,dI ((0:Nat):Int))]),(h4B b0 g nodes b2 es [.cells [dI x.card,sN 5 1 x.parents.length,sN 6 1 0],gP x.parents,.grow 1 []])⟩) (wm0 [.k,.k,.k,.k,.k,.k,.k] ⟨.same (hb0 _),⟨MB.cs ⟨hg _,qdc,qdc⟩,⟨.same (hb2 _),⟨MB.zaT (Mt.zbC (hes _ (by decide))),⟨MB.cs ⟨qdc,rfl,rfl,qdc⟩,⟨MB.gs (eI .i64) true x.parents,⟨MB.gs (eL (eI .i64)) true [],qdc⟩⟩⟩⟩⟩⟩⟩) ?_;refine zuU hb0 hb2 hg hes g3 hf.r1 hf.w1 (qaj _) _ 0 [] rfl (qay _) rfl KB.nil ?_;rw[show([]:List (List D))++ ((x.rows.drop 0).take (x.rows.length - 0)).map fzR=x.rows.map fzR by simp];exact zwz hb0 hb2 hg hes KB.fz g3 hf.r1 hf.w1 rfl
 refine zab ?_;simp only[rnA,Nat.reduceEqDiff,Nat.reduceLT,Nat.reduceAdd,Nat.reduceLeDiff,hm,hmf,hw];refine EvL.zdJ ?_ hn;exact wm0 [.k,.k,.k,.k,.d,.f,.f] ⟨.same (hb0 _),⟨MB.cs ⟨hg _,qdc,qdc⟩,⟨.same (hb2 _),⟨MB.zaT (Mt.app (Mt.zbC (hes _ (by decide))) (.cons (.cons (.same trivial) (.cons (.fr (zc8 (e:=(eI .i64)) (t:=true) rfl rfl (.inr rfl) rfl rfl (fun k h=>nomatch h) (fun h=>by cases h<;>rfl))) (.cons (.fr (zc8 (e:=(eL (eI .i64))) (t:=true) (xs:=x.rows) rfl rfl (.inr rfl) rfl rfl (fun k h=>nomatch h) (fun h=>by cases h<;>rfl))) .nil))) .nil)),qdc⟩⟩⟩⟩
theorem zyK{K0:List K}{Q:LX→LSt→Prop}{b0 b2:LB}{g:D}{nodes:List S_api_Node}{x:S_api_Node}{v:Nat}{P5 P6:List (List D)}{es:List (List D)}(hb0:∀ kp,LB.kin kp b0)(hb2:∀ kp,LB.kin kp b2)(hg:∀ kp,D.kin kp g)(hes:KB 7 es)(h5:KB 7 P5)(h6:KB 7 P6)(g3:zaP nodes (v:Int)=some x)(hm:es.length=v)(hv:v<nodes.length)(hn56:(nodes.length+1)* 56≤zac)(hf:FitN x)
  (hn:EvL mC 0 (.code (.loop za7):: K0) ⟨323,(h5E (v+1) [(6,dI (((v+1):Nat):Int))]),(h4B b0 g nodes b2 (es ++ [zaa.c true x]) [.gone,.grow 1 P5,.grow 1 P6])⟩ Q):
  EvL mC 0 (.code (.loop za7):: K0) ⟨323,(h5E v [(6,dI ((v:Nat):Int))]),(h4B b0 g nodes b2 es [.gone,.grow 1 P5,.grow 1 P6])⟩ Q:=by
 have hmb:zac=140737488355328:=rfl;have c1:decide ((v:Int)<(nodes.length:Int))=true:=decide_eq_true (by omega);have hw:IntKind.i64.wrap ((v:Int)+1)=((v+1:Nat):Int):=by rw[wrap64 (by omega) (by omega)]; omega
 have hmf:(v+1)* 56≤zac:=by omega
 have hpf:=hf.p1;refine EvL.zdw ?_
 conv=>enter [3,1,1]; simp only[za7,ze3]
 refine zab ?_;simp only[rnA,Nat.reduceEqDiff,Nat.reduceLT,Nat.reduceAdd,Nat.reduceLeDiff,zad,zak (n:=3) (e:=zaa) rfl g3,zam,c1,hpf,(show ∀ L,zg5 L 1 (fzE false (eI .i64) x.parents)=some (x.parents.map ((eI .i64).c true))from fun L=>zdE (e:=(eI .i64)) rfl _ L false)];refine EvL.jn (α:=Unit) (fun _=>⟨323,(h5E v [(6,dI v),(7,.ptr 7 0)]),(h4B b0 g nodes b2 es [.gone,.grow 1 P5,.grow 1 P6,.cells [dI x.card,sN 8 1 x.parents.length,sN 9 1 x.rows.length],gP x.parents,.grow 1 (x.rows.map fzR)])⟩) (fun _=>True) ?_ (fun _ _=>?_)
 ·refine zab ?_;simp only[rnA];refine EvL.zdJ (zbx.zeX (n:=1) (β:=7) (o:=2) (by decide) rfl rfl) ?_;refine EvL.zdJ (S':=⟨323,(h5E v [(6,dI v),(7,.ptr 7 0),(8,dI ((0:Nat):Int))]),(h4B b0 g nodes b2 es [.gone,.grow 1 P5,.grow 1 P6,.cells [dI x.card,sN 8 1 x.parents.length,sN 9 1 0],gP x.parents,.grow 1 []])⟩) (wm0 [.k,.k,.k,.k,.k,.k,.k,.k,.k,.k] ⟨.same (hb0 _),⟨MB.cs ⟨hg _,qdc,qdc⟩,⟨.same (hb2 _),⟨MB.zaT (Mt.zbC (hes _ (by decide))),⟨MB.same trivial,⟨MB.zaT (Mt.zbC (h5 _ (by decide))),⟨MB.zaT (Mt.zbC (h6 _ (by decide))),⟨MB.cs ⟨qdc,rfl,rfl,qdc⟩,⟨MB.gs (eI .i64) true x.parents,⟨MB.gs (eL (eI .i64)) true [],qdc⟩⟩⟩⟩⟩⟩⟩⟩⟩⟩) ?_;refine zxJ hb0 hb2 hg hes h5 h6 g3 hf.r1 hf.w1 (qaj _) _ 0 [] rfl (qay _) rfl KB.nil ?_;rw[show([]:List (List D))++ ((x.rows.drop 0).take (x.rows.length - 0)).map fzR=x.rows.map fzR by simp];exact zyZ hb0 hb2 hg hes KB.fz h5 h6 g3 hf.r1 hf.w1 rfl
 refine zab ?_;simp only[rnA,Nat.reduceEqDiff,Nat.reduceLT,Nat.reduceAdd,Nat.reduceLeDiff,hm,hmf,hw];refine EvL.zdJ ?_ hn;exact wm0 [.k,.k,.k,.k,.k,.k,.k,.d,.f,.f] ⟨.same (hb0 _),⟨MB.cs ⟨hg _,qdc,qdc⟩,⟨.same (hb2 _),⟨MB.zaT (Mt.app (Mt.zbC (hes _ (by decide))) (.cons (.cons (.same trivial) (.cons (.fr (zc8 (e:=(eI .i64)) (t:=true) rfl rfl (.inr rfl) rfl rfl (fun k h=>nomatch h) (fun h=>by cases h<;>rfl))) (.cons (.fr (zc8 (e:=(eL (eI .i64))) (t:=true) (xs:=x.rows) rfl rfl (.inr rfl) rfl rfl (fun k h=>nomatch h) (fun h=>by cases h<;>rfl))) .nil))) .nil)),⟨MB.same trivial,⟨MB.zaT (Mt.zbC (h5 _ (by decide))),⟨MB.zaT (Mt.zbC (h6 _ (by decide))),qdc⟩⟩⟩⟩⟩⟩⟩
theorem zzo{K0:List K}{Q:LX→LSt→Prop}{b0 b2:LB}{g:D}{nodes:List S_api_Node}{x:S_api_Node}{v:Nat}{P5 P6 P7:List (List D)}{es:List (List D)}(hb0:∀ kp,LB.kin kp b0)(hb2:∀ kp,LB.kin kp b2)(hg:∀ kp,D.kin kp g)(hes:KB 8 es)(h5:KB 8 P5)(h6:KB 8 P6)(h7:KB 8 P7)(g3:zaP nodes (v:Int)=some x)(hm:es.length=v)(hv:v<nodes.length)(hn56:(nodes.length+1)* 56≤zac)(hf:FitN x)
  (hn:EvL mC 0 (.code (.loop za7):: K0) ⟨323,(h5E (v+1) [(6,dI (((v+1):Nat):Int))]),(h4B b0 g nodes b2 (es ++ [zaa.c true x]) [.gone,.grow 1 P5,.grow 1 P6,.grow 1 P7])⟩ Q):
  EvL mC 0 (.code (.loop za7):: K0) ⟨323,(h5E v [(6,dI ((v:Nat):Int))]),(h4B b0 g nodes b2 es [.gone,.grow 1 P5,.grow 1 P6,.grow 1 P7])⟩ Q:=by
 have hmb:zac=140737488355328:=rfl;have c1:decide ((v:Int)<(nodes.length:Int))=true:=decide_eq_true (by omega);have hw:IntKind.i64.wrap ((v:Int)+1)=((v+1:Nat):Int):=by rw[wrap64 (by omega) (by omega)]; omega
 have hmf:(v+1)* 56≤zac:=by omega
 have hpf:=hf.p1;refine EvL.zdw ?_
 conv=>enter [3,1,1]; simp only[za7,ze3]
 refine zab ?_;simp only[rnA,Nat.reduceEqDiff,Nat.reduceLT,Nat.reduceAdd,Nat.reduceLeDiff,zad,zak (n:=3) (e:=zaa) rfl g3,zam,c1,hpf,(show ∀ L,zg5 L 1 (fzE false (eI .i64) x.parents)=some (x.parents.map ((eI .i64).c true))from fun L=>zdE (e:=(eI .i64)) rfl _ L false)];refine EvL.jn (α:=Unit) (fun _=>⟨323,(h5E v [(6,dI v),(7,.ptr 8 0)]),(h4B b0 g nodes b2 es [.gone,.grow 1 P5,.grow 1 P6,.grow 1 P7,.cells [dI x.card,sN 9 1 x.parents.length,sN 10 1 x.rows.length],gP x.parents,.grow 1 (x.rows.map fzR)])⟩) (fun _=>True) ?_ (fun _ _=>?_)
 ·refine zab ?_;simp only[rnA];refine EvL.zdJ (zbx.zeX (n:=1) (β:=8) (o:=2) (by decide) rfl rfl) ?_;refine EvL.zdJ (S':=⟨323,(h5E v [(6,dI v),(7,.ptr 8 0),(8,dI ((0:Nat):Int))]),(h4B b0 g nodes b2 es [.gone,.grow 1 P5,.grow 1 P6,.grow 1 P7,.cells [dI x.card,sN 9 1 x.parents.length,sN 10 1 0],gP x.parents,.grow 1 []])⟩) (wm0 [.k,.k,.k,.k,.k,.k,.k,.k,.k,.k,.k] ⟨.same (hb0 _),⟨MB.cs ⟨hg _,qdc,qdc⟩,⟨.same (hb2 _),⟨MB.zaT (Mt.zbC (hes _ (by decide))),⟨MB.same trivial,⟨MB.zaT (Mt.zbC (h5 _ (by decide))),⟨MB.zaT (Mt.zbC (h6 _ (by decide))),⟨MB.zaT (Mt.zbC (h7 _ (by decide))),⟨MB.cs ⟨qdc,rfl,rfl,qdc⟩,⟨MB.gs (eI .i64) true x.parents,⟨MB.gs (eL (eI .i64)) true [],qdc⟩⟩⟩⟩⟩⟩⟩⟩⟩⟩⟩) ?_;refine zwx hb0 hb2 hg hes h5 h6 h7 g3 hf.r1 hf.w1 (qaj _) _ 0 [] rfl (qay _) rfl KB.nil ?_;rw[show([]:List (List D))++ ((x.rows.drop 0).take (x.rows.length - 0)).map fzR=x.rows.map fzR by simp];exact zzk hb0 hb2 hg hes KB.fz h5 h6 h7 g3 hf.r1 hf.w1 rfl
 refine zab ?_;simp only[rnA,Nat.reduceEqDiff,Nat.reduceLT,Nat.reduceAdd,Nat.reduceLeDiff,hm,hmf,hw];refine EvL.zdJ ?_ hn;exact wm0 [.k,.k,.k,.k,.k,.k,.k,.k,.d,.f,.f] ⟨.same (hb0 _),⟨MB.cs ⟨hg _,qdc,qdc⟩,⟨.same (hb2 _),⟨MB.zaT (Mt.app (Mt.zbC (hes _ (by decide))) (.cons (.cons (.same trivial) (.cons (.fr (zc8 (e:=(eI .i64)) (t:=true) rfl rfl (.inr rfl) rfl rfl (fun k h=>nomatch h) (fun h=>by cases h<;>rfl))) (.cons (.fr (zc8 (e:=(eL (eI .i64))) (t:=true) (xs:=x.rows) rfl rfl (.inr rfl) rfl rfl (fun k h=>nomatch h) (fun h=>by cases h<;>rfl))) .nil))) .nil)),⟨MB.same trivial,⟨MB.zaT (Mt.zbC (h5 _ (by decide))),⟨MB.zaT (Mt.zbC (h6 _ (by decide))),⟨MB.zaT (Mt.zbC (h7 _ (by decide))),qdc⟩⟩⟩⟩⟩⟩⟩⟩
theorem zw1{K0:List K}{Q:LX→LSt→Prop}{b0 b2:LB}{g:D}{nodes:List S_api_Node}{x:S_api_Node}{v:Nat}{es:List (List D)}(hb0:∀ kp,LB.kin kp b0)(hb2:∀ kp,LB.kin kp b2)(hg:∀ kp,D.kin kp g)(hes:KB 4 es)(g3:zaP nodes (v:Int)=some x)(hm:es.length=v)(hv:v<nodes.length)(hn56:(nodes.length+1)* 56≤zac)(hf:FitN x)(h0:x.rows=[])
  (hn:EvL mC 0 (.code (.loop za7):: K0) ⟨323,(h5E (v+1) [(6,dI (((v+1):Nat):Int))]),(h4B b0 g nodes b2 (es ++ [[dI x.card,sN 5 1 x.parents.length,sN 6 1 0]]) [.gone,gP x.parents,.grow 1 []])⟩ Q):
  EvL mC 0 (.code (.loop za7):: K0) ⟨323,(h5E v [(6,dI ((v:Nat):Int))]),(h4B b0 g nodes b2 es [])⟩ Q:=by
 have hmb:zac=140737488355328:=rfl;have c1:decide ((v:Int)<(nodes.length:Int))=true:=decide_eq_true (by omega);have hw:IntKind.i64.wrap ((v:Int)+1)=((v+1:Nat):Int):=by rw[wrap64 (by omega) (by omega)]; omega
 have hmf:(v+1)* 56≤zac:=by omega
 have hpf:=hf.p1;refine EvL.zdw ?_
 conv=>enter [3,1,1]; simp only[za7,ze3]
 refine zab ?_;simp only[rnA,Nat.reduceEqDiff,Nat.reduceLT,Nat.reduceAdd,Nat.reduceLeDiff,zad,zak (n:=3) (e:=zaa) rfl g3,zam,c1,hpf,(show ∀ L,zg5 L 1 (fzE false (eI .i64) x.parents)=some (x.parents.map ((eI .i64).c true))from fun L=>zdE (e:=(eI .i64)) rfl _ L false)];refine EvL.jn (α:=Unit) (fun _=>⟨323,(h5E v [(6,dI v),(7,.ptr 4 0)]),(h4B b0 g nodes b2 es [.cells [dI x.card,sN 5 1 x.parents.length,sN 6 1 0],gP x.parents,.grow 1 []])⟩) (fun _=>True) ?_ (fun _ _=>?_)
 ·refine zab ?_;simp only[rnA];refine EvL.zdJ (zbx.zeX (n:=1) (β:=4) (o:=2) (by decide) rfl rfl) ?_;refine EvL.zdJ (S':=⟨323,(h5E v [(6,dI v),(7,.ptr 4 0),(8,dI ((0:Nat):Int))]),(h4B b0 g nodes b2 es [.cells [dI x.card,sN 5 1 x.parents.length,sN 6 1 0],gP x.parents,.grow 1 []])⟩) (wm0 [.k,.k,.k,.k,.k,.k,.k] ⟨.same (hb0 _),⟨MB.cs ⟨hg _,qdc,qdc⟩,⟨.same (hb2 _),⟨MB.zaT (Mt.zbC (hes _ (by decide))),⟨MB.cs ⟨qdc,rfl,rfl,qdc⟩,⟨MB.gs (eI .i64) true x.parents,⟨MB.gs (eL (eI .i64)) true [],qdc⟩⟩⟩⟩⟩⟩⟩) ?_;exact zwz hb0 hb2 hg hes KB.nil g3 hf.r1 hf.w1 (by rw[h0]; rfl)
 refine zab ?_;simp only[rnA,Nat.reduceEqDiff,Nat.reduceLT,Nat.reduceAdd,Nat.reduceLeDiff,hm,hmf,hw];refine EvL.zdJ ?_ hn;exact wm0 [.k,.k,.k,.k,.d,.k,.k] ⟨.same (hb0 _),⟨MB.cs ⟨hg _,qdc,qdc⟩,⟨.same (hb2 _),⟨MB.zaT (Mt.app (Mt.zbC (hes _ (by decide))) (.cons (Mos.kin ⟨qdc,rfl,rfl,qdc⟩) .nil)),⟨rfl,⟨MB.gs (eI .i64) true x.parents,⟨MB.same (fun _ h=>nomatch h),qdc⟩⟩⟩⟩⟩⟩⟩
theorem zwD{K0:List K}{Q:LX→LSt→Prop}{b0 b2:LB}{g:D}{nodes:List S_api_Node}{x:S_api_Node}{v:Nat}{es:List (List D)}{w:Nat}(hb0:∀ kp,LB.kin kp b0)(hb2:∀ kp,LB.kin kp b2)(hg:∀ kp,D.kin kp g)(hes:KB 4 es)(g3:zaP nodes (v:Int)=some x)(hm:es.length=v)(hv:v<nodes.length)(hn56:(nodes.length+1)* 56≤zac)(hf:FitN x)(h0:w<x.rows.length)
  (hn:EvL mC 0 (.code (.loop za7):: K0) ⟨323,(h5E (v+1) [(6,dI (((v+1):Nat):Int))]),(h4B b0 g nodes b2 (es ++ [[dI x.card,sN 5 1 x.parents.length,sN 6 1 x.rows.length]]) [.gone,gP x.parents,.grow 1 ((x.rows.take w).map fzR ++ [[sN 7 1 x.rows[w].length]]++ (x.rows.drop (w+1)).map fzR),.grow 1 (x.rows[w].map ((eI .i64).c true))])⟩ Q):
  EvL mC 0 (.code (.loop za7):: K0) ⟨323,(h5E v [(6,dI ((v:Nat):Int))]),(h4B b0 g nodes b2 es [])⟩ Q:=by
 have hmb:zac=140737488355328:=rfl;have c1:decide ((v:Int)<(nodes.length:Int))=true:=decide_eq_true (by omega);have hw:IntKind.i64.wrap ((v:Int)+1)=((v+1:Nat):Int):=by rw[wrap64 (by omega) (by omega)]; omega
 have hmf:(v+1)* 56≤zac:=by omega
 have hpf:=hf.p1;refine EvL.zdw ?_
 conv=>enter [3,1,1]; simp only[za7,ze3]
 refine zab ?_;simp only[rnA,Nat.reduceEqDiff,Nat.reduceLT,Nat.reduceAdd,Nat.reduceLeDiff,zad,zak (n:=3) (e:=zaa) rfl g3,zam,c1,hpf,(show ∀ L,zg5 L 1 (fzE false (eI .i64) x.parents)=some (x.parents.map ((eI .i64).c true))from fun L=>zdE (e:=(eI .i64)) rfl _ L false)];refine EvL.jn (α:=Unit) (fun _=>⟨323,(h5E v [(6,dI v),(7,.ptr 4 0)]),(h4B b0 g nodes b2 es [.cells [dI x.card,sN 5 1 x.parents.length,sN 6 1 x.rows.length],gP x.parents,.grow 1 ((x.rows.take w).map fzR ++ [[sN 7 1 x.rows[w].length]]++ (x.rows.drop (w+1)).map fzR),.grow 1 (x.rows[w].map ((eI .i64).c true))])⟩) (fun _=>True) ?_ (fun _ _=>?_)
 ·refine zab ?_;simp only[rnA];refine EvL.zdJ (zbx.zeX (n:=1) (β:=4) (o:=2) (by decide) rfl rfl) ?_;refine EvL.zdJ (S':=⟨323,(h5E v [(6,dI v),(7,.ptr 4 0),(8,dI ((0:Nat):Int))]),(h4B b0 g nodes b2 es [.cells [dI x.card,sN 5 1 x.parents.length,sN 6 1 0],gP x.parents,.grow 1 []])⟩) (wm0 [.k,.k,.k,.k,.k,.k,.k] ⟨.same (hb0 _),⟨MB.cs ⟨hg _,qdc,qdc⟩,⟨.same (hb2 _),⟨MB.zaT (Mt.zbC (hes _ (by decide))),⟨MB.cs ⟨qdc,rfl,rfl,qdc⟩,⟨MB.gs (eI .i64) true x.parents,⟨MB.gs (eL (eI .i64)) true [],qdc⟩⟩⟩⟩⟩⟩⟩) ?_;refine zuU hb0 hb2 hg hes g3 hf.r1 hf.w1 (qda h0) _ 0 [] rfl (qay _) rfl KB.nil ?_;rw[show([]:List (List D))++ ((x.rows.drop 0).take (w - 0)).map fzR=(x.rows.take w).map fzR by simp];refine zza hb0 hb2 hg hes KB.fz g3 (by simp; omega) hf.r1 hf.w1 h0 rfl ?_;refine zuE hb0 hb2 hg hes (KB.map _ _ _) g3 hf.r1 hf.w1 (qaj _) _ (w+1) _ rfl h0 (by simp; omega) (KB.app KB.fz (KB.one fun kp hk=>⟨hk 7 (by decide),qdc⟩)) ?_;rw[show((x.rows.drop (w+1)).take (x.rows.length - (w+1))).map fzR=(x.rows.drop (w+1)).map fzR by rw[qaJ (by simp)]];exact zwQ hb0 hb2 hg hes (KB.app (KB.app KB.fz (KB.one fun kp hk=>⟨hk 7 (by decide),qdc⟩)) KB.fz) (KB.map _ _ _) g3 hf.r1 hf.w1 rfl
 refine zab ?_;simp only[rnA,Nat.reduceEqDiff,Nat.reduceLT,Nat.reduceAdd,Nat.reduceLeDiff,hm,hmf,hw];refine EvL.zdJ ?_ hn;exact wm0 [.k,.k,.k,.k,.d,.k,.k,.k] ⟨.same (hb0 _),⟨MB.cs ⟨hg _,qdc,qdc⟩,⟨.same (hb2 _),⟨MB.zaT (Mt.app (Mt.zbC (hes _ (by decide))) (.cons (Mos.kin ⟨qdc,rfl,rfl,qdc⟩) .nil)),⟨rfl,⟨MB.gs (eI .i64) true x.parents,⟨MB.zaT (Mt.app (Mt.app (Mt.zbC kfz) (.cons (Mos.kin ⟨rfl,qdc⟩) .nil)) (Mt.zbC kfz)),⟨MB.gs (eI .i64) true x.rows[w],qdc⟩⟩⟩⟩⟩⟩⟩⟩
theorem zvc{K0:List K}{Q:LX→LSt→Prop}{b0 b2:LB}{g:D}{nodes:List S_api_Node}{j:Nat}(hb0:∀ kp,LB.kin kp b0)(hb2:∀ kp,LB.kin kp b2)(hg:∀ kp,D.kin kp g)(hf:∀ x∈nodes,FitN x)(hj:j≤nodes.length)(hn56:(nodes.length+1)* 56≤zac):∀(d v:Nat) (es:List (List D)),j - v=d→v≤j→es.length=v→KB 4 es →
  EvL mC 0 (.code (.loop za7):: K0) ⟨323,(h5E j [(6,dI ((j:Nat):Int))]),(h4B b0 g nodes b2 (es ++ ((nodes.drop v).take (j - v)).map (zaa.c true)) [])⟩ Q →
  EvL mC 0 (.code (.loop za7):: K0) ⟨323,(h5E v [(6,dI ((v:Nat):Int))]),(h4B b0 g nodes b2 es [])⟩ Q
 | 0,v,es,hd,hij,hl,hk,hn=>by
  have:v=j:=by omega
  subst this;rw[qbU,qbz,qbI,qaN]at hn;exact hn
 | d+1,v,es,hd,hij,hl,hk,hn=>by
  have hvl:v<nodes.length:=by omega
  refine zyV hb0 hb2 hg hk (zdt hvl) hl hvl hn56 (hf _ (qaq hvl)) ?_;refine zvc hb0 hb2 hg hf hj hn56 d (v+1) _ (by omega) (by omega) (by simp[hl]) (KB.app hk (KB.one fun kp _=>zaa.kin kp true _)) ?_;have e:((nodes.drop v).take (j - v)).map (zaa.c true)=[zaa.c true nodes[v]]++ ((nodes.drop (v+1)).take (j - (v+1))).map (zaa.c true):=by
   rw[qao hvl,show j - v=(j - (v+1))+1 by omega,qbc];rfl
  rw[e,← qaW]at hn;exact hn
theorem zyE{K0:List K}{Q:LX→LSt→Prop}{b0 b2:LB}{g:D}{nodes:List S_api_Node}{v:Nat}{es:List (List D)}(hb0:∀ kp,LB.kin kp b0)(hb2:∀ kp,LB.kin kp b2)(hg:∀ kp,D.kin kp g)(hes:KB 4 es)(hi:v=nodes.length):
  EvL mC 0 (.code (.loop za7):: .blk 0 :: .inv (Jn 0 (fun _:Unit=>⟨323,(h5E v []),(h4B b0 g nodes b2 es [])⟩) (fun _=>True)):: K0) ⟨323,(h5E v [(6,dI ((v:Nat):Int))]),(h4B b0 g nodes b2 es [])⟩ Q:=by
 have c6:decide ((v:Int)<(nodes.length:Int))=false:=decide_eq_false (by omega);refine EvL.zdw ?_
 conv=>enter [3,1,1]; simp only[za7,ze3]
 refine zab ?_;simp only[rnA,Nat.reduceEqDiff,Nat.reduceLT,zam,c6];exact⟨(),qdc,wm0 [.k,.k,.k,.k] ⟨.same (hb0 _),⟨MB.cs ⟨hg _,qdc,qdc⟩,⟨.same (hb2 _),⟨MB.zaT (Mt.zbC (hes _ (by decide))),qdc⟩⟩⟩⟩⟩
theorem zwl{K0:List K}{Q:LX→LSt→Prop}{b0 b2:LB}{g:D}{nodes:List S_api_Node}{P5 P6:List (List D)}{j:Nat}(hb0:∀ kp,LB.kin kp b0)(hb2:∀ kp,LB.kin kp b2)(hg:∀ kp,D.kin kp g)(h5:KB 7 P5)(h6:KB 7 P6)(hf:∀ x∈nodes,FitN x)(hj:j≤nodes.length)(hn56:(nodes.length+1)* 56≤zac):∀(d v:Nat) (es:List (List D)),j - v=d→v≤j→es.length=v→KB 7 es →
  EvL mC 0 (.code (.loop za7):: K0) ⟨323,(h5E j [(6,dI ((j:Nat):Int))]),(h4B b0 g nodes b2 (es ++ ((nodes.drop v).take (j - v)).map (zaa.c true)) [.gone,.grow 1 P5,.grow 1 P6])⟩ Q →
  EvL mC 0 (.code (.loop za7):: K0) ⟨323,(h5E v [(6,dI ((v:Nat):Int))]),(h4B b0 g nodes b2 es [.gone,.grow 1 P5,.grow 1 P6])⟩ Q
 | 0,v,es,hd,hij,hl,hk,hn=>by
  have:v=j:=by omega
  subst this;rw[qbU,qbz,qbI,qaN]at hn;exact hn
 | d+1,v,es,hd,hij,hl,hk,hn=>by
  have hvl:v<nodes.length:=by omega
  refine zyK hb0 hb2 hg hk h5 h6 (zdt hvl) hl hvl hn56 (hf _ (qaq hvl)) ?_;refine zwl hb0 hb2 hg h5 h6 hf hj hn56 d (v+1) _ (by omega) (by omega) (by simp[hl]) (KB.app hk (KB.one fun kp _=>zaa.kin kp true _)) ?_;have e:((nodes.drop v).take (j - v)).map (zaa.c true)=[zaa.c true nodes[v]]++ ((nodes.drop (v+1)).take (j - (v+1))).map (zaa.c true):=by
   rw[qao hvl,show j - v=(j - (v+1))+1 by omega,qbc];rfl
  rw[e,← qaW]at hn;exact hn
theorem zyY{K0:List K}{Q:LX→LSt→Prop}{b0 b2:LB}{g:D}{nodes:List S_api_Node}{v:Nat}{P5 P6:List (List D)}{es:List (List D)}(hb0:∀ kp,LB.kin kp b0)(hb2:∀ kp,LB.kin kp b2)(hg:∀ kp,D.kin kp g)(hes:KB 7 es)(h5:KB 7 P5)(h6:KB 7 P6)(hi:v=nodes.length):
  EvL mC 0 (.code (.loop za7):: .blk 0 :: .inv (Jn 0 (fun _:Unit=>⟨323,(h5E v []),(h4B b0 g nodes b2 es [.gone,.grow 1 P5,.grow 1 P6])⟩) (fun _=>True)):: K0) ⟨323,(h5E v [(6,dI ((v:Nat):Int))]),(h4B b0 g nodes b2 es [.gone,.grow 1 P5,.grow 1 P6])⟩ Q:=by
 have c6:decide ((v:Int)<(nodes.length:Int))=false:=decide_eq_false (by omega);refine EvL.zdw ?_
 conv=>enter [3,1,1]; simp only[za7,ze3]
 refine zab ?_;simp only[rnA,Nat.reduceEqDiff,Nat.reduceLT,zam,c6];exact⟨(),qdc,wm0 [.k,.k,.k,.k,.k,.k,.k] ⟨.same (hb0 _),⟨MB.cs ⟨hg _,qdc,qdc⟩,⟨.same (hb2 _),⟨MB.zaT (Mt.zbC (hes _ (by decide))),⟨MB.same trivial,⟨MB.zaT (Mt.zbC (h5 _ (by decide))),⟨MB.zaT (Mt.zbC (h6 _ (by decide))),qdc⟩⟩⟩⟩⟩⟩⟩⟩
theorem zwt{K0:List K}{Q:LX→LSt→Prop}{b0 b2:LB}{g:D}{nodes:List S_api_Node}{P5 P6 P7:List (List D)}{j:Nat}(hb0:∀ kp,LB.kin kp b0)(hb2:∀ kp,LB.kin kp b2)(hg:∀ kp,D.kin kp g)(h5:KB 8 P5)(h6:KB 8 P6)(h7:KB 8 P7)(hf:∀ x∈nodes,FitN x)(hj:j≤nodes.length)(hn56:(nodes.length+1)* 56≤zac):∀(d v:Nat) (es:List (List D)),j - v=d→v≤j→es.length=v→KB 8 es →
  EvL mC 0 (.code (.loop za7):: K0) ⟨323,(h5E j [(6,dI ((j:Nat):Int))]),(h4B b0 g nodes b2 (es ++ ((nodes.drop v).take (j - v)).map (zaa.c true)) [.gone,.grow 1 P5,.grow 1 P6,.grow 1 P7])⟩ Q →
  EvL mC 0 (.code (.loop za7):: K0) ⟨323,(h5E v [(6,dI ((v:Nat):Int))]),(h4B b0 g nodes b2 es [.gone,.grow 1 P5,.grow 1 P6,.grow 1 P7])⟩ Q
 | 0,v,es,hd,hij,hl,hk,hn=>by
  have:v=j:=by omega
  subst this;rw[qbU,qbz,qbI,qaN]at hn;exact hn
 | d+1,v,es,hd,hij,hl,hk,hn=>by
  have hvl:v<nodes.length:=by omega
  refine zzo hb0 hb2 hg hk h5 h6 h7 (zdt hvl) hl hvl hn56 (hf _ (qaq hvl)) ?_;refine zwt hb0 hb2 hg h5 h6 h7 hf hj hn56 d (v+1) _ (by omega) (by omega) (by simp[hl]) (KB.app hk (KB.one fun kp _=>zaa.kin kp true _)) ?_;have e:((nodes.drop v).take (j - v)).map (zaa.c true)=[zaa.c true nodes[v]]++ ((nodes.drop (v+1)).take (j - (v+1))).map (zaa.c true):=by
   rw[qao hvl,show j - v=(j - (v+1))+1 by omega,qbc];rfl
  rw[e,← qaW]at hn;exact hn
theorem zy4{K0:List K}{Q:LX→LSt→Prop}{b0 b2:LB}{g:D}{nodes:List S_api_Node}{v:Nat}{P5 P6 P7:List (List D)}{es:List (List D)}(hb0:∀ kp,LB.kin kp b0)(hb2:∀ kp,LB.kin kp b2)(hg:∀ kp,D.kin kp g)(hes:KB 8 es)(h5:KB 8 P5)(h6:KB 8 P6)(h7:KB 8 P7)(hi:v=nodes.length):
  EvL mC 0 (.code (.loop za7):: .blk 0 :: .inv (Jn 0 (fun _:Unit=>⟨323,(h5E v []),(h4B b0 g nodes b2 es [.gone,.grow 1 P5,.grow 1 P6,.grow 1 P7])⟩) (fun _=>True)):: K0) ⟨323,(h5E v [(6,dI ((v:Nat):Int))]),(h4B b0 g nodes b2 es [.gone,.grow 1 P5,.grow 1 P6,.grow 1 P7])⟩ Q:=by
 have c6:decide ((v:Int)<(nodes.length:Int))=false:=decide_eq_false (by omega);refine EvL.zdw ?_
 conv=>enter [3,1,1]; simp only[za7,ze3]
 refine zab ?_;simp only[rnA,Nat.reduceEqDiff,Nat.reduceLT,zam,c6];exact⟨(),qdc,wm0 [.k,.k,.k,.k,.k,.k,.k,.k] ⟨.same (hb0 _),⟨MB.cs ⟨hg _,qdc,qdc⟩,⟨.same (hb2 _),⟨MB.zaT (Mt.zbC (hes _ (by decide))),⟨MB.same trivial,⟨MB.zaT (Mt.zbC (h5 _ (by decide))),⟨MB.zaT (Mt.zbC (h6 _ (by decide))),⟨MB.zaT (Mt.zbC (h7 _ (by decide))),qdc⟩⟩⟩⟩⟩⟩⟩⟩⟩
theorem zfN{α:Type}{xs:List α}{i:Nat}{y:α}(h:i<xs.length):xs.take i ++ [y]++ xs.drop (i+1)=xs.set i y:=by
 rw[List.set_eq_take_append_cons_drop,if_pos h,qaW]; rfl
def swL:Nat→Int→Int→List Int→Option (List Int)
 | 0,_,_,_=>none
 | n+1,i,k,r=>bif decide (i<k)then(zaP r i).bind fun x=>(zaP r k).bind fun y=>(zfP r i y).bind fun r1=>(zfP r1 k x).bind fun r2=>swL n (w64 (i+1)) (w64 (k - 1)) r2 else some r
def zs3(b:S_haruspexref05_Bend)(n:S_api_Net)(x:S_api_Node)(t:Nat):Nat→Option S_api_Net
 | 0=>some ⟨b.n,n.nodes⟩
 | 1=>some ⟨n.grain,n.nodes.set t ⟨b.n,x.parents,x.rows⟩⟩
 | 2=>some ⟨n.grain,n.nodes.set t ⟨x.card,x.parents ++ [b.n],x.rows⟩⟩
 | 3=>some ⟨n.grain,n.nodes.set t ⟨x.card,[],x.rows⟩⟩
 | 4=>some ⟨n.grain,n.nodes.set t ⟨x.card,x.parents,x.rows ++ [[b.n]]⟩⟩
 | 10=>some ⟨n.grain,n.nodes ++ [⟨1,[],[[n.grain]]⟩]⟩
 | 11=>some ⟨n.grain,n.nodes.take (n.nodes.length - 1)⟩
 | _=>none
def zqu(b:S_haruspexref05_Bend)(n:S_api_Net)(x:S_api_Node)(t w:Nat)(row:List Int):Nat→Option S_api_Net
 | 5=>some ⟨n.grain,n.nodes.set t ⟨x.card,x.parents,x.rows.take w⟩⟩
 | 6=>some (bif row.isEmpty then n else⟨n.grain,n.nodes.set t ⟨x.card,x.parents,x.rows.set w (row.set 0 b.n)⟩⟩)
 | 7=>some ⟨n.grain,n.nodes.set t ⟨x.card,x.parents,x.rows.set w (row ++ [0])⟩⟩
 | 8=>some (bif row.isEmpty then n else⟨n.grain,n.nodes.set t ⟨x.card,x.parents,x.rows.set w ((List.replicate row.length 0).set 0 n.grain)⟩⟩)
 | 9=>(swL (row.length+2) 0 (w64 ((row.length:Int) - 1)) row).map fun r2=>⟨n.grain,n.nodes.set t ⟨x.card,x.parents,x.rows.set w r2⟩⟩
 | k=>zs3 b n x t k
def zvM(b:S_haruspexref05_Bend)(n:S_api_Net)(k:Nat):Option S_api_Net:=
 match n.nodes[b.at_.toNat % n.nodes.length]? with
 | none=>some n
 | some x=>match x.rows[b.row.toNat % x.rows.length]? with
  | none=>bif decide (5≤k) && decide (k≤9)then some n else zs3 b n x (b.at_.toNat % n.nodes.length) k
  | some row=>zqu b n x (b.at_.toNat % n.nodes.length) (b.row.toNat % x.rows.length) row k
instance (x:S_api_Node):Decidable (FitN x):=decidable_of_iff ((x.parents.length+1)* 8≤zac∧(x.rows.length+1)* 24≤zac∧∀ r∈x.rows,(r.length+1)* 8≤zac) ⟨fun h=>⟨h.1,h.2.1,h.2.2⟩,fun h=>⟨h.ps,h.rs,h.row⟩⟩
def zky(b:S_haruspexref05_Bend)(n:S_api_Net):Option S_api_Net:=
 if(0≤b.what∧b.what≤255)∧(0≤b.at_∧b.at_≤255)∧(0≤b.row∧b.row≤255)∧(n.nodes.length+2)* 56≤zac∧∀ x∈n.nodes,FitN x then zvM b n (b.what.toNat % 12)else none
theorem zu4:zkn mC 76=some (323,zwC,[.cell 4 (some 2)],false):=zb5 (by kernel_rfl)
theorem zeb{L:List LB}{nodes:List S_api_Node}{t:Nat}{op:List D}{y:S_api_Node}(hop:Snps L true op (zaa.c true y)):
  Pw (Snp L true) ((nodes.map (zaa.c true)).set t op) ((nodes.set t y).map (zaa.c true)):=by
 rw[qcy];exact Pw.set (Pw.map (fun x=>⟨(zaa.snp (L:=L) x fun h=>h).len,(zaa.snp (L:=L) x fun h=>h).get⟩) nodes) hop.len hop.get _
theorem zhU{L:List LB}{rows:List (List Int)}{w:Nat}{op:List D}{y:List Int}(hop:Snps L true op (fzR y)):
  Pw (Snp L true) ((rows.map fzR).set w op) ((rows.set w y).map ((eL (eI .i64)).c true)):=by
 rw[qcy];exact Pw.set (Pw.map (fun x=>⟨((eL (eI .i64)).snp (L:=L) x fun h=>h).len,((eL (eI .i64)).snp (L:=L) x fun h=>h).get⟩) rows) hop.len hop.get _
theorem zde{L:List LB}{nodes:List S_api_Node}{t:Nat}{op:List D}(h:t<nodes.length)(hop:Snps L true op (zaa.c true nodes[t])):
  Pw (Snp L true) ((nodes.map (zaa.c true)).set t op) (nodes.map (zaa.c true)):=by
 have:=zeb hop (nodes:=nodes) (t:=t)
 rwa [List.set_getElem_self]at this
theorem zdr{L:List LB}{rows:List (List Int)}{w:Nat}{op:List D}(h:w<rows.length)(hop:Snps L true op (fzR rows[w])):
  Pw (Snp L true) ((rows.map fzR).set w op) (rows.map ((eL (eI .i64)).c true)):=by
 have:=zhU hop (rows:=rows) (w:=w)
 rwa [List.set_getElem_self]at this
theorem zpG{P:D→D→Prop}{a b c d:List (List D)}(h1:Pw P a b)(h2:Pw P c d):Pw P (a ++ c) (b ++ d):=by
 induction h1 with
 | nil=>exact h2
 | cons g1 g2 _ ih=>exact .cons g1 g2 ih
theorem zmS{P:D→D→Prop}{a b:List (List D)}(h:Pw P a b):∀ n:Nat,Pw P (a.take n) (b.take n):=by
 induction h with
 | nil=>intro n; simp; exact .nil
 | cons g1 g2 _ ih=>
  intro n;cases n with
  | zero=>exact .nil
  | succ n=>exact .cons g1 g2 (ih n)
theorem zhB{α:Type}{L:List LB}{t':Bool}{β n len st:Nat}{cap:Option Nat}{e:En α}{els:List (List D)}{xs:List α}(hn:n=e.n)(he:L[β]? = some (.els n els)∨L[β]? = some (.grow n els))(hs:st=els.length)(hl:len≤els.length)(hc:∀ k,cap=some k→len≤k)(h:Pw (Snp L t') (els.take len) (xs.map (e.c t'))):Snp L t' (.sl β 0 n len cap st) (fzE t' e xs):=by
 subst hn;have hlen:=h.len;rw[qbp,qbE hl]at hlen;have hget:∀(i:Nat) (cells cells':List D),els[0+i]? = some cells→(xs.map (e.c t'))[i]? = some cells'→(els.take len)[i]? = some cells:=by
  intro i cells cells' h1 h2;have hi:=(qab.1 h2).1;rw[qaz,if_pos (by omega),← h1,qaZ]
 refine .sl (zjM he hs) (by simp[hl]) hc hlen (fun i cells cells' h1 h2=>(h.get i _ _ (hget i _ _ h1 h2) h2).1) fun i k cells cells' d d' h1 h2 h3 h4=>(h.get i _ _ (hget i _ _ h1 h2) h2).2 k d d' h3 h4
theorem zrB{n i:Nat}{es:List (List D)}{c:List D}(h:KB n es)(hc:∀ kp:Nat→Bool,(∀ j,j<n→kp j=true)→D.zbC kp c):KB n (es.set i c):=by
 intro kp hk cs hm;rcases qcf hm with hm | hm
 ·exact h kp hk cs hm
 rw[hm]; exact hc kp hk
theorem zvQ{p0:S_haruspexref05_Bend}{p1 r:S_api_Net}(h:zky p0 p1=some r):Lx.Fn mC 76 [(.agg [(dU8 p0.what),(dU8 p0.at_),(dU8 p0.row),(dI p0.n)]),(.agg [(dI p1.grain),(fzE false zaa p1.nodes)])] (.agg [(dI r.grain),(fzE true zaa r.nodes)]):=by
 refine Fn.of zu4 (zbF rfl) (qaf rfl) ?_;unfold zky at h;split at h
 case isFalse=>cases h
 rename_i hg;obtain⟨⟨hw0,hw1⟩,⟨ha0,ha1⟩,⟨hr0,hr1⟩,hn2,hfit⟩:=hg;have hmb:zac=140737488355328:=rfl;have hn56:(p1.nodes.length+1)* 56≤zac:=by omega
 have hb0:∀ kp,LB.kin kp (.cells [dU8 p0.what,dU8 p0.at_,dU8 p0.row,dI p0.n]):=fun kp=>⟨qdc,qdc,qdc,qdc,qdc⟩
 have hb2:∀ kp,LB.kin kp (.cells [dI 0,zbs]):=fun kp=>⟨qdc,qdc,qdc⟩
 have hgk:∀ kp,D.kin kp (dI p1.grain):=fun kp=>trivial
 have hat:IntKind.i64.wrap p0.at_=p0.at_:=wrap64 (by omega) (by omega);have hrow:IntKind.i64.wrap p0.row=p0.row:=wrap64 (by omega) (by omega);obtain⟨k,hk12,hkl⟩:∃ k:Nat,p0.what.tmod 12=(k:Int)∧k<12∧p0.what.toNat % 12=k:=by
  refine⟨p0.what.toNat % 12,?_,qbm _ (by decide),rfl⟩;rw[qcD hw0]; omega
 rw[hkl.2]at h;simp only[zwC,ze3];refine zab ?_;simp only[rnA,Nat.reduceEqDiff,Nat.reduceLT,Nat.reduceAdd,reduceCtorEq];unfold zvM at h;by_cases hnil:p1.nodes.length=0
 ·have hnl:p1.nodes=[]:=qau hnil;have hri:some p1=some r:=by rw[hnl]at h; exact h
  have hri:=qac hri;subst hri;refine EvL.jn (α:=Unit) (fun _=>⟨323,[(2,.ptr 0 0),(3,.ptr 1 0),(4,.ptr 2 0),(5,sN 3 3 0)],[.cells [dU8 p0.what,dU8 p0.at_,dU8 p0.row,dI p0.n],.cells [dI p1.grain,fzE false zaa p1.nodes],.cells [dI 0,zbs],.grow 3 []]⟩) (fun _=>True) ?_ (fun _ _=>?_)
  ·refine zab ?_;simp only[rnA];refine EvL.zdJ (zbx.ghost (n:=3) (k:=5) (by decide) rfl) ?_;refine EvL.zdJ (S':=⟨323,[(2,.ptr 0 0),(3,.ptr 1 0),(4,.ptr 2 0),(5,sN 3 3 0),(6,dI ((0:Nat):Int))],[.cells [dU8 p0.what,dU8 p0.at_,dU8 p0.row,dI p0.n],.cells [dI p1.grain,fzE false zaa p1.nodes],.cells [dI 0,zbs],.grow 3 []]⟩) (wm0 [.k,.k,.k,.k] ⟨.same (hb0 _),MB.cs ⟨qdc,qdc,qdc⟩,.same (hb2 _),MB.gs zaa true [],qdc⟩) ?_;exact zyE hb0 hb2 hgk KB.nil hnil.symm
  refine zab ?_;simp only[rnA,Nat.reduceEqDiff,Nat.reduceLT,Nat.reduceAdd,Nat.reduceLeDiff,(show(((0:Nat):Int)== 0)=true from rfl)];rw[hnl];exact zbO.ret rfl (.zc5 (.cons (.lit _) (.cons (zal (cap:=none) (β:=3) (e:=zaa) (t:=true) (xs:=[]) rfl (.inr rfl) rfl rfl (by intro k h; cases h) (fun _=>rfl)) .nil)))
 have htl:p0.at_.toNat % p1.nodes.length<p1.nodes.length:=qbm _ (by omega);have hrem:p0.at_.tmod (p1.nodes.length:Int)=((p0.at_.toNat % p1.nodes.length:Nat):Int):=by
  rw[qcD ha0,Int.natCast_emod,qby ha0]
 generalize ht:p0.at_.toNat % p1.nodes.length=t at htl hrem h;rw[qad htl]at h;simp only at h;obtain⟨x,hx⟩:∃ x,p1.nodes[t]=x:=⟨_,rfl⟩;rw[hx]at h;have hxm:x∈p1.nodes:=by rw[← hx]; exact qaq _
 have hf:=hfit x hxm;have g3:zaP p1.nodes (t:Int)=some x:=by rw[zdt htl,hx]
 by_cases hrl:x.rows.length=0
 ·have hr:x.rows=[]:=qau hrl;have h:(bif decide (5≤k) && decide (k≤9)then some p1 else zs3 p0 p1 x t k)=some r:=by
   rw[hr]at h;exact h
  refine EvL.jn (α:=Unit) (fun _=>⟨323,[(2,.ptr 0 0),(3,.ptr 1 0),(4,.ptr 2 0),(5,sN 3 3 p1.nodes.length)],[.cells [dU8 p0.what,dU8 p0.at_,dU8 p0.row,dI p0.n],.cells [dI p1.grain,fzE false zaa p1.nodes],.cells [dI 0,zbs],.grow 3 ((p1.nodes.map (zaa.c true)).set t [dI x.card,sN 5 1 x.parents.length,sN 6 1 0]),.gone,gP x.parents,.grow 1 []]⟩) (fun _=>True) ?_ (fun _ _=>?_)
  ·refine zab ?_;simp only[rnA];refine EvL.zdJ (zbx.ghost (n:=3) (k:=5) (by decide) rfl) ?_;refine EvL.zdJ (S':=⟨323,[(2,.ptr 0 0),(3,.ptr 1 0),(4,.ptr 2 0),(5,sN 3 3 0),(6,dI ((0:Nat):Int))],[.cells [dU8 p0.what,dU8 p0.at_,dU8 p0.row,dI p0.n],.cells [dI p1.grain,fzE false zaa p1.nodes],.cells [dI 0,zbs],.grow 3 []]⟩) (wm0 [.k,.k,.k,.k] ⟨.same (hb0 _),MB.cs ⟨qdc,qdc,qdc⟩,.same (hb2 _),MB.gs zaa true [],qdc⟩) ?_;refine zvc hb0 hb2 hgk hfit (qda htl) hn56 _ 0 [] rfl (qay _) rfl KB.nil ?_;rw[show([]:List (List D))++ ((p1.nodes.drop 0).take (t - 0)).map (zaa.c true)=(p1.nodes.take t).map (zaa.c true) by simp];refine zw1 hb0 hb2 hgk (KB.map _ _ _) g3 (by simp; omega) htl hn56 hf hr ?_;have hES:KB 7 ((p1.nodes.map (zaa.c true)).set t [dI x.card,sN 5 1 x.parents.length,sN 6 1 0]):=zrB (KB.map _ _ _) fun kp hk=>⟨qdc,hk 5 (by decide),hk 6 (by decide),qdc⟩
   refine zwl hb0 hb2 hgk (KB.map _ _ _) KB.nil hfit (qaj _) hn56 _ (t+1) _ rfl htl (by simp; omega) (KB.app (KB.map _ _ _) (KB.one fun kp hk=>⟨qdc,hk 5 (by decide),hk 6 (by decide),qdc⟩)) ?_;rw[show(p1.nodes.take t).map (zaa.c true)++ [[dI x.card,sN 5 1 x.parents.length,sN 6 1 0]]++ ((p1.nodes.drop (t+1)).take (p1.nodes.length - (t+1))).map (zaa.c true)=(p1.nodes.map (zaa.c true)).set t [dI x.card,sN 5 1 x.parents.length,sN 6 1 0] by rw[qaJ (l:=p1.nodes.drop (t+1)) (by simp),qcC,List.map_drop]; exact zfN (by simpa using htl)];exact zyY hb0 hb2 hgk hES (KB.map _ _ _) KB.nil rfl
  have hne:(((p1.nodes.length:Nat):Int)== 0)=false:=by rw[beq_eq_false_iff_ne]; omega
  have hlt0:(0:Int)≤(t:Int):=by omega
  have hlt1:(t:Int)<((p1.nodes.length:Nat):Int):=by omega
  have hgs3:∀ C:List D,((p1.nodes.map (zaa.c true)).set t C)[t]? = some C:=fun C=>by rw[qaA (by simpa using htl)]
  have hz1:decide ((0:Int)<((0:Nat):Int))=false:=rfl;have hm1:decide ((0:Int)≤-1)=false:=rfl;have h24:1 * 24≤zac:=by decide
  have hwn:IntKind.i64.wrap (((p1.nodes.length:Nat):Int) - 1)=((p1.nodes.length - 1:Nat):Int):=by rw[wrap64 (by omega) (by omega)]; try omega
  have h11:((p1.nodes.length - 1:Nat):Int)≤((p1.nodes.length:Nat):Int):=by omega
  have hb11:bounds p1.nodes.length none none (some ((p1.nodes.length - 1:Nat):Int)) none=some (0,p1.nodes.length - 1,none):=by simp[bounds,zef,h11]
  have hfn1:(p1.nodes.length+1)* 56≤zac:=hn56;refine zab ?_;simp only[rnA,Nat.reduceEqDiff,Nat.reduceLT,Nat.reduceAdd,Nat.reduceLeDiff,hat,hrem,hlt0,hlt1,hne,hgs3,qat,qaF];simp only[zkq,ze3];refine EvL.scope (zab ?_);simp only[rnA,Nat.reduceEqDiff,Nat.reduceLT,Int.reduceBEq,hz1];obtain rfl | rfl | rfl | rfl | rfl | rfl | rfl | rfl | rfl | rfl | rfl | rfl:k=0∨k=1∨k=2∨k=3∨k=4∨k=5∨k=6∨k=7∨k=8∨k=9∨k=10∨k=11:=by omega
  ·have hk:p0.what.tmod 12=0:=hk12;replace h:=qac h; subst h;refine EvL.scope (zab ?_);simp only[rnA,Nat.reduceEqDiff,Nat.reduceLT,Nat.reduceAdd,Nat.reduceLeDiff,hk];exact zbO.ret rfl (.zc5 (.cons (.lit _) (.cons (zav (e:=zaa) rfl (.inr rfl) (by simp) (by simp) (fun k h=>nomatch h) (zde htl (by rw[hx,zad,hr]; exact(.cons (.lit _) (.cons (zal (e:=(eI .i64)) (t:=true) rfl (.inr rfl) rfl rfl (fun k h=>nomatch h) (fun _=>rfl)) (.cons (zal (e:=(eL (eI .i64))) (t:=true) (xs:=[]) rfl (.inr rfl) rfl rfl (fun k h=>nomatch h) (fun _=>rfl)) .nil)))))) .nil)))
  ·have hk:p0.what.tmod 12=1:=hk12;replace h:=qac h; subst h;refine EvL.scope (zab ?_);simp only[rnA,Nat.reduceEqDiff,Nat.reduceLT,Nat.reduceAdd,Nat.reduceLeDiff,Int.reduceBEq,hgs3,qat,qbJ,hk];exact zbO.ret rfl (.zc5 (.cons (.lit _) (.cons (zav (e:=zaa) rfl (.inr rfl) (by simp) (by simp) (fun k h=>nomatch h) (zeb (by rw[zad]; simp only[hr]; exact(.cons (.lit _) (.cons (zal (e:=(eI .i64)) (t:=true) rfl (.inr rfl) rfl rfl (fun k h=>nomatch h) (fun _=>rfl)) (.cons (zal (e:=(eL (eI .i64))) (t:=true) (xs:=[]) rfl (.inr rfl) rfl rfl (fun k h=>nomatch h) (fun _=>rfl)) .nil)))))) .nil)))
  ·have hk:p0.what.tmod 12=2:=hk12;replace h:=qac h; subst h;refine EvL.scope (zab ?_);simp only[rnA,Nat.reduceEqDiff,Nat.reduceLT,Nat.reduceAdd,Nat.reduceLeDiff,Int.reduceBEq,hgs3,qat,qbJ,hk,hf.ps];exact zbO.ret rfl (.zc5 (.cons (.lit _) (.cons (zav (e:=zaa) rfl (.inr rfl) (by simp) (by simp) (fun k h=>nomatch h) (zeb (by rw[zad]; simp only[hr]; exact(.cons (.lit _) (.cons (zal (e:=(eI .i64)) (t:=true) (xs:=x.parents ++ [p0.n]) rfl (.inr (by simp; rfl)) (by simp) (by simp) (fun k h=>nomatch h) (fun _=>rfl)) (.cons (zal (e:=(eL (eI .i64))) (t:=true) (xs:=[]) rfl (.inr rfl) rfl rfl (fun k h=>nomatch h) (fun _=>rfl)) .nil)))))) .nil)))
  ·have hk:p0.what.tmod 12=3:=hk12;replace h:=qac h; subst h;refine EvL.scope (zab ?_);simp only[rnA,Nat.reduceEqDiff,Nat.reduceLT,Nat.reduceAdd,Nat.reduceLeDiff,Int.reduceBEq,hgs3,qat,qbJ,hk];exact zbO.ret rfl (.zc5 (.cons (.lit _) (.cons (zav (e:=zaa) rfl (.inr rfl) (by simp) (by simp) (fun k h=>nomatch h) (zeb (by rw[zad]; simp only[hr]; exact(.cons (.lit _) (.cons (zaV (eI .i64)) (.cons (zal (e:=(eL (eI .i64))) (t:=true) (xs:=[]) rfl (.inr rfl) rfl rfl (fun k h=>nomatch h) (fun _=>rfl)) .nil)))))) .nil)))
  ·have hk:p0.what.tmod 12=4:=hk12;replace h:=qac h; subst h;refine EvL.scope (zab ?_);simp only[rnA,Nat.reduceEqDiff,Nat.reduceLT,Nat.reduceAdd,Nat.reduceLeDiff,Nat.reduceMul,Int.reduceBEq,hgs3,qat,qbJ,hk,h24];exact zbO.ret rfl (.zc5 (.cons (.lit _) (.cons (zav (e:=zaa) rfl (.inr rfl) (by simp) (by simp) (fun k h=>nomatch h) (zeb (by rw[zad]; simp only[hr,qa5]; exact(.cons (.lit _) (.cons (zal (e:=(eI .i64)) (t:=true) rfl (.inr rfl) rfl rfl (fun k h=>nomatch h) (fun _=>rfl)) (.cons (zav (e:=(eL (eI .i64))) (xs:=[[p0.n]]) rfl (.inr rfl) rfl rfl (fun k h=>nomatch h) (zgJ (.cons (zal (e:=(eI .i64)) (t:=true) (xs:=[p0.n]) rfl (.inl rfl) rfl rfl (fun k h=>by cases h; exact qaj _) (fun _=>rfl)) .nil) .nil)) .nil)))))) .nil)))
  ·have hk:p0.what.tmod 12=5:=hk12;replace h:=qac h; subst h;refine EvL.scope (zab ?_);simp only[rnA,Nat.reduceEqDiff,Nat.reduceLT,Nat.reduceAdd,Nat.reduceLeDiff,Int.reduceLE,Int.reduceBEq,hk];exact zbO.ret rfl (.zc5 (.cons (.lit _) (.cons (zav (e:=zaa) rfl (.inr rfl) (by simp) (by simp) (fun k h=>nomatch h) (zde htl (by rw[hx,zad,hr]; exact(.cons (.lit _) (.cons (zal (e:=(eI .i64)) (t:=true) rfl (.inr rfl) rfl rfl (fun k h=>nomatch h) (fun _=>rfl)) (.cons (zal (e:=(eL (eI .i64))) (t:=true) (xs:=[]) rfl (.inr rfl) rfl rfl (fun k h=>nomatch h) (fun _=>rfl)) .nil)))))) .nil)))
  ·have hk:p0.what.tmod 12=6:=hk12;replace h:=qac h; subst h;refine EvL.scope (zab ?_);simp only[rnA,Nat.reduceEqDiff,Nat.reduceLT,Int.reduceBEq,hk];refine EvL.scope (zab ?_);simp only[rnA,Nat.reduceEqDiff,Nat.reduceLT,Nat.reduceAdd,Nat.reduceLeDiff,Int.reduceLE];exact zbO.ret rfl (.zc5 (.cons (.lit _) (.cons (zav (e:=zaa) rfl (.inr rfl) (by simp) (by simp) (fun k h=>nomatch h) (zde htl (by rw[hx,zad,hr]; exact(.cons (.lit _) (.cons (zal (e:=(eI .i64)) (t:=true) rfl (.inr rfl) rfl rfl (fun k h=>nomatch h) (fun _=>rfl)) (.cons (zal (e:=(eL (eI .i64))) (t:=true) (xs:=[]) rfl (.inr rfl) rfl rfl (fun k h=>nomatch h) (fun _=>rfl)) .nil)))))) .nil)))
  ·have hk:p0.what.tmod 12=7:=hk12;replace h:=qac h; subst h;refine EvL.scope (zab ?_);simp only[rnA,Nat.reduceEqDiff,Nat.reduceLT,Nat.reduceAdd,Nat.reduceLeDiff,Int.reduceLE,Int.reduceBEq,hk];exact zbO.ret rfl (.zc5 (.cons (.lit _) (.cons (zav (e:=zaa) rfl (.inr rfl) (by simp) (by simp) (fun k h=>nomatch h) (zde htl (by rw[hx,zad,hr]; exact(.cons (.lit _) (.cons (zal (e:=(eI .i64)) (t:=true) rfl (.inr rfl) rfl rfl (fun k h=>nomatch h) (fun _=>rfl)) (.cons (zal (e:=(eL (eI .i64))) (t:=true) (xs:=[]) rfl (.inr rfl) rfl rfl (fun k h=>nomatch h) (fun _=>rfl)) .nil)))))) .nil)))
  ·have hk:p0.what.tmod 12=8:=hk12;replace h:=qac h; subst h;refine EvL.scope (zab ?_);simp only[rnA,Nat.reduceEqDiff,Nat.reduceLT,Int.reduceBEq,hk];refine EvL.scope (zab ?_);simp only[rnA,Nat.reduceEqDiff,Nat.reduceLT,Nat.reduceAdd,Nat.reduceLeDiff,Int.reduceLE];exact zbO.ret rfl (.zc5 (.cons (.lit _) (.cons (zav (e:=zaa) rfl (.inr rfl) (by simp) (by simp) (fun k h=>nomatch h) (zde htl (by rw[hx,zad,hr]; exact(.cons (.lit _) (.cons (zal (e:=(eI .i64)) (t:=true) rfl (.inr rfl) rfl rfl (fun k h=>nomatch h) (fun _=>rfl)) (.cons (zal (e:=(eL (eI .i64))) (t:=true) (xs:=[]) rfl (.inr rfl) rfl rfl (fun k h=>nomatch h) (fun _=>rfl)) .nil)))))) .nil)))
  ·have hk:p0.what.tmod 12=9:=hk12;replace h:=qac h; subst h;refine EvL.scope (zab ?_);simp only[rnA,Nat.reduceEqDiff,Nat.reduceLT,Nat.reduceAdd,Nat.reduceLeDiff,Int.reduceLE,Int.reduceBEq,hk];exact zbO.ret rfl (.zc5 (.cons (.lit _) (.cons (zav (e:=zaa) rfl (.inr rfl) (by simp) (by simp) (fun k h=>nomatch h) (zde htl (by rw[hx,zad,hr]; exact(.cons (.lit _) (.cons (zal (e:=(eI .i64)) (t:=true) rfl (.inr rfl) rfl rfl (fun k h=>nomatch h) (fun _=>rfl)) (.cons (zal (e:=(eL (eI .i64))) (t:=true) (xs:=[]) rfl (.inr rfl) rfl rfl (fun k h=>nomatch h) (fun _=>rfl)) .nil)))))) .nil)))
  ·have hk:p0.what.tmod 12=10:=hk12;replace h:=qac h; subst h;refine EvL.scope (zab ?_);simp only[rnA,Nat.reduceEqDiff,Nat.reduceLT,Nat.reduceAdd,Nat.reduceLeDiff,Int.reduceBEq,qat,hk,hfn1];exact zbO.ret rfl (.zc5 (.cons (.lit _) (.cons (zav (e:=zaa) (xs:=p1.nodes ++ [⟨1,[],[[p1.grain]]⟩]) rfl (.inr rfl) (by simp) (by simp) (by intro k h; cases h) (by rw[qba]; refine zpG (zde htl ?_) ?_; (exact(by rw[hx,zad,hr]; exact(.cons (.lit _) (.cons (zal (e:=(eI .i64)) (t:=true) rfl (.inr rfl) rfl rfl (fun k h=>nomatch h) (fun _=>rfl)) (.cons (zal (e:=(eL (eI .i64))) (t:=true) (xs:=[]) rfl (.inr rfl) rfl rfl (fun k h=>nomatch h) (fun _=>rfl)) .nil))))); exact(zgJ (.cons (.lit _) (.cons (zaV (eI .i64)) (.cons (zav (e:=(eL (eI .i64))) (xs:=[[p1.grain]]) rfl (.inl rfl) rfl rfl (fun k h=>by cases h; exact qaj _) (zgJ (.cons (zal (e:=(eI .i64)) (t:=true) (xs:=[p1.grain]) rfl (.inl rfl) rfl rfl (fun k h=>by cases h; exact qaj _) (fun _=>rfl)) .nil) .nil)) .nil))) .nil))) .nil)))
  have hk:p0.what.tmod 12=11:=hk12;replace h:=qac h; subst h;refine EvL.scope (zab ?_);simp only[rnA,Nat.reduceEqDiff,Nat.reduceLT,Nat.reduceAdd,Nat.reduceLeDiff,Int.reduceBEq,qat,hk,hb11,hwn];exact zbO.ret rfl (.zc5 (.cons (.lit _) (.cons (zhB (e:=zaa) (xs:=p1.nodes.take (p1.nodes.length - 1)) rfl (.inr rfl) (by simp) (by simp) (by intro k h; cases h) (by rw[qcC]; refine zmS (zde htl ?_) _; exact(by rw[hx,zad,hr]; exact(.cons (.lit _) (.cons (zal (e:=(eI .i64)) (t:=true) rfl (.inr rfl) rfl rfl (fun k h=>nomatch h) (fun _=>rfl)) (.cons (zal (e:=(eL (eI .i64))) (t:=true) (xs:=[]) rfl (.inr rfl) rfl rfl (fun k h=>nomatch h) (fun _=>rfl)) .nil)))))) .nil)))
 have hwl:p0.row.toNat % x.rows.length<x.rows.length:=qbm _ (by omega);have hrr:p0.row.tmod (x.rows.length:Int)=((p0.row.toNat % x.rows.length:Nat):Int):=by
  rw[qcD hr0,Int.natCast_emod,qby hr0]
 generalize hwg:p0.row.toNat % x.rows.length=w at hwl hrr h;rw[qad hwl]at h;simp only at h;refine EvL.jn (α:=Unit) (fun _=>⟨323,[(2,.ptr 0 0),(3,.ptr 1 0),(4,.ptr 2 0),(5,sN 3 3 p1.nodes.length)],[.cells [dU8 p0.what,dU8 p0.at_,dU8 p0.row,dI p0.n],.cells [dI p1.grain,fzE false zaa p1.nodes],.cells [dI 0,zbs],.grow 3 ((p1.nodes.map (zaa.c true)).set t [dI x.card,sN 5 1 x.parents.length,sN 6 1 x.rows.length]),.gone,gP x.parents,.grow 1 ((x.rows.map fzR).set w [sN 7 1 x.rows[w].length]),.grow 1 (x.rows[w].map ((eI .i64).c true))]⟩) (fun _=>True) ?_ (fun _ _=>?_)
 ·refine zab ?_;simp only[rnA];refine EvL.zdJ (zbx.ghost (n:=3) (k:=5) (by decide) rfl) ?_;refine EvL.zdJ (S':=⟨323,[(2,.ptr 0 0),(3,.ptr 1 0),(4,.ptr 2 0),(5,sN 3 3 0),(6,dI ((0:Nat):Int))],[.cells [dU8 p0.what,dU8 p0.at_,dU8 p0.row,dI p0.n],.cells [dI p1.grain,fzE false zaa p1.nodes],.cells [dI 0,zbs],.grow 3 []]⟩) (wm0 [.k,.k,.k,.k] ⟨.same (hb0 _),MB.cs ⟨qdc,qdc,qdc⟩,.same (hb2 _),MB.gs zaa true [],qdc⟩) ?_;refine zvc hb0 hb2 hgk hfit (qda htl) hn56 _ 0 [] rfl (qay _) rfl KB.nil ?_;rw[show([]:List (List D))++ ((p1.nodes.drop 0).take (t - 0)).map (zaa.c true)=(p1.nodes.take t).map (zaa.c true) by simp];refine zwD hb0 hb2 hgk (KB.map _ _ _) g3 (by simp; omega) htl hn56 hf hwl ?_;rw[show((x.rows.take w).map fzR ++ [[sN 7 1 x.rows[w].length]]++ (x.rows.drop (w+1)).map fzR)=(x.rows.map fzR).set w [sN 7 1 x.rows[w].length] by rw[qcC,List.map_drop]; exact zfN (by simpa using hwl)];have hP6:KB 8 ((x.rows.map fzR).set w [sN 7 1 x.rows[w].length]):=zrB KB.fz fun kp hk=>⟨hk 7 (by decide),qdc⟩
  have hES:KB 8 ((p1.nodes.map (zaa.c true)).set t [dI x.card,sN 5 1 x.parents.length,sN 6 1 x.rows.length]):=zrB (KB.map _ _ _) fun kp hk=>⟨qdc,hk 5 (by decide),hk 6 (by decide),qdc⟩
  refine zwt hb0 hb2 hgk (KB.map _ _ _) hP6 (KB.map _ _ _) hfit (qaj _) hn56 _ (t+1) _ rfl htl (by simp; omega) (KB.app (KB.map _ _ _) (KB.one fun kp hk=>⟨qdc,hk 5 (by decide),hk 6 (by decide),qdc⟩)) ?_;rw[show(p1.nodes.take t).map (zaa.c true)++ [[dI x.card,sN 5 1 x.parents.length,sN 6 1 x.rows.length]]++ ((p1.nodes.drop (t+1)).take (p1.nodes.length - (t+1))).map (zaa.c true)=(p1.nodes.map (zaa.c true)).set t [dI x.card,sN 5 1 x.parents.length,sN 6 1 x.rows.length] by rw[qaJ (l:=p1.nodes.drop (t+1)) (by simp),qcC,List.map_drop]; exact zfN (by simpa using htl)];exact zy4 hb0 hb2 hgk hES (KB.map _ _ _) hP6 (KB.map _ _ _) rfl
 have hne:(((p1.nodes.length:Nat):Int)== 0)=false:=by rw[beq_eq_false_iff_ne]; omega
 have hlt0:(0:Int)≤(t:Int):=by omega
 have hlt1:(t:Int)<((p1.nodes.length:Nat):Int):=by omega
 have hw0:(0:Int)≤(w:Int):=by omega
 have hw1:(w:Int)<((x.rows.length:Nat):Int):=by omega
 have hnr:(((x.rows.length:Nat):Int)== 0)=false:=by rw[beq_eq_false_iff_ne]; omega
 have hpos:decide ((0:Int)<((x.rows.length:Nat):Int))=true:=decide_eq_true (by omega);have hgs3:∀ C:List D,((p1.nodes.map (zaa.c true)).set t C)[t]? = some C:=fun C=>by rw[qaA (by simpa using htl)]
 have hgs6:∀ C:List D,((x.rows.map fzR).set w C)[w]? = some C:=fun C=>by rw[qaA (by simpa using hwl)]
 refine zab ?_;simp only[rnA,Nat.reduceEqDiff,Nat.reduceLT,Nat.reduceAdd,Nat.reduceLeDiff,hat,hrem,hlt0,hlt1,hne,hgs3,qat,qaF];simp only[zkq,ze3];have hw00:(0:Int)≤((x.rows[w].length:Nat):Int):=qbs _;have hwr:((x.rows[w].length:Nat):Int)* ((8:Nat):Int)≤((zac:Nat):Int):=by have:=hf.row _ (qaq hwl); omega
 have hrep:∀ n:Nat,(((n:Nat):Int)).toNat=n:=fun n=>qaF n
 have hrow7:=hf.row _ (qaq hwl);have hwn:IntKind.i64.wrap (((p1.nodes.length:Nat):Int) - 1)=((p1.nodes.length - 1:Nat):Int):=by rw[wrap64 (by omega) (by omega)]; try omega
 have h11:((p1.nodes.length - 1:Nat):Int)≤((p1.nodes.length:Nat):Int):=by omega
 have hb11:bounds p1.nodes.length none none (some ((p1.nodes.length - 1:Nat):Int)) none=some (0,p1.nodes.length - 1,none):=by simp[bounds,zef,h11]
 have hfn1:(p1.nodes.length+1)* 56≤zac:=hn56;have hw01:decide ((0:Int)≤(w:Int))=true:=decide_eq_true (by omega);have h55:(w:Int)≤((x.rows.length:Nat):Int):=by omega
 have hb5:bounds x.rows.length none none (some (w:Int)) none=some (0,w,none):=by simp[bounds,zef,h55]
 refine EvL.scope (zab ?_);simp only[rnA,Nat.reduceEqDiff,Nat.reduceLT,Int.reduceBEq,hgs3,qat,hpos,hrow,hrr,hnr];obtain rfl | rfl | rfl | rfl | rfl | rfl | rfl | rfl | rfl | rfl | rfl | rfl:k=0∨k=1∨k=2∨k=3∨k=4∨k=5∨k=6∨k=7∨k=8∨k=9∨k=10∨k=11:=by omega
 ·have hk:p0.what.tmod 12=0:=hk12;replace h:=qac h; subst h;refine EvL.scope (zab ?_);simp only[rnA,Nat.reduceEqDiff,Nat.reduceLT,Nat.reduceAdd,Nat.reduceLeDiff,hk];exact zbO.ret rfl (.zc5 (.cons (.lit _) (.cons (zav (e:=zaa) rfl (.inr rfl) (by simp) (by simp) (fun k h=>nomatch h) (zde htl (by rw[hx]; exact(.cons (.lit _) (.cons (zal (e:=(eI .i64)) (t:=true) rfl (.inr rfl) rfl rfl (fun k h=>nomatch h) (fun _=>rfl)) (.cons (zav (e:=(eL (eI .i64))) rfl (.inr rfl) (by simp) (by simp) (fun k h=>nomatch h) (zdr hwl (.cons (zal (e:=(eI .i64)) (t:=true) rfl (.inr rfl) rfl rfl (fun k h=>nomatch h) (fun _=>rfl)) .nil))) .nil)))))) .nil)))
 ·have hk:p0.what.tmod 12=1:=hk12;replace h:=qac h; subst h;refine EvL.scope (zab ?_);simp only[rnA,Nat.reduceEqDiff,Nat.reduceLT,Nat.reduceAdd,Nat.reduceLeDiff,Int.reduceBEq,hgs3,qat,qbJ,hk];exact zbO.ret rfl (.zc5 (.cons (.lit _) (.cons (zav (e:=zaa) rfl (.inr rfl) (by simp) (by simp) (fun k h=>nomatch h) (zeb (.cons (.lit _) (.cons (zal (e:=(eI .i64)) (t:=true) rfl (.inr rfl) rfl rfl (fun k h=>nomatch h) (fun _=>rfl)) (.cons (zav (e:=(eL (eI .i64))) rfl (.inr rfl) (by simp) (by simp) (fun k h=>nomatch h) (zdr hwl (.cons (zal (e:=(eI .i64)) (t:=true) rfl (.inr rfl) rfl rfl (fun k h=>nomatch h) (fun _=>rfl)) .nil))) .nil))))) .nil)))
 ·have hk:p0.what.tmod 12=2:=hk12;replace h:=qac h; subst h;refine EvL.scope (zab ?_);simp only[rnA,Nat.reduceEqDiff,Nat.reduceLT,Nat.reduceAdd,Nat.reduceLeDiff,Int.reduceBEq,hgs3,qat,qbJ,hk,hf.ps];exact zbO.ret rfl (.zc5 (.cons (.lit _) (.cons (zav (e:=zaa) rfl (.inr rfl) (by simp) (by simp) (fun k h=>nomatch h) (zeb (.cons (.lit _) (.cons (zal (e:=(eI .i64)) (t:=true) (xs:=x.parents ++ [p0.n]) rfl (.inr (by simp; rfl)) (by simp) (by simp) (fun k h=>nomatch h) (fun _=>rfl)) (.cons (zav (e:=(eL (eI .i64))) rfl (.inr rfl) (by simp) (by simp) (fun k h=>nomatch h) (zdr hwl (.cons (zal (e:=(eI .i64)) (t:=true) rfl (.inr rfl) rfl rfl (fun k h=>nomatch h) (fun _=>rfl)) .nil))) .nil))))) .nil)))
 ·have hk:p0.what.tmod 12=3:=hk12;replace h:=qac h; subst h;refine EvL.scope (zab ?_);simp only[rnA,Nat.reduceEqDiff,Nat.reduceLT,Nat.reduceAdd,Nat.reduceLeDiff,Int.reduceBEq,hgs3,qat,qbJ,hk];exact zbO.ret rfl (.zc5 (.cons (.lit _) (.cons (zav (e:=zaa) rfl (.inr rfl) (by simp) (by simp) (fun k h=>nomatch h) (zeb (.cons (.lit _) (.cons (zaV (eI .i64)) (.cons (zav (e:=(eL (eI .i64))) rfl (.inr rfl) (by simp) (by simp) (fun k h=>nomatch h) (zdr hwl (.cons (zal (e:=(eI .i64)) (t:=true) rfl (.inr rfl) rfl rfl (fun k h=>nomatch h) (fun _=>rfl)) .nil))) .nil))))) .nil)))
 ·have hk:p0.what.tmod 12=4:=hk12;replace h:=qac h; subst h;refine EvL.scope (zab ?_);simp only[rnA,Nat.reduceEqDiff,Nat.reduceLT,Nat.reduceAdd,Nat.reduceLeDiff,Int.reduceBEq,hgs3,qat,qbJ,hk,hf.rs];exact zbO.ret rfl (.zc5 (.cons (.lit _) (.cons (zav (e:=zaa) rfl (.inr rfl) (by simp) (by simp) (fun k h=>nomatch h) (zeb (.cons (.lit _) (.cons (zal (e:=(eI .i64)) (t:=true) rfl (.inr rfl) rfl rfl (fun k h=>nomatch h) (fun _=>rfl)) (.cons (zav (e:=(eL (eI .i64))) (xs:=x.rows ++ [[p0.n]]) rfl (.inr rfl) (by simp) (by simp) (fun k h=>nomatch h) (by rw[qba]; exact zpG (zdr hwl (.cons (zal (e:=(eI .i64)) (t:=true) rfl (.inr rfl) rfl rfl (fun k h=>nomatch h) (fun _=>rfl)) .nil)) (zgJ (.cons (zal (e:=(eI .i64)) (t:=true) (xs:=[p0.n]) rfl (.inl rfl) rfl rfl (fun k h=>by cases h; exact qaj _) (fun _=>rfl)) .nil) .nil))) .nil))))) .nil)))
 ·have hk:p0.what.tmod 12=5:=hk12;replace h:=qac h; subst h;refine EvL.scope (zab ?_);simp only[rnA,Nat.reduceEqDiff,Nat.reduceLT,Nat.reduceAdd,Nat.reduceLeDiff,Int.reduceBEq,hgs3,hw0,qat,qbJ,hk,hb5];exact zbO.ret rfl (.zc5 (.cons (.lit _) (.cons (zav (e:=zaa) rfl (.inr rfl) (by simp) (by simp) (fun k h=>nomatch h) (zeb (.cons (.lit _) (.cons (zal (e:=(eI .i64)) (t:=true) rfl (.inr rfl) rfl rfl (fun k h=>nomatch h) (fun _=>rfl)) (.cons (zhB (e:=(eL (eI .i64))) (xs:=x.rows.take w) rfl (.inr rfl) (by simp) (by simp<;>omega) (fun k h=>nomatch h) (by rw[qcC]; refine zmS (zdr hwl ?_) w; exact(.cons (zal (e:=(eI .i64)) (t:=true) rfl (.inr rfl) rfl rfl (fun k h=>nomatch h) (fun _=>rfl)) .nil))) .nil))))) .nil)))
 ·have hk:p0.what.tmod 12=6:=hk12;simp only[zqu]at h;have hgt:∀ b:Bool,x.rows[w].isEmpty=b→decide ((0:Int)<((x.rows[w].length:Nat):Int))=!b:=by
   intro b hb;cases hxr:x.rows[w]with
   | nil=>rw[hxr]at hb; subst hb; rfl
   | cons a l=>rw[hxr]at hb; subst hb; simp<;>omega
  refine EvL.scope (zab ?_);cases he:x.rows[w].isEmpty with
  | true=>
   rw[he,cond_true]at h;replace h:=qac h; subst h;have hd:=hgt _ he;simp only[rnA,Nat.reduceEqDiff,Nat.reduceLT,Int.reduceBEq,hk];refine EvL.scope (zab ?_);simp only[rnA,Nat.reduceEqDiff,Nat.reduceLT,Nat.reduceAdd,Nat.reduceLeDiff,hgs3,hgs6,hw0,hw1,qat,qaF,hd];exact zbO.ret rfl (.zc5 (.cons (.lit _) (.cons (zav (e:=zaa) rfl (.inr rfl) (by simp) (by simp) (fun k h=>nomatch h) (zde htl (by rw[hx]; exact(.cons (.lit _) (.cons (zal (e:=(eI .i64)) (t:=true) rfl (.inr rfl) rfl rfl (fun k h=>nomatch h) (fun _=>rfl)) (.cons (zav (e:=(eL (eI .i64))) rfl (.inr rfl) (by simp) (by simp) (fun k h=>nomatch h) (zdr hwl (.cons (zal (e:=(eI .i64)) (t:=true) rfl (.inr rfl) rfl rfl (fun k h=>nomatch h) (fun _=>rfl)) .nil))) .nil)))))) .nil)))
  | false=>
   rw[he,cond_false]at h;replace h:=qac h; subst h;have hd:=hgt _ he;have hrl0:(0:Int)<((x.rows[w].length:Nat):Int):=by simpa using hd
   have hrp0:(List.replicate x.rows[w].length [D.lit (.int .i64 0)])[0]? = some [D.lit (.int .i64 0)]:=by rw[qcQ,if_pos (by omega)]
   have hr0:(x.rows[w].map ((eI .i64).c true))[0]? = some [dI (x.rows[w].headD 0)]:=by
    cases hxr:x.rows[w]with
    | nil=>rw[hxr]at he; cases he
    | cons a l=>rfl
   simp only[rnA,Nat.reduceEqDiff,Nat.reduceLT,Int.reduceBEq,hk];refine EvL.scope (zab ?_);simp only[rnA,Nat.reduceEqDiff,Nat.reduceLT,Nat.reduceAdd,Nat.reduceLeDiff,hgs3,hgs6,hw0,hw1,qat,hrl0,hr0,qcV,hrep,qce];exact zbO.ret rfl (.zc5 (.cons (.lit _) (.cons (zav (e:=zaa) rfl (.inr rfl) (by simp) (by simp) (fun k h=>nomatch h) (zeb (.cons (.lit _) (.cons (zal (e:=(eI .i64)) (t:=true) rfl (.inr rfl) rfl rfl (fun k h=>nomatch h) (fun _=>rfl)) (.cons (zav (e:=(eL (eI .i64))) (xs:=x.rows.set w (x.rows[w].set 0 p0.n)) rfl (.inr rfl) (by simp) (by simp) (fun k h=>nomatch h) (zhU (.cons (zal (e:=(eI .i64)) (t:=true) (xs:=x.rows[w].set 0 p0.n) rfl (.inr (by rw[qcy]; rfl)) (by simp) (by simp) (by intro k h; cases h) (fun _=>rfl)) .nil))) .nil))))) .nil)))
 ·have hk:p0.what.tmod 12=7:=hk12;replace h:=qac h; subst h;refine EvL.scope (zab ?_);simp only[rnA,Nat.reduceEqDiff,Nat.reduceLT,Nat.reduceAdd,Nat.reduceLeDiff,Int.reduceBEq,Nat.reduceBEq,hgs3,hgs6,hw0,hw1,qat,qaF,qbJ,hk,hrow7];exact zbO.ret rfl (.zc5 (.cons (.lit _) (.cons (zav (e:=zaa) rfl (.inr rfl) (by simp) (by simp) (fun k h=>nomatch h) (zeb (.cons (.lit _) (.cons (zal (e:=(eI .i64)) (t:=true) rfl (.inr rfl) rfl rfl (fun k h=>nomatch h) (fun _=>rfl)) (.cons (zav (e:=(eL (eI .i64))) (xs:=x.rows.set w (x.rows[w]++ [0])) rfl (.inr rfl) (by simp) (by simp) (fun k h=>nomatch h) (zhU (.cons (zal (e:=(eI .i64)) (t:=true) (xs:=x.rows[w]++ [0]) rfl (.inr (by simp; rfl)) (by simp) (by simp) (fun k h=>nomatch h) (fun _=>rfl)) .nil))) .nil))))) .nil)))
 ·have hk:p0.what.tmod 12=8:=hk12;simp only[zqu]at h;have hgt:∀ b:Bool,x.rows[w].isEmpty=b→decide ((0:Int)<((x.rows[w].length:Nat):Int))=!b:=by
   intro b hb;cases hxr:x.rows[w]with
   | nil=>rw[hxr]at hb; subst hb; rfl
   | cons a l=>rw[hxr]at hb; subst hb; simp<;>omega
  refine EvL.scope (zab ?_);cases he:x.rows[w].isEmpty with
  | true=>
   rw[he,cond_true]at h;replace h:=qac h; subst h;have hd:=hgt _ he;simp only[rnA,Nat.reduceEqDiff,Nat.reduceLT,Int.reduceBEq,hk];refine EvL.scope (zab ?_);simp only[rnA,Nat.reduceEqDiff,Nat.reduceLT,Nat.reduceAdd,Nat.reduceLeDiff,hgs3,hgs6,hw0,hw1,qat,qaF,hd];exact zbO.ret rfl (.zc5 (.cons (.lit _) (.cons (zav (e:=zaa) rfl (.inr rfl) (by simp) (by simp) (fun k h=>nomatch h) (zde htl (by rw[hx]; exact(.cons (.lit _) (.cons (zal (e:=(eI .i64)) (t:=true) rfl (.inr rfl) rfl rfl (fun k h=>nomatch h) (fun _=>rfl)) (.cons (zav (e:=(eL (eI .i64))) rfl (.inr rfl) (by simp) (by simp) (fun k h=>nomatch h) (zdr hwl (.cons (zal (e:=(eI .i64)) (t:=true) rfl (.inr rfl) rfl rfl (fun k h=>nomatch h) (fun _=>rfl)) .nil))) .nil)))))) .nil)))
  | false=>
   rw[he,cond_false]at h;replace h:=qac h; subst h;have hd:=hgt _ he;have hrl0:(0:Int)<((x.rows[w].length:Nat):Int):=by simpa using hd
   have hrp0:(List.replicate x.rows[w].length [D.lit (.int .i64 0)])[0]? = some [D.lit (.int .i64 0)]:=by rw[qcQ,if_pos (by omega)]
   have hr0:(x.rows[w].map ((eI .i64).c true))[0]? = some [dI (x.rows[w].headD 0)]:=by
    cases hxr:x.rows[w]with
    | nil=>rw[hxr]at he; cases he
    | cons a l=>rfl
   simp only[rnA,Nat.reduceEqDiff,Nat.reduceLT,Int.reduceBEq,hk];refine EvL.scope (zab ?_);simp only[rnA,Nat.reduceEqDiff,Nat.reduceLT,Nat.reduceAdd,Nat.reduceLeDiff,hgs3,hgs6,hw0,hw1,qat,qbJ,hrl0,hwr,qcV,hrep,hw00,qce,qcz,hrp0];exact zbO.ret rfl (.zc5 (.cons (.lit _) (.cons (zav (e:=zaa) rfl (.inr rfl) (by simp) (by simp) (fun k h=>nomatch h) (zeb (.cons (.lit _) (.cons (zal (e:=(eI .i64)) (t:=true) rfl (.inr rfl) rfl rfl (fun k h=>nomatch h) (fun _=>rfl)) (.cons (zav (e:=(eL (eI .i64))) (xs:=x.rows.set w ((List.replicate x.rows[w].length 0).set 0 p1.grain)) rfl (.inr rfl) (by simp) (by simp) (fun k h=>nomatch h) (zhU (.cons (zal (e:=(eI .i64)) (t:=true) (xs:=(List.replicate x.rows[w].length 0).set 0 p1.grain) rfl (.inl (by rw[qcy,qcu]; rfl)) (by simp) (by simp) (fun k h=>by cases h; exact qaj _) (fun _=>rfl)) .nil))) .nil))))) .nil)))
 ·have hk:p0.what.tmod 12=9:=hk12;simp only[zqu]at h;obtain⟨r2,hsw,rfl⟩:=qai.1 h;have hP6:KB 8 ((x.rows.map fzR).set w [sN 7 1 x.rows[w].length]):=zrB KB.fz fun kp hk=>⟨hk 7 (by decide),qdc⟩
  have hES:KB 8 ((p1.nodes.map (zaa.c true)).set t [dI x.card,sN 5 1 x.parents.length,sN 6 1 x.rows.length]):=zrB (KB.map _ _ _) fun kp hk=>⟨qdc,hk 5 (by decide),hk 6 (by decide),qdc⟩
  refine EvL.scope (zab ?_);simp only[rnA,Nat.reduceEqDiff,Nat.reduceLT,Int.reduceBEq,hgs3,hgs6,hw0,hw1,qat,qaF,hk];refine EvL.jn (α:=Unit) (fun _=>⟨323,[(2,.ptr 0 0),(3,.ptr 1 0),(4,.ptr 2 0)],[.cells [dU8 p0.what,dU8 p0.at_,dU8 p0.row,dI p0.n],.cells [dI p1.grain,sN 3 3 p1.nodes.length],.cells [dI 0,zbs],.grow 3 ((p1.nodes.map (zaa.c true)).set t [dI x.card,sN 5 1 x.parents.length,sN 6 1 x.rows.length]),.gone,gP x.parents,.grow 1 ((x.rows.map fzR).set w [sN 7 1 x.rows[w].length]),.grow 1 (r2.map ((eI .i64).c true))]⟩) (fun _=>r2.length=x.rows[w].length) ?_ ?_
  ·refine zab ?_;simp only[rnA];obtain⟨T,hT⟩:∃ T:Int×Int×List Int→LSt,T=(fun a=>⟨323,[(2,.ptr 0 0),(3,.ptr 1 0),(4,.ptr 2 0),(10,.eptr 3 3 t 0 p1.nodes.length),(11,dI w),(12,dI a.1),(13,dI a.2.1)],[.cells [dU8 p0.what,dU8 p0.at_,dU8 p0.row,dI p0.n],.cells [dI p1.grain,sN 3 3 p1.nodes.length],.cells [dI 0,zbs],.grow 3 ((p1.nodes.map (zaa.c true)).set t [dI x.card,sN 5 1 x.parents.length,sN 6 1 x.rows.length]),.gone,gP x.parents,.grow 1 ((x.rows.map fzR).set w [sN 7 1 x.rows[w].length]),.grow 1 (a.2.2.map ((eI .i64).c true))]⟩):=⟨_,rfl⟩;refine EvL.rounds T (fun n a=>swL n a.1 a.2.1 a.2.2=some r2∧a.2.2.length=x.rows[w].length) (x.rows[w].length+2) (0,w64 (((x.rows[w].length:Nat):Int) - 1),x.rows[w]) (by rw[hT]; exact wm0 [.k,.k,.k,.k,.k,.k,.k,.k] ⟨.same (hb0 _),⟨MB.cs ⟨qdc,rfl,qdc⟩,⟨.same (hb2 _),⟨MB.zaT (Mt.zbC (hES _ (by decide))),⟨MB.same trivial,⟨MB.gs (eI .i64) true x.parents,⟨MB.zaT (Mt.zbC (hP6 _ (by decide))),⟨MB.gs (eI .i64) true x.rows[w],qdc⟩⟩⟩⟩⟩⟩⟩⟩) ⟨hsw,rfl⟩ (fun _ h=>nomatch h.1) ?_;rintro n ⟨i,k,a⟩ ⟨h1,hal⟩;simp only at h1 hal;rw[congrFun hT (i,k,a)]
   conv=>enter [3,1,1]; simp only[zup,ze3]
   simp only[swL]at h1;refine zab ?_;cases c1:decide (i<k)with
   | false=>
    rw[c1,cond_false]at h1;cases h1;simp only[rnA,Nat.reduceEqDiff,Nat.reduceLT,Nat.reduceAdd,Nat.reduceLeDiff,c1];exact⟨(),hal,wm0 [.k,.k,.k,.k,.k,.k,.k,.k] ⟨.same (hb0 _),⟨MB.cs ⟨qdc,rfl,qdc⟩,⟨.same (hb2 _),⟨MB.zaT (Mt.zbC (hES _ (by decide))),⟨MB.same trivial,⟨MB.gs (eI .i64) true x.parents,⟨MB.zaT (Mt.zbC (hP6 _ (by decide))),⟨MB.gs (eI .i64) true r2,qdc⟩⟩⟩⟩⟩⟩⟩⟩⟩
   | true=>
    rw[c1,cond_true]at h1;obtain⟨x1,g1,h1⟩:=bind_some h1;obtain⟨y1,g2,h1⟩:=bind_some h1;obtain⟨r1,g3',h1⟩:=bind_some h1;obtain⟨r3,g4,h1⟩:=bind_some h1;have g2r:zaP r1 k=some y1:=by
     have hi0:=zbk g1;have hik:=of_decide_eq_true c1;rw[(zhf g3').2];unfold zaP at g2 ⊢;rw[if_pos (by omega)]at g2 ⊢;rw[qan (by omega)];exact g2
    have l1:r1.length=x.rows[w].length:=(zbd g3').trans hal;have l3:r3.length=x.rows[w].length:=(zbd g4).trans l1;simp only[rnA,Nat.reduceEqDiff,Nat.reduceLT,Nat.reduceLeDiff,hgs3,hgs6,hw0,hw1,qat,qaF,c1,hal,l1,zbk g1,zbk g2,(show i<((x.rows[w].length:Nat):Int)from hal ▸ zbD g1),(show k<((x.rows[w].length:Nat):Int)from hal ▸ zbD g2),zaZ g1 ((eI .i64).c true),zaZ g2 ((eI .i64).c true),zaZ g2r ((eI .i64).c true),(show(a.map ((eI .i64).c true)).set i.toNat [dI y1]=r1.map ((eI .i64).c true)from zb1 g3' ((eI .i64).c true)),(show(r1.map ((eI .i64).c true)).set k.toNat [dI x1]=r3.map ((eI .i64).c true)from zb1 g4 ((eI .i64).c true))];exact⟨(w64 (i+1),w64 (k - 1),r3),⟨h1,l3⟩,by rw[hT]; exact wm0 [.k,.k,.k,.k,.k,.k,.k,.k] ⟨.same (hb0 _),⟨MB.cs ⟨qdc,rfl,qdc⟩,⟨.same (hb2 _),⟨MB.zaT (Mt.zbC (hES _ (by decide))),⟨MB.same trivial,⟨MB.gs (eI .i64) true x.parents,⟨MB.zaT (Mt.zbC (hP6 _ (by decide))),⟨MB.gs (eI .i64) true r3,qdc⟩⟩⟩⟩⟩⟩⟩⟩⟩
  rintro _ hl2;refine zab ?_;simp only[rnA,Nat.reduceEqDiff,Nat.reduceLT,Nat.reduceAdd,Nat.reduceLeDiff];exact zbO.ret rfl (.zc5 (.cons (.lit _) (.cons (zav (e:=zaa) rfl (.inr rfl) (by simp) (by simp) (fun k h=>nomatch h) (zeb (.cons (.lit _) (.cons (zal (e:=(eI .i64)) (t:=true) rfl (.inr rfl) rfl rfl (fun k h=>nomatch h) (fun _=>rfl)) (.cons (zav (e:=(eL (eI .i64))) (xs:=x.rows.set w (r2)) rfl (.inr rfl) (by simp) (by simp) (fun k h=>nomatch h) (zhU (.cons (zal (e:=(eI .i64)) (t:=true) (xs:=r2) rfl (.inr rfl) (by rw[hl2]) (by rw[hl2]) (fun k h=>nomatch h) (fun _=>rfl)) .nil))) .nil))))) .nil)))
 ·have hk:p0.what.tmod 12=10:=hk12;replace h:=qac h; subst h;refine EvL.scope (zab ?_);simp only[rnA,Nat.reduceEqDiff,Nat.reduceLT,Nat.reduceAdd,Nat.reduceLeDiff,Int.reduceBEq,qat,hk,hfn1];exact zbO.ret rfl (.zc5 (.cons (.lit _) (.cons (zav (e:=zaa) (xs:=p1.nodes ++ [⟨1,[],[[p1.grain]]⟩]) rfl (.inr rfl) (by simp) (by simp) (by intro k h; cases h) (by rw[qba]; refine zpG (zde htl ?_) ?_; (rw[hx]; exact(.cons (.lit _) (.cons (zal (e:=(eI .i64)) (t:=true) rfl (.inr rfl) rfl rfl (fun k h=>nomatch h) (fun _=>rfl)) (.cons (zav (e:=(eL (eI .i64))) rfl (.inr rfl) (by simp) (by simp) (fun k h=>nomatch h) (zdr hwl (.cons (zal (e:=(eI .i64)) (t:=true) rfl (.inr rfl) rfl rfl (fun k h=>nomatch h) (fun _=>rfl)) .nil))) .nil)))); exact(zgJ (.cons (.lit _) (.cons (zaV (eI .i64)) (.cons (zav (e:=(eL (eI .i64))) (xs:=[[p1.grain]]) rfl (.inl rfl) rfl rfl (fun k h=>by cases h; exact qaj _) (zgJ (.cons (zal (e:=(eI .i64)) (t:=true) (xs:=[p1.grain]) rfl (.inl rfl) rfl rfl (fun k h=>by cases h; exact qaj _) (fun _=>rfl)) .nil) .nil)) .nil))) .nil))) .nil)))
 have hk:p0.what.tmod 12=11:=hk12;replace h:=qac h; subst h;refine EvL.scope (zab ?_);simp only[rnA,Nat.reduceEqDiff,Nat.reduceLT,Nat.reduceAdd,Nat.reduceLeDiff,Int.reduceBEq,qat,hk,hb11,hwn];exact zbO.ret rfl (.zc5 (.cons (.lit _) (.cons (zhB (e:=zaa) (xs:=p1.nodes.take (p1.nodes.length - 1)) rfl (.inr rfl) (by simp) (by simp) (by intro k h; cases h) (by rw[qcC]; refine zmS (zde htl ?_) _; rw[hx]; exact(.cons (.lit _) (.cons (zal (e:=(eI .i64)) (t:=true) rfl (.inr rfl) rfl rfl (fun k h=>nomatch h) (fun _=>rfl)) (.cons (zav (e:=(eL (eI .i64))) rfl (.inr rfl) (by simp) (by simp) (fun k h=>nomatch h) (zdr hwl (.cons (zal (e:=(eI .i64)) (t:=true) rfl (.inr rfl) rfl rfl (fun k h=>nomatch h) (fun _=>rfl)) .nil))) .nil))))) .nil)))
end Go.Dc
