/-
  Closing: what the laws of this seat have in common. Conditions: none.
-/
import Derived.Test.YtobhjbbinnbdaaaNnWk5
import Derived.Test.YtobhjbbinnbdaaaNnDm
import Derived.Test.YtobhjbbinnbdaaaNnJ6
import Derived.Test.YtobhjbbinnbdaaaNnFct
import Derived.ProofKit
import Derived.Test.YtobhjbbinnbdaaaNnJ3
import Derived.Test.YtobhjbbinnbdaaaNnFctT
import Derived.Test.YtobhjbbinnbdaaaNnJ4
namespace Go.Proofs.Ytobhjbbinnbdaaa.S
open Go Go.Mx Go.Lx Go.Dc Go.ChangeShapes Go.WideShapes Go.ChangeAt Go.RowKit
set_option maxRecDepth 100000
theorem own : ownKnob Try.prog.godebug = none := by kernel_rfl
theorem laidOut : laidOutB Try.prog = true := zqV
theorem zsb : zn8 Try.prog Dc.ztW := by
  intro B f args h cr h' ho
  unfold Dc.ztW at ho
  cases args with
  | cons a r => cases ho
  | nil =>
    simp only at ho
    cases hf : Nat.beq f 37 with
    | false => rw [hf] at ho; cases ho
    | true =>
      rw [hf] at ho
      have := Nat.eq_of_beq_eq_true hf
      subst this
      cases ho
      exact zko (by kernel_rfl) W.zka B h
theorem zrV {P : Program} {f : Nat} {fn : Mx.Fn} (h : ziB P f = some fn) : fn.p = false := by
  unfold ziB at h
  split at h
  · split at h
    · simp only [cond_eq_ite] at h
      split at h
      · cases h; rfl
      · cases h
    · cases h
  · cases h
theorem zs1 : ∀ f fn, mC.fns f = some fn → zbv Try.prog f fn := by
  intro f fn h
  have hp := zrV (P := Try.prog) (f := f) h
  have he : ({ fn with p := false } : Mx.Fn) = fn := by
    cases fn
    simp only at hp
    subst hp
    rfl
  unfold zbv
  rw [he]
  exact h
theorem zwm {H : Type} {enc : TypeId × Value → H} {w : World} {f g b0 : Nat} {ts : List TypeId} {args : Array Value} {ds : List (DataW H)} {ps : List MemPlace}
    (hv : ∀ (j : Nat) t v, ts[j]? = some t → args[j]? = some v → Value.okWide Try.prog w .any b0 t v) (hd : DataW.TrodAll enc Try.prog w 0 (fun _ => true) true ts args.toList ds ps) (hf : ∀ t ∈ ts, (zde Try.prog g t).isSome = true)
    (hF : ∀ es, ShAs Try.prog g ts es → Lx.Fn mC f es (.lit (.bool true))) : Calls Try.prog f args w fun e w' => e = .returned (.bool true) ∧ Below w.heap.size w w' :=
  zn2 W.mixed zs1 zsb hv hd hf hF
theorem zld {n : Int} (h : okI .u8 n) : 0 ≤ n ∧ n ≤ 255 := by
  simpa [okI, Lit.wf, IntKind.has, IntKind.min, IntKind.max, IntKind.signed, IntKind.bits] using h
end Go.Proofs.Ytobhjbbinnbdaaa.S
namespace Go.Proofs.Ytobhjbbinnbdaaa.S
open Go Go.Mx Go.Lx Go.Dc Go.ChangeShapes Go.WideShapes Go.ChangeAt Go.RowKit
set_option maxRecDepth 100000
theorem zm4 {xs : List Int} (h : okL (okI .u8) xs) : ∃ ns : List Nat, (∀ x ∈ ns, x ≤ 255) ∧ xs = iL ns := by
  obtain ⟨ns, h1, h2⟩ := Dc.zk9 (l := xs) (f := fun n : Nat => (n : Int)) (T := fun n => n ≤ 255) fun y hy => by
    have := zld (h.2 y hy)
    exact ⟨y.toNat, by omega, by omega⟩
  exact ⟨ns, h1, h2⟩
theorem zn9 : Dec zag [.int .u8, .int .u8, .sl [.int .u8]] (fun x => okI .u8 x.card ∧ okI .u8 x.parents ∧ okL (okI .u8) x.w) :=
  Dec.iso (Dec.pair (Dec.int .u8) (Dec.pair (Dec.int .u8) (Dec.list (Dec.int .u8)))) (fun x : S_haruspexref05_Piece => (x.card, x.parents, x.w)) (fun a => ⟨a.1, a.2.1, a.2.2⟩) (fun _ => rfl)
theorem znc : Dec zcf [.int .u8, .sl [.int .u8, .int .u8, .sl [.int .u8]], .sl [.int .u8]]
    (fun x => okI .u8 x.grain ∧ okL (fun x => okI .u8 x.card ∧ okI .u8 x.parents ∧ okL (okI .u8) x.w) x.nodes ∧ okL (okI .u8) x.order) :=
  Dec.iso (Dec.pair (Dec.int .u8) (Dec.pair (Dec.list zn9) (Dec.list (Dec.int .u8)))) (fun x : S_haruspexref05_Draft => (x.grain, x.nodes, x.order)) (fun a => ⟨a.1, a.2.1, a.2.2⟩) (fun _ => rfl)
theorem zpF {x : S_haruspexref05_Draft} (h : okI .u8 x.grain ∧ okL (fun x => okI .u8 x.card ∧ okI .u8 x.parents ∧ okL (okI .u8) x.w) x.nodes ∧ okL (okI .u8) x.order) : ∃ d : DraftN, DraftOk d ∧ x = zbZ d := by
  obtain ⟨grain, nodes, order⟩ := x
  obtain ⟨h1, h2, h3⟩ := h
  have hg := zld h1
  obtain ⟨os, o1, o2⟩ := zm4 h3
  obtain ⟨ps, p1, p2⟩ := Dc.zk9 (l := nodes) (f := zlP) (T := fun n => n.card ≤ 255) fun y hy => by
    obtain ⟨g1, g2, g3⟩ := h2.2 y hy
    have k1 := zld g1
    have k2 := zld g2
    obtain ⟨ws, w1, w2⟩ := zm4 g3
    refine ⟨⟨y.card.toNat, y.parents.toNat, ws⟩, by simp only; omega, ?_⟩
    obtain ⟨a, b, c⟩ := y
    simp only at k1 k2 w2
    subst w2
    simp only [zlP, Int.toNat_of_nonneg k1.1, Int.toNat_of_nonneg k2.1]
  refine ⟨⟨grain.toNat, ps, os⟩, ⟨by simp only at hg ⊢; omega, p1, o1⟩, ?_⟩
  simp only at o2 p2 hg
  subst o2 p2
  simp only [zbZ, Int.toNat_of_nonneg hg.1]
theorem zq3 : zde Try.prog 8 63 = some [.int .u8, .sl [.int .u8, .int .u8, .sl [.int .u8]], .sl [.int .u8]] := by kernel_rfl
theorem zvo : zo4 Try.prog 63 = true := by kernel_rfl
theorem zuw : Try.prog.readableRec 63 = true := by kernel_rfl
theorem zu9 : (63 : Nat) < Try.prog.types.size := of_decide_eq_true (by kernel_rfl)
theorem zqk {d : D} (h : ShA Try.prog 8 63 d) : ∃ dr : DraftN, DraftOk dr ∧ d = .agg (zcf.c false (zbZ dr)) := by
  obtain ⟨x, h1, h2⟩ := znc.agg zvo zq3 h
  obtain ⟨dr, h3, rfl⟩ := zpF h1
  exact ⟨dr, h3, h2⟩
theorem zrM : ∀ t ∈ [63], (zde Try.prog 8 t).isSome = true := by
  intro t ht
  simp only [List.mem_cons, List.not_mem_nil, or_false] at ht
  subst ht
  rw [zq3]
  rfl
end Go.Proofs.Ytobhjbbinnbdaaa.S
namespace Go.Proofs.Ytobhjbbinnbdaaa.S
open Go Go.Mx Go.Lx Go.Dc Go.ChangeShapes Go.WideShapes Go.ChangeAt Go.RowKit
set_option maxRecDepth 100000
theorem zmt {H : Type} {enc : TypeId × Value → H} {w : World} {b0 : Nat} {args : Array Value} {ds : List (DataW H)} {ps : List MemPlace}
    (hv : ∀ (j : Nat) t v, [63][j]? = some t → args[j]? = some v → Value.okWide Try.prog w .any b0 t v) (hd : DataW.TrodAll enc Try.prog w 0 (fun _ => true) true [63] args.toList ds ps) :
    Calls Try.prog 9 args w fun e w' => e = .returned (.bool true) ∧ Below w.heap.size w w' := by
  refine zwm (g := 8) hv hd zrM fun es hes => ?_
  obtain ⟨x, r, rfl, h1, h2⟩ := Dc.ShAs.inv hes
  obtain rfl := Dc.ShAs.none h2
  obtain ⟨d, hd2, rfl⟩ := zqk h1
  exact zg3 (near_holds hd2)
theorem zkv (os : Os) (started : os.Started) (H : Type) (enc : TypeId × Value → H) :
    ReturnsInHanded {} Try.checked os 9 .any (Rows.netNearSpec.pre6 enc Try.prog Try.f9 Rows.netNearRow.domain false) (Rows.netNearSpec.post enc Try.prog Try.f9 false true false false) := by
  refine returnsInHanded_of_change (C := Try.checked) own started (by kernel_rfl) Try.func9
    (ChangeSpec.witness6 (enc := enc) (C := Try.checked) false ⟨#[], #[.agg #[.int .u8 0, .slice none 0 0, .slice none 0 0]], []⟩ 8 (by kernel_rfl) (by kernel_rfl) (by kernel_rfl) (by kernel_rfl)) ?_
  intro W base args ds gs before hval0 hW hcnd _
  have hval : ∀ (j : Nat) t v, Try.f9.params[j]? = some t → args[j]? = some v → Value.okWide Try.prog W .any base t v := hval0
  have hlt : ∀ x ∈ before, x.block < W.heap.size := fun x hx => hW.lt x hx
  have hW' := hW
  obtain ⟨p, q, hA0, hV, rfl, hfz, hnd⟩ := hW
  have hA : DataW.TrodAll enc Try.prog W 0 (fun _ => true) true Try.f9.params.toList args.toList ds p := hA0
  rw [Try.params9] at hA hval
  have hcalls := zmt (fun j t v h1 h2 => hval j t v (by simpa using h1) h2) hA
  obtain ⟨v0, d0, hargs, rfl, h0⟩ := trodAll_one hA
  obtain ⟨rfl, rfl⟩ := trodVars_none hV
  clear hA0 hval0
  simp only [List.append_nil] at hW'
  refine hcalls.mono fun e W' ⟨he, hb⟩ => ?_
  subst he
  subst hargs
  exact ⟨_, rfl, _, _, _, [], _, [], hW', trodAll_mk1 (shut_bool Try.underlying4 true),
    trodAll_mk1 (Below.trod laidOut zuw zu9 h0 hb (fun x hx => hlt x (by simp [hx]))),
    rfl, hb.frame _, fun h => by cases h⟩
theorem near_holds : Rows.NetNearSaid :=
  OpenClaim.holds_of_wide 9 Try.f9 rfl rfl rfl rfl rfl rfl rfl ⟨rfl, rfl, rfl, rfl, rfl⟩ rfl rfl rfl rfl rfl zve Try.func9 zrF
    zva (by unfold Func.isWrapper; first | (rw [if_pos (by decide +kernel)]; kernel_rfl) | (rw [if_neg (by decide +kernel)]; exact ⟨rfl, rfl⟩))
    (fun os started H enc _ => zkv os started H enc)
end Go.Proofs.Ytobhjbbinnbdaaa.S
namespace Go.Proofs.Ytobhjbbinnbdaaa
theorem near_holds : Rows.NetNearSaid := S.near_holds
end Go.Proofs.Ytobhjbbinnbdaaa
