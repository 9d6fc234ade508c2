/-
  Closing: what the laws on circuits have in common. Conditions: none.
-/
import Derived.Test.YtbjfkbkmoeibdaaCc1
import Derived.Test.YtbjfkbkmoeibdaaKnW
import Derived.Test.YtbjfkbkmoeibdaaDe2
import Derived.ProofKit
namespace Go.Proofs.Ytbjfkbkmoeibdaa.C
open Go Go.Mx Go.Lx Go.ChangeShapes Go.WideShapes Go.ChangeAt Go.RowKit
set_option linter.unusedSimpArgs false
set_option linter.unusedVariables false
set_option maxRecDepth 100000
theorem own : ownKnob Try.prog.godebug = none := by kernel_rfl
theorem laidOut : laidOutB Try.prog = true := by kernel_rfl
theorem orcW_ok : OrcOk Try.prog orcW := by
  intro B f args h cr h' ho
  unfold orcW at ho
  split at ho
  · rename_i hf
    subst hf
    cases args with
    | nil =>
      simp only [Option.some.injEq, Prod.mk.injEq] at ho
      obtain ⟨rfl, rfl⟩ := ho
      exact callOk_true (by kernel_rfl) wakes_calls B h
    | cons a r => cases ho
  · cases ho
theorem mC_fns : ∀ f fn, mC.fns f = some fn → FnOk Try.prog f fn := fun f fn h => tab_ok _ (lookT_mem tab f fn h)
/-- A law on circuits. -/
theorem lawC {H : Type} {enc : TypeId × Value → H} {w : World} {f g b0 : Nat} {ts : List TypeId} {args : Array Value} {ds : List (DataW H)} {ps : List MemPlace}
    (hv : ∀ (j : Nat) t v, ts[j]? = some t → args[j]? = some v → Value.okWide Try.prog w .any b0 t v) (hd : DataW.TrodAll enc Try.prog w 0 (fun _ => true) true ts args.toList ds ps) (hf : ∀ t ∈ ts, (flatT Try.prog g t).isSome = true)
    (hF : ∀ es, ShAs Try.prog g ts es → Lx.Fn mC f es (.lit (.bool true))) : Calls Try.prog f args w fun e w' => e = .returned (.bool true) ∧ Below w.heap.size w w' :=
  law_calls mixed mC_fns orcW_ok hv hd hf hF
theorem lit_int {k : IntKind} {d : D} (h : ShD (.int k) d) : ∃ n, d = .lit (.int k n) ∧ (Lit.int k n).wf = true := by cases h; exact ⟨_, rfl, by assumption⟩
theorem lit_u8 {d : D} (h : ShD (.int .u8) d) : ∃ n : Nat, d = .lit (.int .u8 n) ∧ n < 256 := by
  obtain ⟨n, rfl, h1⟩ := lit_int h
  have h2 : 0 ≤ n ∧ n ≤ 255 := by simpa [Lit.wf, IntKind.has, IntKind.min, IntKind.max, IntKind.signed, IntKind.bits] using h1
  exact ⟨n.toNat, by rw [Int.toNat_of_nonneg h2.1], by omega⟩
theorem lit_i64 {d : D} (h : ShD (.int .i64) d) : ∃ n : Int, d = .lit (.int .i64 n) ∧ -9223372036854775808 ≤ n ∧ n < 9223372036854775808 := by
  obtain ⟨n, rfl, h1⟩ := lit_int h
  have h2 : -9223372036854775808 ≤ n ∧ n ≤ 9223372036854775807 := by simpa [Lit.wf, IntKind.has, IntKind.min, IntKind.max, IntKind.signed, IntKind.bits] using h1
  exact ⟨n, rfl, h2.1, by omega⟩
theorem lit_bool {d : D} (h : ShD .bool d) : ∃ b, d = .lit (.bool b) := by cases h; exact ⟨_, rfl⟩
/-- A list whose elements are of a form. -/
theorem fz_of {cts : List CT} {d : D} (h : ShD (.sl cts) d) : ∃ els, d = .fz false cts.length els ∧ els.length < 2 ^ 63 ∧ ∀ cells ∈ els, cells.length = cts.length ∧ ∀ (k : Nat) ct d, cts[k]? = some ct → cells[k]? = some d → ShD ct d := by
  cases h with
  | sl _ els h1 h2 h3 h4 =>
    refine ⟨els, rfl, h2, fun cells hc => ?_⟩
    obtain ⟨i, hi⟩ := List.getElem?_of_mem hc
    exact ⟨h3 i cells hi, fun k ct d g1 g2 => h4 i cells k ct d hi g1 g2⟩
theorem map_of {α β : Type} {f : α → β} {T : α → Prop} : ∀ {l : List β}, (∀ y ∈ l, ∃ x, y = f x ∧ T x) → ∃ xs : List α, l = xs.map f ∧ ∀ x ∈ xs, T x
  | [], _ => ⟨[], rfl, fun x h => (by cases h)⟩
  | y :: l, h => by
    obtain ⟨x, rfl, hx⟩ := h y (by simp)
    obtain ⟨xs, rfl, hxs⟩ := map_of (l := l) (f := f) (T := T) fun y hy => h y (by simp [hy])
    exact ⟨x :: xs, rfl, fun z hz => by
      rcases List.mem_cons.1 hz with rfl | hz
      · exact hx
      · exact hxs z hz⟩
theorem len1 {α : Type} {l : List α} (h : l.length = 1) : ∃ a, l = [a] := by
  match l, h with
  | [a], _ => exact ⟨a, rfl⟩
theorem len3 {α : Type} {l : List α} (h : l.length = 3) : ∃ a b c, l = [a, b, c] := by
  match l, h with
  | [a, b, c], _ => exact ⟨a, b, c, rfl⟩
theorem len4 {α : Type} {l : List α} (h : l.length = 4) : ∃ a b c d, l = [a, b, c, d] := by
  match l, h with
  | [a, b, c, d], _ => exact ⟨a, b, c, d, rfl⟩
end Go.Proofs.Ytbjfkbkmoeibdaa.C
