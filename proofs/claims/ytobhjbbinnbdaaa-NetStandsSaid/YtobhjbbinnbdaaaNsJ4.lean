/-
  Plain laws: sets of places, rows that are filled. Conditions: none.
-/
import Derived.Test.YtobhjbbinnbdaaaNsJ3
import Derived.Test.YtobhjbbinnbdaaaNsJ2
namespace Go.Dc
open Go Go.Mx Go.Lx
set_option linter.unusedSimpArgs false
set_option linter.unusedVariables false
def maskN (xs : List Nat) : Nat := xs.foldl (fun m p => m ||| 2 ^ p) 0
theorem mask_app (xs : List Nat) (p : Nat) : maskN (xs ++ [p]) = maskN xs ||| 2 ^ p := by simp [maskN]
theorem foldl_bit : ∀ (xs : List Nat) (m i : Nat), (xs.foldl (fun m p => m ||| 2 ^ p) m).testBit i = (m.testBit i || decide (i ∈ xs))
  | [], m, i => by simp
  | x :: xs, m, i => by
    rw [List.foldl_cons, foldl_bit xs, Nat.testBit_or, Nat.testBit_two_pow, Bool.or_assoc]
    congr 1
    by_cases h : x = i
    · simp [h]
    · simp [h, show ¬ i = x from fun q => h q.symm]
theorem mask_bit (xs : List Nat) (i : Nat) : (maskN xs).testBit i = decide (i ∈ xs) := by
  unfold maskN; rw [foldl_bit]; simp
theorem foldl_lt : ∀ (xs : List Nat) (m : Nat), m < 18446744073709551616 → (∀ x ∈ xs, x < 64) → xs.foldl (fun m p => m ||| 2 ^ p) m < 18446744073709551616
  | [], m, h, _ => h
  | x :: xs, m, h, hx => foldl_lt xs _ (Nat.or_lt_two_pow (n := 64) h (Nat.pow_lt_pow_right (by decide) (hx x List.mem_cons_self))) fun y hy => hx y (List.mem_cons_of_mem _ hy)
theorem mask_lt {xs : List Nat} (h : ∀ x ∈ xs, x < 64) : maskN xs < 18446744073709551616 := foldl_lt xs 0 (by decide) h
/-- a lies within b. -/
def Sub (a b : Nat) : Prop := ∀ i, a.testBit i = true → b.testBit i = true
theorem diff_zero {a b : Nat} (ha : a < 18446744073709551616) (hb : b < 18446744073709551616) : diff a b = 0 ↔ Sub a b := by
  constructor
  · intro h i hi
    have := diff_bit (i := i) ha hb
    rw [h, hi] at this
    simpa using this
  · intro h
    apply Nat.eq_of_testBit_eq
    intro i
    rw [diff_bit ha hb, Nat.zero_testBit]
    cases hi : a.testBit i with
    | false => rfl
    | true => rw [h i hi]; rfl
theorem filled_l1 {cs ps : List Nat} {nodes : S_api_Net} {sets order : List Int} {x : S_api_Node} (hx : x.parents = iL ps) (hp : Pl cs.length ps) (hl : ps.length ≤ 8) (hc : ∀ p ∈ ps, 1 ≤ cs.getD p 0) : ∀ (n i a : Nat), i ≤ ps.length →
    a * prodI ((ps.drop i).map fun p => cs.getD p 0) ≤ 65536 → ps.length - i < n →
    net_network_filled_l1 x ⟨nodes, iL cs, sets, order⟩ n (a : Int) (i : Int) = some ((a * prodI ((ps.drop i).map fun p => cs.getD p 0) : Nat) : Int)
  | 0, _, _, _, _, h => absurd h (Nat.not_lt_zero _)
  | n + 1, i, a, h1, h2, h3 => by
    unfold net_network_filled_l1
    rw [hx, iL_len]
    by_cases hi : i < ps.length
    · have e2 : a * prodI ((ps.drop i).map fun p => cs.getD p 0) = a * cs.getD ps[i] 0 * prodI ((ps.drop (i + 1)).map fun p => cs.getD p 0) := by
        rw [List.drop_eq_getElem_cons hi]; exact (Nat.mul_assoc _ _ _).symm
      rw [e2] at h2
      have hb : ps[i] < cs.length := hp _ (List.getElem_mem hi)
      have hq : 1 ≤ prodI ((ps.drop (i + 1)).map fun p => cs.getD p 0) := prodI_pos fun x hx => by
        obtain ⟨p, hp1, rfl⟩ := List.mem_map.1 hx
        exact hc p (List.mem_of_mem_drop hp1)
      have hle : a * cs.getD ps[i] 0 ≤ 65536 := Nat.le_trans (Nat.le_mul_of_pos_right _ hq) h2
      have he : cs[ps[i]] = cs.getD ps[i] 0 := by simp [hb]
      rw [lt_nat, decide_eq_true hi, cond_true, getI_iL hi, Option.bind_some, getI_iL hb, Option.bind_some, he, ← Int.natCast_mul, w64_nat (by omega), w64_succ (by omega),
        filled_l1 hx hp hl hc n (i + 1) _ hi h2 (by omega), e2]
    · rw [lt_nat, decide_eq_false hi, cond_false, List.drop_eq_nil_of_le (by omega)]
      simp [prodI]
theorem filled_l3 {y : Int × List Int} {zs : List Nat} (hy : y.2 = iL zs) (hl : zs.length ≤ 8) : ∀ (n i r : Nat), i ≤ zs.length → (zs.drop i).sum ≤ r → r ≤ 65536 → zs.length - i < n →
    net_network_filled_l3 y n (r : Int) (i : Int) = some (.go ((r - (zs.drop i).sum : Nat) : Int))
  | 0, _, _, _, _, _, h => absurd h (Nat.not_lt_zero _)
  | n + 1, i, r, h1, h2, hr, h3 => by
    unfold net_network_filled_l3
    rw [hy, iL_len]
    by_cases hi : i < zs.length
    · have e : (zs.drop i).sum = zs[i] + (zs.drop (i + 1)).sum := by rw [List.drop_eq_getElem_cons hi, List.sum_cons]
      rw [e] at h2
      rw [lt_nat, decide_eq_true hi, cond_true, getI_iL hi, Option.bind_some, show decide (((zs[i] : Nat) : Int) < 0) = false from decide_eq_false (by omega), cond_false, Option.bind_some,
        show decide ((r : Int) < ((zs[i] : Nat) : Int)) = false from decide_eq_false (by omega), cond_false, show ((r : Int) - ((zs[i] : Nat) : Int)) = ((r - zs[i] : Nat) : Int) by omega, w64_nat (by omega), w64_succ (by omega),
        filled_l3 hy hl n (i + 1) _ hi (by omega) (by omega) (by omega), e, Nat.sub_sub]
    · rw [lt_nat, decide_eq_false hi, cond_false, List.drop_eq_nil_of_le (by omega)]
      simp
theorem filled_l2 {g c : Nat} {nw : S_net_network} {x : S_api_Node} (hg : nw.net.grain = (g : Int)) (hg2 : g ≤ 60) (hc : x.card = (c : Int)) (hc8 : c ≤ 8) : ∀ (L : List (Int × List Int)), (∀ y ∈ L, ∃ zs : List Nat, y.2 = iL zs ∧ zs.length = c ∧ zs.sum = g) →
    net_network_filled_l2 nw x L = some (.go ())
  | [], _ => rfl
  | y :: L, h => by
    obtain ⟨zs, h1, h2, h3⟩ := h y List.mem_cons_self
    unfold net_network_filled_l2
    have e := filled_l3 h1 (by omega) (zs.length + 2) 0 g (Nat.zero_le _) (by rw [List.drop_zero]; omega) (by omega) (by omega)
    rw [List.drop_zero, h3, Nat.sub_self, show ((0 : Nat) : Int) = 0 from rfl] at e
    rw [hg, h1, iL_len, fuel_nat, e, Option.bind_some]
    simp only []
    rw [hc, h2, show ((c : Int) == (c : Int)) = true by simp, cond_true, Option.bind_some, show (!((0 : Int) == 0)) = false from rfl, cond_false]
    exact filled_l2 hg hg2 hc hc8 L fun y hy => h y (List.mem_cons_of_mem _ hy)
theorem filled_ok {g : Nat} {cs : List Nat} {nodes : List S_api_Node} {sets order : List Int} {x : NN} (hg2 : g ≤ 60) (hp : Pl cs.length x.ps) (hl : x.ps.length ≤ 8) (hc : ∀ p ∈ x.ps, 1 ≤ cs.getD p 0) (hc8 : x.c ≤ 8)
    (hm : prodI (x.ps.map fun p => cs.getD p 0) ≤ 65536) (hr : RowsOk g x.c (prodI (x.ps.map fun p => cs.getD p 0)) x.rows) : net_network_filled_s ⟨⟨(g : Int), nodes⟩, iL cs, sets, order⟩ (nd x) = some true := by
  unfold net_network_filled_s
  have e := filled_l1 (x := nd x) (nodes := ⟨(g : Int), nodes⟩) (sets := sets) (order := order) rfl hp hl hc (x.ps.length + 2) 0 1 (Nat.zero_le _) (by simpa using hm) (by omega)
  rw [show ((0 : Nat) : Int) = 0 from rfl, show ((1 : Nat) : Int) = 1 from rfl, List.drop_zero, Nat.one_mul] at e
  have hrl : (nd x).rows.length = x.rows.length := by simp [nd]
  rw [show (nd x).parents = iL x.ps from rfl, iL_len, fuel_nat, e, Option.bind_some, hrl, hr.len, show (((prodI (x.ps.map fun p => cs.getD p 0) : Nat) : Int) == ((prodI (x.ps.map fun p => cs.getD p 0) : Nat) : Int)) = true by simp, cond_true]
  unfold net_rows_s
  rw [Option.bind_some]
  have hs : smallI (nd x).rows = some () := by
    unfold smallI
    rw [if_pos (by rw [hrl, hr.len]; omega)]
  rw [hs, Option.bind_some, filled_l2 (g := g) (c := x.c) rfl hg2 rfl hc8, Option.bind_some]
  intro y hy
  unfold zipI at hy
  obtain ⟨q, hq, rfl⟩ := List.mem_map.1 hy
  have hq1 : q.1 ∈ (nd x).rows := by
    have := List.mem_zipIdx' hq
    rw [this.2]; exact List.getElem_mem _
  obtain ⟨zs, hz, hz2⟩ := List.mem_map.1 hq1
  exact ⟨zs, hz2.symm, hr.row zs hz⟩
end Go.Dc
namespace Go.Dc
open Go Go.Mx Go.Lx
set_option linter.unusedSimpArgs false
set_option linter.unusedVariables false
def netD (g : Nat) (ns : List NN) : S_api_Net := ⟨(g : Int), ns.map nd⟩
theorem read_l1 {g P : Nat} {ns : List NN} (hn : ns.length ≤ 8) (hc : ∀ x ∈ ns, 1 ≤ x.c ∧ x.c ≤ 4) (hP : P ≤ 65536) : ∀ (n : Nat) (xs ys : List NN) (a : Nat), xs ++ ys = ns → a * prodI (ys.map (·.c)) = P → ys.length < n →
    net_read_l1 (netD g ns) n (a : Int) (xs.length : Int) (iL (xs.map (·.c) ++ List.replicate ys.length 0)) = some (.go ((P : Int), iL (ns.map (·.c))))
  | 0, _, _, _, _, _, h => absurd h (Nat.not_lt_zero _)
  | n + 1, xs, [], a, h1, h2, h3 => by
    unfold net_read_l1
    rw [List.append_nil] at h1
    subst h1
    have : a = P := by rw [← h2]; simp [prodI]
    subst this
    rw [show (netD g xs).nodes.length = xs.length by simp [netD], lt_nat, decide_eq_false (by omega), cond_false]
    simp
  | n + 1, xs, y :: ys, a, h1, h2, h3 => by
    unfold net_read_l1
    have hl : (netD g ns).nodes.length = ns.length := by simp [netD]
    have hxn : xs.length < ns.length := by rw [← h1]; simp
    have hy : ns[xs.length] = y := by subst h1; simp
    have hyc := hc y (by rw [← h1]; simp)
    have e2 : a * y.c * prodI (ys.map (·.c)) = P := by rw [← h2]; exact Nat.mul_assoc _ _ _
    have hq : 1 ≤ prodI (ys.map (·.c)) := prodI_pos fun c hcm => by
      obtain ⟨z, hz, rfl⟩ := List.mem_map.1 hcm
      exact (hc z (by rw [← h1]; simp [hz])).1
    have hle : a * y.c ≤ P := by rw [← e2]; exact Nat.le_mul_of_pos_right _ hq
    have ih := read_l1 hn hc hP (g := g) n (xs ++ [y]) ys (a * y.c) (by rw [← h1]; simp) e2 (by simp at h3; omega)
    rw [hl, lt_nat, decide_eq_true hxn, cond_true, show getI (netD g ns).nodes (xs.length : Int) = some (nd y) by rw [← hy]; exact nodes_get hxn, Option.bind_some,
      show (nd y).card = (y.c : Int) from rfl, show decide ((y.c : Int) < 1) = false from decide_eq_false (by omega), cond_false, Option.bind_some, show decide ((4 : Int) < (y.c : Int)) = false from decide_eq_false (by omega), cond_false]
    have hxl : ((xs.length : Nat) : Int) = (((xs.map (·.c)).length : Nat) : Int) := by simp
    rw [List.length_cons, List.replicate_succ, hxl, getI_app, Option.bind_some, setI_app, Option.bind_some, ← Int.natCast_mul, w64_nat (by omega), w64_succ (by simp; omega), ← ih]
    simp
theorem read_l3 {g v : Nat} {ns : List NN} {x : S_api_Node} {ps xs ys : List Nat} (hx : x.parents = iL ps) (hn : ns.length ≤ 8) (hv : xs.length = v) (hp : ∀ p ∈ ps, p < ns.length ∧ p ≠ v) (hinc : ps.Pairwise (· < ·)) : ∀ (n i : Nat) (m : Nat) (lo : Int), i ≤ ps.length → m < 18446744073709551616 →
    (∀ p ∈ ps.drop i, lo < (p : Int)) → ps.length - i < n →
    net_read_l3 x (netD g ns) (v : Int) n lo (i : Int) (iL (xs ++ m :: ys)) = some (.go (iL (xs ++ ((ps.drop i).foldl (fun m p => m ||| 2 ^ p) m) :: ys)))
  | 0, _, _, _, _, _, _, h => absurd h (Nat.not_lt_zero _)
  | n + 1, i, m, lo, h1, h2, h4, h3 => by
    have hps : ps.length ≤ 9223372036854775806 ∨ True := .inr trivial
    unfold net_read_l3
    have hl : (netD g ns).nodes.length = ns.length := by simp [netD]
    rw [hx, iL_len, hl]
    by_cases hi : i < ps.length
    · have hd : ps.drop i = ps[i] :: ps.drop (i + 1) := List.drop_eq_getElem_cons hi
      obtain ⟨hp1, hp2⟩ := hp _ (List.getElem_mem hi)
      have hlo := h4 ps[i] (by rw [hd]; exact List.mem_cons_self)
      have hsm : i ≤ ps[i] := by
        have : ∀ (j : Nat) (hj : j < ps.length), j ≤ ps[j] := by
          intro j
          induction j with
          | zero => intro hj; exact Nat.zero_le _
          | succ j ih =>
            intro hj
            have h6 := ih (by omega)
            have h7 := List.pairwise_iff_getElem.1 hinc j (j + 1) (by omega) hj (by omega)
            omega
        exact this i hi
      have hgt : ∀ p ∈ ps.drop (i + 1), ((ps[i] : Nat) : Int) < (p : Int) := by
        intro p hp
        obtain ⟨k, hk, rfl⟩ := List.mem_iff_getElem.1 hp
        rw [List.getElem_drop]
        have := List.pairwise_iff_getElem.1 hinc i (i + 1 + k) hi (by simp at hk; omega) (by omega)
        omega
      have hpw : 2 ^ ps[i] < 18446744073709551616 := Nat.pow_lt_pow_right (n := 64) (by decide) (by omega)
      have hm : m ||| 2 ^ ps[i] < 18446744073709551616 := Nat.or_lt_two_pow (n := 64) h2 hpw
      have ih := read_l3 (g := g) (ys := ys) hx hn hv hp hinc n (i + 1) (m ||| 2 ^ ps[i]) (ps[i] : Int) hi hm hgt (by omega)
      rw [lt_nat, decide_eq_true hi, cond_true, getI_iL hi, Option.bind_some, show decide (((ps[i] : Nat) : Int) ≤ lo) = false from decide_eq_false (by omega), cond_false,
        show decide (((ns.length : Nat) : Int) ≤ ((ps[i] : Nat) : Int)) = false from decide_eq_false (by omega), cond_false, Option.bind_some, show (((ps[i] : Nat) : Int) == (v : Int)) = false by simp; omega, cond_false,
        ← hv, getI_app, Option.bind_some, shlU (by omega), Option.bind_some, orU h2 hpw, setI_app, Option.bind_some, w64_succ (by omega), hv, ih, hd, List.foldl_cons]
    · rw [lt_nat, decide_eq_false hi, cond_false, List.drop_eq_nil_of_le (by omega)]
      rfl
theorem read_l2 {num : List Nat} {g : Nat} {ns : List NN} (h : NetOk num g ns) : ∀ (n : Nat) (xs ys : List NN), xs ++ ys = ns → ys.length < n →
    net_read_l2 (netD g ns) (iL (ns.map (·.c))) n (xs.length : Int) (iL (xs.map (fun x => maskN x.ps) ++ List.replicate ys.length 0)) = some (.go (iL (ns.map fun x => maskN x.ps)))
  | 0, _, _, _, h => absurd h (Nat.not_lt_zero _)
  | n + 1, xs, [], h1, h3 => by
    unfold net_read_l2
    rw [List.append_nil] at h1
    subst h1
    rw [show (netD g xs).nodes.length = xs.length by simp [netD], lt_nat, decide_eq_false (by omega), cond_false]
    simp
  | n + 1, xs, y :: ys, h1, h3 => by
    unfold net_read_l2
    have hl : (netD g ns).nodes.length = ns.length := by simp [netD]
    have hxn : xs.length < ns.length := by rw [← h1]; simp
    have hn := h.n2
    have hy : ns[xs.length] = y := by subst h1; simp
    have hyg : ns[xs.length]? = some y := by rw [List.getElem?_eq_getElem hxn, hy]
    obtain ⟨j, hj⟩ := List.getElem?_of_mem (h.perm.all _ hxn)
    have hnode := h.node j _ y hj hyg
    have hcl : (ns.map (·.c)).length = ns.length := by simp
    have hlt : ∀ p ∈ y.ps, p < ns.length ∧ p ≠ xs.length := fun p hp => ⟨by rw [← hcl]; exact hnode.par.lt p hp, by
      obtain ⟨k, hk, hkp⟩ := hnode.par.mem p hp
      exact nod_ne h.perm.nod hkp hj (by omega)⟩
    have hcs : ∀ p ∈ y.ps, 1 ≤ (ns.map (·.c)).getD p 0 ∧ (ns.map (·.c)).getD p 0 ≤ 4 := by
      intro p hp
      have hp1 := (hlt p hp).1
      have := h.card ns[p] (List.getElem_mem hp1)
      simpa [hp1] using this
    have hpl := hnode.par.len
    have hprod : prodI (y.ps.map fun p => (ns.map (·.c)).getD p 0) ≤ 4 ^ 3 := by
      refine Nat.le_trans (prodI_le (m := 4) (by omega) fun x hx => ?_) ?_
      · obtain ⟨p, hp, rfl⟩ := List.mem_map.1 hx
        exact (hcs p hp).2
      · rw [List.length_map]
        exact Nat.pow_le_pow_right (by decide) hpl
    have hyc := h.card y (by rw [← h1]; simp)
    have ih := read_l2 h n (xs ++ [y]) ys (by rw [← h1]; simp) (by simp at h3; omega)
    have e3 := read_l3 (g := g) (ns := ns) (x := nd y) (xs := xs.map fun x => maskN x.ps) (ys := List.replicate ys.length 0) (v := xs.length) rfl hn (by simp) hlt hnode.par.inc (y.ps.length + 2) 0 0 (-1) (Nat.zero_le _) (by decide) (fun p hp => by omega) (by omega)
    rw [show ((0 : Nat) : Int) = 0 from rfl, List.drop_zero] at e3
    have e4 := filled_ok (g := g) (cs := ns.map (·.c)) (nodes := ns.map nd) (sets := iL (xs.map (fun x => maskN x.ps) ++ maskN y.ps :: List.replicate ys.length 0)) (order := []) (x := y) h.g2 (by rw [hcl]; exact fun p hp => (hlt p hp).1) (by omega) (fun p hp => (hcs p hp).1) (by omega) (Nat.le_trans hprod (by decide)) hnode.rows
    rw [hl, lt_nat, decide_eq_true hxn, cond_true, show getI (netD g ns).nodes (xs.length : Int) = some (nd y) by rw [← hy]; exact nodes_get hxn, Option.bind_some, List.length_cons, List.replicate_succ,
      show (nd y).parents.length = y.ps.length by simp [nd, iL_len], fuel_nat, e3, Option.bind_some]
    simp only []
    rw [show (y.ps.foldl (fun m p => m ||| 2 ^ p) 0) = maskN y.ps from rfl]
    rw [show netD g ns = ⟨(g : Int), ns.map nd⟩ from rfl] at ih ⊢
    rw [e4, Option.bind_some, cond_true, w64_succ (by omega), ← ih]
    simp
end Go.Dc
namespace Go.Dc
open Go Go.Mx Go.Lx
set_option linter.unusedSimpArgs false
set_option linter.unusedVariables false
/-- A place that is not yet placed, and whose parents are. -/
def Ready (ms : List Nat) (mask v : Nat) : Prop := mask.testBit v = false ∧ Sub (ms.getD v 0) mask
structure First (ms : List Nat) (mask v : Nat) : Prop where
  lt : v < ms.length
  ready : Ready ms mask v
  least : ∀ u, u < v → ¬ Ready ms mask u
/-- Every place of the order is the first that is ready. -/
def Greedy (ms os : List Nat) : Prop := ∀ k v, os[k]? = some v → First ms (maskN (os.take k)) v
theorem Greedy.app {ms os : List Nat} {v : Nat} (h : Greedy ms os) (hv : First ms (maskN os) v) : Greedy ms (os ++ [v]) := by
  intro k u hk
  by_cases hl : k < os.length
  · rw [List.getElem?_append_left hl] at hk
    rw [List.take_append_of_le_length (by omega)]
    exact h k u hk
  · have hk2 : k = os.length := by
      have := (List.getElem?_eq_some_iff.1 hk).1
      simp at this
      omega
    subst hk2
    have hu : u = v := by simpa using hk.symm
    subst hu
    simpa using hv
theorem Greedy.nod {ms os : List Nat} (h : Greedy ms os) : os.Nodup := by
  rw [List.Nodup, List.pairwise_iff_getElem]
  intro i j hi hj hij he
  have h1 := (h j os[j] (List.getElem?_eq_getElem hj)).ready.1
  rw [mask_bit] at h1
  have : os[j] ∈ os.take j := by
    rw [← he]
    exact List.mem_take_iff_getElem.2 ⟨i, by omega, rfl⟩
  simp [this] at h1
theorem Greedy.lt {ms os : List Nat} (h : Greedy ms os) : ∀ x ∈ os, x < ms.length := by
  intro x hx
  obtain ⟨k, hk⟩ := List.getElem?_of_mem hx
  exact (h k x hk).lt
theorem nod_le : ∀ {xs ys : List Nat}, xs.Nodup → (∀ x ∈ xs, x ∈ ys) → xs.length ≤ ys.length
  | [], _, _, _ => Nat.zero_le _
  | x :: xs, ys, h, hs => by
    obtain ⟨h1, h2⟩ := List.nodup_cons.1 h
    have hx := hs x List.mem_cons_self
    have ih := nod_le (xs := xs) (ys := ys.erase x) h2 fun y hy => (List.mem_erase_of_ne (fun q : y = x => h1 (by rw [← q]; exact hy))).2 (hs y (List.mem_cons_of_mem _ hy))
    rw [List.length_erase_of_mem hx] at ih
    have := List.length_pos_of_mem hx
    simp only [List.length_cons]
    omega
theorem first_of {ms : List Nat} {mask : Nat} : ∀ v, v < ms.length → Ready ms mask v → ∃ u, First ms mask u := by
  intro v
  induction v using Nat.strongRecOn with
  | ind v ih =>
    intro hv hr
    by_cases h : ∃ u, u < v ∧ Ready ms mask u
    · obtain ⟨u, hu, hur⟩ := h
      exact ih u hu (by omega) hur
    · exact ⟨v, hv, hr, fun u hu hur => h ⟨u, hu, hur⟩⟩
def masksOf (ns : List NN) : List Nat := ns.map fun x => maskN x.ps
theorem NetOk.par_lt {num : List Nat} {g : Nat} {ns : List NN} (h : NetOk num g ns) {x : NN} (hx : x ∈ ns) : ∀ p ∈ x.ps, p < ns.length := by
  intro p hp
  obtain ⟨v, hv⟩ := List.getElem?_of_mem hx
  obtain ⟨j, hj⟩ := List.getElem?_of_mem (h.perm.all v (List.getElem?_eq_some_iff.1 hv).1)
  have := (h.node j v x hj hv).par.lt p hp
  simpa using this
theorem NetOk.mask_lt {num : List Nat} {g : Nat} {ns : List NN} (h : NetOk num g ns) : ∀ m ∈ masksOf ns, m < 18446744073709551616 := by
  intro m hm
  obtain ⟨x, hx, rfl⟩ := List.mem_map.1 hm
  refine Go.Dc.mask_lt fun p hp => ?_
  have := h.par_lt hx p hp
  have := h.n2
  omega
theorem NetOk.ready {num : List Nat} {g : Nat} {ns : List NN} (h : NetOk num g ns) (os : List Nat) : ∀ (j v : Nat), num[j]? = some v → v ∉ os → ∃ u, u < ns.length ∧ Ready (masksOf ns) (maskN os) u := by
  intro j
  induction j using Nat.strongRecOn with
  | ind j ih =>
    intro v hj hv
    have hvl : v < ns.length := h.perm.lt v (List.mem_of_getElem? hj)
    have hnode := h.node j v ns[v] hj (List.getElem?_eq_getElem hvl)
    by_cases hp : ∃ p, p ∈ ns[v].ps ∧ p ∉ os
    · obtain ⟨p, hp1, hp2⟩ := hp
      obtain ⟨k, hk, hkp⟩ := hnode.par.mem p hp1
      exact ih k hk p hkp hp2
    · refine ⟨v, hvl, by rw [mask_bit]; simp [hv], fun i hi => ?_⟩
      rw [show (masksOf ns).getD v 0 = maskN ns[v].ps by simp [masksOf, hvl], mask_bit] at hi
      rw [mask_bit]
      have hi2 := of_decide_eq_true hi
      refine decide_eq_true ?_
      exact Classical.byContradiction fun hno => hp ⟨i, hi2, hno⟩
theorem NetOk.next {num : List Nat} {g : Nat} {ns : List NN} (h : NetOk num g ns) {os : List Nat} (hl : os.length < ns.length) : ∃ v, First (masksOf ns) (maskN os) v := by
  by_cases hs : ∀ x ∈ num, x ∈ os
  · have := nod_le h.perm.nod hs
    rw [h.perm.len] at this
    omega
  · have : ∃ x, x ∈ num ∧ x ∉ os := Classical.byContradiction fun hno => hs fun x hx => Classical.byContradiction fun hx2 => hno ⟨x, hx, hx2⟩
    obtain ⟨x, hx, hxo⟩ := this
    obtain ⟨j, hj⟩ := List.getElem?_of_mem hx
    obtain ⟨u, hu, hr⟩ := h.ready os j x hj hxo
    exact first_of u (by simpa [masksOf] using hu) hr
/-- The question whether a place is ready, as it is asked. -/
theorem ready_ask {ms : List Nat} {mask i : Nat} {β : Type} (hm : ∀ m ∈ ms, m < 18446744073709551616) (hk : mask < 18446744073709551616) (hi : i < ms.length) (h64 : i < 64) (l : β) :
    ∃ b : Bool, (b = true ↔ Ready ms mask i) ∧ ((shrI .u64 (mask : Int) (i : Int)).bind fun q7 => bif ((andI .u64 q7 1) == 0) then some (((notI .u64 ((ms[i] : Nat) : Int) (mask : Int)) == 0), l) else some (false, l)) = some (b, l) ∧
      ((shrI .u64 (mask : Int) (i : Int)).bind fun q7 => bif ((andI .u64 q7 1) == 0) then some ((notI .u64 ((ms[i] : Nat) : Int) (mask : Int)) == 0) else some false) = some b := by
  obtain ⟨q, h1, h2⟩ := askU (a := mask) (v := i) hk h64
  have hmi := hm _ (List.getElem_mem hi)
  have hg : ms.getD i 0 = ms[i] := by simp [hi]
  simp only [h1, Option.bind_some, h2, notU]
  cases hb : mask.testBit i with
  | true => exact ⟨false, by simp [Ready, hb], rfl, rfl⟩
  | false =>
    refine ⟨(((diff ms[i] mask : Nat) : Int) == 0), ?_, rfl, rfl⟩
    rw [Ready, hb, hg, ← diff_zero hmi hk]
    simp
theorem sorted_l2 {ms os : List Nat} {mask C v : Nat} (hn : ms.length ≤ 8) (hm : ∀ m ∈ ms, m < 18446744073709551616) (hk : mask < 18446744073709551616) (hC : os.length + 1 ≤ C) (hv : First ms mask v) : ∀ (n i : Nat), i ≤ v → v - i < n →
    net_sorted_l2 (iL ms) (mask : Int) C n (i : Int) (iL os) = some (.brk (((mask ||| 2 ^ v : Nat) : Int), iL (os ++ [v])))
  | 0, _, _, h => absurd h (Nat.not_lt_zero _)
  | n + 1, i, h1, h3 => by
    unfold net_sorted_l2
    have hvl := hv.lt
    have hi : i < ms.length := by omega
    obtain ⟨b, hb, e, _⟩ := ready_ask hm hk hi (by omega) (iL os)
    rw [iL_len, lt_nat, decide_eq_true hi, cond_true, getI_iL hi, Option.bind_some, e, Option.bind_some]
    simp only []
    by_cases hiv : i = v
    · subst hiv
      have hpw : 2 ^ i < 18446744073709551616 := Nat.pow_lt_pow_right (n := 64) (by decide) (by omega)
      rw [hb.2 hv.ready, cond_true]
      unfold roomI
      rw [if_pos (by simp [iL_len]; omega), Option.bind_some, shlU (by omega), Option.bind_some, orU hk hpw]
      simp [iL]
    · have : b = false := by
        cases b with
        | false => rfl
        | true => exact absurd (hb.1 rfl) (hv.least i (by omega))
      rw [this, cond_false, w64_succ (by omega), sorted_l2 hn hm hk hC hv n (i + 1) (by omega) (by omega)]
theorem sorted_l1 {num : List Nat} {g : Nat} {ns : List NN} (h : NetOk num g ns) : ∀ (n : Nat) (os : List Nat), Greedy (masksOf ns) os → os.length ≤ ns.length → ns.length - os.length < n →
    ∃ os', Greedy (masksOf ns) os' ∧ os'.length = ns.length ∧ net_sorted_l1 (iL (masksOf ns)) ns.length n ((maskN os : Nat) : Int) (iL os) = some (.go (iL os'))
  | 0, _, _, _, h => absurd h (Nat.not_lt_zero _)
  | n + 1, os, h1, h2, h3 => by
    unfold net_sorted_l1
    have hml : (masksOf ns).length = ns.length := by simp [masksOf]
    have hn := h.n2
    rw [iL_len, iL_len, hml, lt_nat]
    by_cases hl : os.length < ns.length
    · obtain ⟨v, hv⟩ := h.next hl
      have hvl := hv.lt
      have hk : maskN os < 18446744073709551616 := Go.Dc.mask_lt fun x hx => by
        have := h1.lt x hx
        omega
      have e := sorted_l2 (os := os) (C := ns.length) (by omega) h.mask_lt hk (by omega) hv (ns.length + 2) 0 (Nat.zero_le _) (by omega)
      rw [show ((0 : Nat) : Int) = 0 from rfl] at e
      obtain ⟨os', g1, g2, g3⟩ := sorted_l1 h n (os ++ [v]) (h1.app hv) (by simp; omega) (by simp; omega)
      refine ⟨os', g1, g2, ?_⟩
      rw [decide_eq_true hl, cond_true, fuel_nat, e, Option.bind_some]
      simp only []
      rw [← mask_app, g3]
    · exact ⟨os, h1, by omega, by rw [decide_eq_false hl, cond_false]⟩
theorem sorted_ok {num : List Nat} {g : Nat} {ns : List NN} (h : NetOk num g ns) :
    ∃ os, Greedy (masksOf ns) os ∧ os.length = ns.length ∧ net_sorted_s (iL (masksOf ns)) = some (iL os, true) := by
  have hml : (masksOf ns).length = ns.length := by simp [masksOf]
  have hn := h.n2
  obtain ⟨os, g1, g2, g3⟩ := sorted_l1 h (ns.length + 2) [] (fun k v hk => by simp at hk) (Nat.zero_le _) (by simp)
  refine ⟨os, g1, g2, ?_⟩
  unfold net_sorted_s
  rw [iL_len, hml]
  have hcap : capI 8 ((ns.length : Nat) : Int) = some ns.length := by
    unfold capI
    rw [if_pos ⟨Int.natCast_nonneg _, by simp only [maxBytes]; omega⟩, Int.toNat_natCast]
  rw [hcap, Option.bind_some, show (((ns.length : Nat) : Int) - ((([] : List Int).length : Nat) : Int) + 2).toNat = ns.length + 2 by simp; omega]
  rw [show ((maskN [] : Nat) : Int) = 0 from rfl, show iL [] = [] from rfl] at g3
  rw [g3, Option.bind_some]
theorem read_ok {num : List Nat} {g : Nat} {ns : List NN} (h : NetOk num g ns) :
    ∃ os, Greedy (masksOf ns) os ∧ os.length = ns.length ∧ net_read_s (netD g ns) = some (⟨netD g ns, iL (ns.map (·.c)), iL (masksOf ns), iL os⟩, 0) := by
  obtain ⟨os, g1, g2, g3⟩ := sorted_ok h
  refine ⟨os, g1, g2, ?_⟩
  have h1 := h.g1
  have h2 := h.g2
  have h3 := h.n1
  have h4 := h.n2
  have hl : (netD g ns).nodes.length = ns.length := by simp [netD]
  have hp := h.prod
  have e1 := read_l1 (g := g) (P := prodI (ns.map (·.c))) h.n2 h.card (by omega) (ns.length + 2) [] ns 1 rfl (Nat.one_mul _) (by omega)
  have e2 := read_l2 h (ns.length + 2) [] ns rfl (by omega)
  simp only [List.map_nil, List.nil_append, List.length_nil] at e1 e2
  rw [show ((0 : Nat) : Int) = 0 from rfl] at e1 e2
  rw [show ((1 : Nat) : Int) = 1 from rfl] at e1
  have hz : List.replicate ns.length (0 : Int) = iL (List.replicate ns.length 0) := by simp [iL]
  unfold net_read_s
  rw [hl, show (netD g ns).grain = (g : Int) from rfl, show decide ((g : Int) < 1) = false from decide_eq_false (by omega), cond_false, show decide ((60 : Int) < (g : Int)) = false from decide_eq_false (by omega), cond_false,
    show decide (((ns.length : Nat) : Int) < 1) = false from decide_eq_false (by omega), cond_false, Option.bind_some, show decide ((8 : Int) < ((ns.length : Nat) : Int)) = false from decide_eq_false (by omega), cond_false,
    make_ok (by omega), Option.bind_some, Option.bind_some, fuel_nat, hz, e1, Option.bind_some]
  simp only []
  rw [show decide ((1024 : Int) < ((prodI (ns.map (·.c)) : Nat) : Int)) = false from decide_eq_false (by omega), cond_false, e2, Option.bind_some]
  simp only []
  rw [show (ns.map fun x => maskN x.ps) = masksOf ns from rfl, g3, Option.bind_some]
  simp only []
  rw [cond_true]
end Go.Dc
namespace Go.Dc
open Go Go.Mx Go.Lx
set_option linter.unusedSimpArgs false
set_option linter.unusedVariables false
inductive Reach (ms : List Nat) : Nat → Nat → Prop
  | refl (i : Nat) : Reach ms i i
  | step {s p i : Nat} : (ms.getD s 0).testBit p = true → Reach ms p i → Reach ms s i
/-- Edges that lead down in a rank. -/
structure GOk (ms : List Nat) (rk : Nat → Nat) : Prop where
  len : ms.length ≤ 8
  lt : ∀ m ∈ ms, m < 18446744073709551616
  down : ∀ v p, (ms.getD v 0).testBit p = true → p < ms.length ∧ rk p < rk v
structure VOk (ms : List Nat) (set r0 r : Nat) : Prop where
  lt : r < 18446744073709551616
  keep : Sub r0 r
  has : Sub set r
  clo : ∀ i, r.testBit i = true → r0.testBit i = false → Sub (ms.getD i 0) r
  reach : ∀ i, r.testBit i = true → r0.testBit i = true ∨ ∃ s, set.testBit s = true ∧ Reach ms s i
theorem or_bit {a v i : Nat} : (a ||| 2 ^ v).testBit i = (a.testBit i || decide (v = i)) := by
  rw [Nat.testBit_or, Nat.testBit_two_pow]
theorem visit_loop {ms : List Nat} {rk : Nat → Nat} (hg : GOk ms rk) {again : Int → Int → Option Int} {set r0 : Nat} (hset : set < 18446744073709551616) (hin : ∀ s, set.testBit s = true → s < ms.length)
    (ha : ∀ (v : Nat) (r : Nat), set.testBit v = true → r < 18446744073709551616 → ∃ r2 : Nat, again ((ms.getD v 0 : Nat) : Int) (r : Int) = some (r2 : Int) ∧ VOk ms (ms.getD v 0) r r2) : ∀ (n v r : Nat), r < 18446744073709551616 → Sub r0 r →
    (∀ s, s < v → set.testBit s = true → r.testBit s = true) → (∀ i, r.testBit i = true → r0.testBit i = false → Sub (ms.getD i 0) r) →
    (∀ i, r.testBit i = true → r0.testBit i = true ∨ ∃ s, set.testBit s = true ∧ Reach ms s i) → ms.length - v < n → v ≤ ms.length →
    ∃ r' : Nat, visit_l (iL ms) again (set : Int) n (v : Int) (r : Int) = some (r' : Int) ∧ VOk ms set r0 r'
  | 0, _, _, _, _, _, _, _, h, _ => absurd h (Nat.not_lt_zero _)
  | n + 1, v, r, h1, h2, h3, h4, h5, h6, h7 => by
    have hlen := hg.len
    unfold visit_l
    rw [iL_len, lt_nat]
    by_cases hv : v < ms.length
    · obtain ⟨q, q1, q2⟩ := askU (a := diff set r) (v := v) (diff_lt _ _) (by omega)
      rw [decide_eq_true hv, cond_true, notU, q1, Option.bind_some, q2, diff_bit hset h1]
      have hpw : 2 ^ v < 18446744073709551616 := Nat.pow_lt_pow_right (n := 64) (by decide) (by omega)
      by_cases hb : (set.testBit v && !r.testBit v) = true
      · have hb1 : set.testBit v = true ∧ r.testBit v = false := by simpa using hb
        obtain ⟨r2, e, hr2⟩ := ha v (r ||| 2 ^ v) hb1.1 (Nat.or_lt_two_pow (n := 64) h1 hpw)
        have hk : Sub r r2 := fun i hi => hr2.keep i (by rw [or_bit, hi]; rfl)
        have hvr : r2.testBit v = true := hr2.keep v (by rw [or_bit]; simp)
        obtain ⟨r', f1, f2⟩ := visit_loop hg hset hin ha (r0 := r0) n (v + 1) r2 hr2.lt (fun i hi => hk i (h2 i hi))
          (fun s hs hss => by
            by_cases hsv : s = v
            · subst hsv; exact hvr
            · exact hk s (h3 s (by omega) hss))
          (fun i hi hi0 => by
            by_cases hri : r.testBit i = true
            · exact fun p hp => hk p (h4 i hri hi0 p hp)
            · by_cases hiv : v = i
              · subst hiv; exact hr2.has
              · exact hr2.clo i hi (by rw [or_bit]; simp [hri, hiv]))
          (fun i hi => by
            rcases hr2.reach i hi with h | ⟨s, hs, hr⟩
            · rw [or_bit] at h
              rcases Bool.or_eq_true_iff.1 h with h | h
              · exact h5 i h
              · have := of_decide_eq_true h
                subst this
                exact .inr ⟨v, hb1.1, .refl v⟩
            · exact .inr ⟨v, hb1.1, .step hs hr⟩) (by omega) hv
        refine ⟨r', ?_, f2⟩
        rw [hb, show ((((true : Bool).toNat : Nat) : Int) == 1) = true from rfl, cond_true, shlU (by omega), Option.bind_some, getI_iL hv, Option.bind_some, orU h1 hpw,
          show ms[v] = ms.getD v 0 by simp [hv], e, Option.bind_some, w64_succ (by omega), f1]
      · have hb' : (set.testBit v && !r.testBit v) = false := by simpa using hb
        obtain ⟨r', f1, f2⟩ := visit_loop hg hset hin ha (r0 := r0) n (v + 1) r h1 h2
          (fun s hs hss => by
            by_cases hsv : s = v
            · subst hsv
              cases hr : r.testBit s with
              | true => rfl
              | false => rw [hss, hr] at hb'; cases hb'
            · exact h3 s (by omega) hss) h4 h5 (by omega) hv
        refine ⟨r', ?_, f2⟩
        rw [hb', show ((((false : Bool).toNat : Nat) : Int) == 1) = false from rfl, cond_false, w64_succ (by omega), f1]
    · refine ⟨r, by rw [decide_eq_false hv, cond_false], h1, h2, fun s hs => h3 s (by have := hin s hs; omega) hs, h4, h5⟩
theorem visit_reach {ms : List Nat} {rk : Nat → Nat} (hg : GOk ms rk) : ∀ (N set r : Nat), set < 18446744073709551616 → r < 18446744073709551616 → 1 ≤ N → (∀ s, set.testBit s = true → s < ms.length ∧ rk s + 2 ≤ N) →
    ∃ r' : Nat, visit_s (iL ms) N (set : Int) (r : Int) = some (r' : Int) ∧ VOk ms set r r'
  | 0, _, _, _, _, h, _ => absurd h (by omega)
  | N + 1, set, r, h1, h2, h3, h4 => by
    unfold visit_s
    rw [iL_len]
    have := visit_loop hg (again := visit_s (iL ms) N) (set := set) (r0 := r) h1 (fun s hs => (h4 s hs).1) (fun v r1 hv hr1 => by
      have h5 := (h4 v hv)
      refine visit_reach hg N (ms.getD v 0) r1 ?_ hr1 (by omega) fun p hp => ?_
      · rw [show ms.getD v 0 = ms[v]'h5.1 by simp [h5.1]]
        exact hg.lt _ (List.getElem_mem _)
      · have := hg.down v p hp
        exact ⟨this.1, by omega⟩) (ms.length + 2) 0 r h2 (fun i hi => hi) (fun s hs => absurd hs (Nat.not_lt_zero _)) (fun i hi hi0 => by rw [hi] at hi0; cases hi0) (fun i hi => .inl hi) (by omega) (Nat.zero_le _)
    exact this
theorem reach_in {ms : List Nat} {c s i : Nat} (h : Reach ms s i) (hs : c.testBit s = true) (hc : ∀ i, c.testBit i = true → Sub (ms.getD i 0) c) : c.testBit i = true := by
  induction h with
  | refl i => exact hs
  | step h1 h2 ih => exact ih (hc _ hs _ h1)
/-- The closure: all that is reached. -/
theorem closure_ok {ms : List Nat} {rk : Nat → Nat} (hg : GOk ms rk) (hrk : ∀ v, v < ms.length → rk v ≤ 8) {N set : Nat} (hN : 10 ≤ N) (h1 : set < 18446744073709551616) (h2 : ∀ s, set.testBit s = true → s < ms.length) :
    ∃ r' : Nat, net_closure_s N (iL ms) (set : Int) = some (r' : Int) ∧ r' < 18446744073709551616 ∧ ∀ i, r'.testBit i = true ↔ ∃ s, set.testBit s = true ∧ Reach ms s i := by
  obtain ⟨r', e, h⟩ := visit_reach hg N set 0 h1 (by decide) (by omega) fun s hs => ⟨h2 s hs, by have := hrk s (h2 s hs); omega⟩
  refine ⟨r', e, h.lt, fun i => ⟨fun hi => ?_, fun ⟨s, hs, hr⟩ => ?_⟩⟩
  · rcases h.reach i hi with h0 | h0
    · simp at h0
    · exact h0
  · exact reach_in hr (h.has s hs) fun j hj => h.clo j hj (by simp)
/-- A set that holds its parents is its own closure. -/
theorem closure_self {ms : List Nat} {rk : Nat → Nat} (hg : GOk ms rk) (hrk : ∀ v, v < ms.length → rk v ≤ 8) {N set : Nat} (hN : 10 ≤ N) (h1 : set < 18446744073709551616) (h2 : ∀ s, set.testBit s = true → s < ms.length) (h3 : ∀ i, set.testBit i = true → Sub (ms.getD i 0) set) :
    net_closure_s N (iL ms) (set : Int) = some (set : Int) := by
  obtain ⟨r', e, hl, h⟩ := closure_ok hg hrk hN h1 h2
  rw [e]
  congr 2
  apply Nat.eq_of_testBit_eq
  intro i
  apply Bool.eq_iff_iff.2
  rw [h]
  exact ⟨fun ⟨s, hs, hr⟩ => reach_in hr hs h3, fun hi => ⟨i, hi, .refl i⟩⟩
/-- The rank of a place is its place in the order. -/
theorem NetOk.gok {num : List Nat} {g : Nat} {ns : List NN} (h : NetOk num g ns) : GOk (masksOf ns) (fun v => num.idxOf v) ∧ ∀ v, v < (masksOf ns).length → num.idxOf v ≤ 8 := by
  have hml : (masksOf ns).length = ns.length := by simp [masksOf]
  have hn := h.n2
  have hidx : ∀ (j v : Nat), num[j]? = some v → num.idxOf v = j := by
    intro j v hj
    have hmem : v ∈ num := List.mem_of_getElem? hj
    have hlt := List.idxOf_lt_length_iff.2 hmem
    have hget : num[num.idxOf v]? = some v := by rw [List.getElem?_eq_getElem hlt]; simp
    refine Classical.byContradiction fun hne => ?_
    exact nod_ne h.perm.nod hget hj hne rfl
  refine ⟨⟨by omega, h.mask_lt, fun v p hp => ?_⟩, fun v hv => ?_⟩
  · by_cases hv : v < ns.length
    · rw [show (masksOf ns).getD v 0 = maskN ns[v].ps by simp [masksOf, hv], mask_bit] at hp
      have hp := of_decide_eq_true hp
      obtain ⟨j, hj⟩ := List.getElem?_of_mem (h.perm.all v hv)
      have hnode := h.node j v ns[v] hj (List.getElem?_eq_getElem hv)
      obtain ⟨k, hk, hkp⟩ := hnode.par.mem p hp
      refine ⟨by rw [hml]; exact h.par_lt (List.getElem_mem hv) p hp, ?_⟩
      show num.idxOf p < num.idxOf v
      rw [hidx j v hj, hidx k p hkp]
      exact hk
    · rw [show (masksOf ns).getD v 0 = 0 by simp [masksOf, hv]] at hp
      simp at hp
  · have hlt := List.idxOf_lt_length_iff.2 (h.perm.all v (by omega))
    rw [h.perm.len] at hlt
    omega
theorem anc_ok {num : List Nat} {g : Nat} {ns : List NN} (h : NetOk num g ns) {N set : Nat} (hN : 10 ≤ N) (h2 : ∀ s, set.testBit s = true → s < ns.length) (h1 : set < 2 ^ ns.length) :
    ∃ r : Nat, net_Ancestors_s N (netD g ns) (set : Int) = some ((r : Int), 0) ∧ r < 18446744073709551616 ∧ net_closure_s N (iL (masksOf ns)) (set : Int) = some (r : Int) ∧ ∀ i, r.testBit i = true ↔ ∃ s, set.testBit s = true ∧ Reach (masksOf ns) s i := by
  have hml : (masksOf ns).length = ns.length := by simp [masksOf]
  have hn := h.n2
  obtain ⟨hg, hrk⟩ := h.gok
  have h64 : set < 18446744073709551616 := Nat.lt_of_lt_of_le h1 (Nat.pow_le_pow_right (n := 2) (by decide) (show ns.length ≤ 64 by omega))
  obtain ⟨r, e, hr, hi⟩ := closure_ok hg hrk hN h64 fun s hs => by rw [hml]; exact h2 s hs
  obtain ⟨os, _, _, e2⟩ := read_ok h
  refine ⟨r, ?_, hr, e, hi⟩
  unfold net_Ancestors_s
  rw [e2, Option.bind_some]
  simp only []
  rw [show ((0 : Int) == 0) = true from rfl, cond_true, show (netD g ns).nodes.length = ns.length by simp [netD], shrU (by omega), Option.bind_some,
    show set >>> ns.length = 0 by rw [Nat.shiftRight_eq_div_pow]; exact Nat.div_eq_of_lt h1, show (((0 : Nat) : Int) == 0) = true from rfl, cond_true, e, Option.bind_some]
end Go.Dc
namespace Go.Dc
open Go Go.Mx Go.Lx
set_option linter.unusedSimpArgs false
set_option linter.unusedVariables false
theorem stands_l2 {ms : List Nat} {mask v : Nat} {e : Int} (hn : ms.length ≤ 8) (hm : ∀ m ∈ ms, m < 18446744073709551616) (hk : mask < 18446744073709551616) (hv : First ms mask v) : ∀ (n i : Nat), i ≤ v + 1 → v + 1 - i < n →
    l05_NetStands_l2 (v : Int) (mask : Int) (iL ms, e) n (i : Int) = some (.go ())
  | 0, _, _, h => absurd h (Nat.not_lt_zero _)
  | n + 1, i, h1, h3 => by
    unfold l05_NetStands_l2
    have hvl := hv.lt
    rw [w64_succ (by omega), lt_nat]
    by_cases hi : i < v + 1
    · have hil : i < ms.length := by omega
      obtain ⟨b, hb, _, e2⟩ := ready_ask hm hk hil (by omega) ()
      have ih := stands_l2 (e := e) hn hm hk hv n (i + 1) (by omega) (by omega)
      rw [decide_eq_true hi, cond_true]
      simp only [getI_iL hil, Option.bind_some]
      rw [e2, Option.bind_some, w64_succ (by omega), ih]
      by_cases hiv : i = v
      · subst hiv
        rw [hb.2 hv.ready, cond_true, show ((i : Int) == (i : Int)) = true by simp, cond_true]
      · have hbf : b = false := by
          cases b with
          | false => rfl
          | true => exact absurd (hb.1 rfl) (hv.least i (by omega))
        rw [hbf, cond_false, show ((i : Int) == (v : Int)) = false by simp; omega, cond_false]
    · rw [decide_eq_false hi, cond_false]
theorem mask_pow {n : Nat} (hn : n ≤ 64) {xs : List Nat} (h : ∀ x ∈ xs, x < n) : maskN xs < 2 ^ n := by
  have : ∀ (xs : List Nat) (m : Nat), m < 2 ^ n → (∀ x ∈ xs, x < n) → xs.foldl (fun m p => m ||| 2 ^ p) m < 2 ^ n := by
    intro xs
    induction xs with
    | nil => intro m hm _; exact hm
    | cons x xs ih =>
      intro m hm hx
      exact ih _ (Nat.or_lt_two_pow hm (Nat.pow_lt_pow_right (by decide) (hx x List.mem_cons_self))) fun y hy => hx y (List.mem_cons_of_mem _ hy)
  exact this xs 0 (Nat.two_pow_pos n) h
/-- What is placed holds its parents. -/
theorem Greedy.closed {ms os : List Nat} (h : Greedy ms os) (k : Nat) : ∀ i, (maskN (os.take k)).testBit i = true → Sub (ms.getD i 0) (maskN (os.take k)) := by
  intro i hi p hp
  rw [mask_bit] at hi
  have hi := of_decide_eq_true hi
  obtain ⟨j, hj, rfl⟩ := List.mem_take_iff_getElem.1 hi
  have hjl : j < os.length := by omega
  have := (h j os[j] (List.getElem?_eq_getElem hjl)).ready.2 p hp
  rw [mask_bit] at this ⊢
  have h2 := of_decide_eq_true this
  refine decide_eq_true ?_
  obtain ⟨l, hl, rfl⟩ := List.mem_take_iff_getElem.1 h2
  exact List.mem_take_iff_getElem.2 ⟨l, by omega, rfl⟩
theorem stands_l1 {num os : List Nat} {g N : Nat} {ns : List NN} (h : NetOk num g ns) (hN : 10 ≤ N) (ho : Greedy (masksOf ns) os) (hl : os.length = ns.length) : ∀ (n k : Nat), k ≤ os.length → os.length - k < n →
    l05_NetStands_l1 N (iL os, 0) (iL (masksOf ns), 0) (netD g ns) n ((maskN (os.take k) : Nat) : Int) (k : Int) = some (.go ())
  | 0, _, _, h => absurd h (Nat.not_lt_zero _)
  | n + 1, k, h1, h3 => by
    have hml : (masksOf ns).length = ns.length := by simp [masksOf]
    have hn := h.n2
    unfold l05_NetStands_l1
    rw [iL_len, lt_nat]
    by_cases hk : k < os.length
    · have hf := ho k os[k] (List.getElem?_eq_getElem hk)
      have hlt := hf.lt
      have hmem : ∀ x ∈ os.take k, x < ns.length := fun x hx => by rw [← hml]; exact ho.lt x (List.mem_of_mem_take hx)
      have hmk : maskN (os.take k) < 18446744073709551616 := Go.Dc.mask_lt fun x hx => by have := hmem x hx; omega
      obtain ⟨q, q1, q2⟩ := askU (a := maskN (os.take k)) (v := os[k]) hmk (by omega)
      obtain ⟨hg, hrk⟩ := h.gok
      have hbits : ∀ s, (maskN (os.take k)).testBit s = true → s < ns.length := fun s hs => by
        rw [mask_bit] at hs
        exact hmem s (of_decide_eq_true hs)
      obtain ⟨r, e1, hr, e2, _⟩ := anc_ok h hN hbits (mask_pow (by omega) hmem)
      have e3 := closure_self hg hrk hN hmk (fun s hs => by rw [hml]; exact hbits s hs) (ho.closed k)
      have hrm : r = maskN (os.take k) := by
        have := e2.symm.trans e3
        have := Option.some.inj this
        omega
      have hl2 := stands_l2 (e := 0) (by omega) h.mask_lt hmk hf (os[k] + 3) 0 (Nat.zero_le _) (by omega)
      have hpw : 2 ^ os[k] < 18446744073709551616 := Nat.pow_lt_pow_right (n := 64) (by decide) (by omega)
      have ih := stands_l1 h hN ho hl n (k + 1) hk (by omega)
      rw [show ((0 : Nat) : Int) = 0 from rfl] at hl2
      rw [decide_eq_true hk, cond_true, getI_iL hk, Option.bind_some, show decide (((os[k] : Nat) : Int) < 0) = false from decide_eq_false (by omega), cond_false, iL_len, hml,
        show decide (((ns.length : Nat) : Int) ≤ ((os[k] : Nat) : Int)) = false from decide_eq_false (by omega), cond_false, q1, Option.bind_some, q2, hf.ready.1, show ((((false : Bool).toNat : Nat) : Int) == 1) = false from rfl, Option.bind_some, cond_false,
        w64_succ (by omega), show (((os[k] + 1 : Nat) : Int) - 0 + 2).toNat = os[k] + 3 by omega, hl2, Option.bind_some]
      simp only []
      rw [e1, Option.bind_some]
      simp only []
      rw [show ((0 : Int) == 0) = true from rfl, cond_true, hrm, show (!(((maskN (os.take k) : Nat) : Int) == ((maskN (os.take k) : Nat) : Int))) = false by simp, Option.bind_some, cond_false, shlU (by omega), Option.bind_some,
        orU hmk hpw, w64_succ (by omega), ← ih, List.take_add_one, List.getElem?_eq_getElem hk]
      simp only [Option.toList_some]
      rw [mask_app]
    · rw [decide_eq_false hk, cond_false]
theorem stands_holds {d : DraftN} (hd : DraftOk d) : l05_NetStands_s 1025 (draftD d) = some true := by
  obtain ⟨num, ns, h, _, e⟩ := draft_ok hd (N := 1025) (Nat.le_refl _)
  obtain ⟨os, g1, g2, e2⟩ := read_ok h
  have hml : (masksOf ns).length = ns.length := by simp [masksOf]
  unfold l05_NetStands_s works_s
  rw [Option.bind_some, cond_true, e, Option.bind_some]
  rw [show (⟨((1 + d.grain % 60 : Nat) : Int), ns.map nd⟩ : S_api_Net) = netD (1 + d.grain % 60) ns from rfl]
  unfold net_Order_s net_Parents_s
  rw [e2, Option.bind_some, Option.bind_some, Option.bind_some, Option.bind_some]
  simp only []
  have e3 := stands_l1 h (N := 1025) (by decide) g1 g2 (os.length + 2) 0 (Nat.zero_le _) (by omega)
  rw [show ((0 : Nat) : Int) = 0 from rfl, List.take_zero, show ((maskN [] : Nat) : Int) = 0 from rfl] at e3
  rw [show ((0 : Int) == 0) = true from rfl, cond_true, iL_len, iL_len, show (netD (1 + d.grain % 60) ns).nodes.length = ns.length by simp [netD], g2, hml, show (((ns.length : Nat) : Int) == ((ns.length : Nat) : Int)) = true by simp, cond_true, cond_true, Option.bind_some, Bool.not_true, cond_false]
  rw [← g2, fuel_nat, e3, Option.bind_some]
end Go.Dc
