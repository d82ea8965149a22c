/- A queue: which of two elements is ahead (cmp.Compare, compare), and where one belongs (slices.BinarySearchFunc). -/
import Derived.Sort.Walk0
import Derived.Sort.Grow
import Derived.Shelf.SlSortCmp.QuietGrown
import Derived.WideShapes
import Derived.Lib.Strings
import Derived.Sort.LoopGhostIn
import Derived.Test.YtgolghimefageaaQWA
namespace Go.Proofs.Ytgolghimefageaa.QW
open Go.Proofs Go.RowKit Go.Shelf Go.Lib Go.Sort Go.Maps Go.Proofs.YtgolghimefageaaW.PrintWords Go.Proofs.YtgolghimefageaaW.PrintLast Go.Proofs.YtgolghimefageaaW.PrintMore Go.Proofs.Ytgolghimefageaa.St
theorem klt_trans {a b c : Int} (h1 : klt a b = true) (h2 : klt b c = true) : klt a c = true := by
  unfold klt at *
  rw [decide_eq_true_eq] at *
  omega
theorem klt_irrefl (a : Int) : klt a a = false := by
  unfold klt
  rw [decide_eq_false_iff_not]
  omega
theorem klt_total (a b : Int) : klt a b = true ∨ a = b ∨ klt b a = true := by
  unfold klt
  rw [decide_eq_true_eq, decide_eq_true_eq]
  omega
/-- What cmp.Compare says. -/
def cmpK (a b : Int) : Int := if klt a b then -1 else if klt b a then 1 else 0
def cmpN (a b : Int) : Int := if a < b then -1 else if b < a then 1 else 0
/-- What compare says. -/
def cmpE (x y : El) : Int := if cmpK x.k y.k = 0 then cmpN x.came y.came else cmpK x.k y.k
theorem cmpK_neg {a b : Int} : cmpK a b < 0 ↔ klt a b = true := by
  unfold cmpK
  by_cases h : klt a b = true
  · rw [if_pos h]; simp [h]
  · rw [if_neg h]
    by_cases h2 : klt b a = true
    · rw [if_pos h2]; simp [h]
    · rw [if_neg h2]; simp [h]
theorem cmpK_zero {a b : Int} : cmpK a b = 0 ↔ a = b := by
  unfold cmpK
  constructor
  · intro h
    rcases klt_total a b with h1 | h1 | h1
    · rw [if_pos h1] at h; omega
    · exact h1
    · by_cases h2 : klt a b = true
      · rw [if_pos h2] at h; omega
      · rw [if_neg h2, if_pos h1] at h; omega
  · rintro rfl
    rw [klt_irrefl]
    rfl
theorem cmpE_neg {x y : El} : cmpE x y < 0 ↔ Ahead x y := by
  unfold cmpE Ahead
  by_cases h : cmpK x.k y.k = 0
  · rw [if_pos h]
    have e := cmpK_zero.1 h
    rw [e, klt_irrefl]
    unfold cmpN
    constructor
    · intro h1
      refine .inr ⟨rfl, ?_⟩
      split at h1
      · assumption
      · split at h1 <;> omega
    · rintro (h1 | ⟨_, h1⟩)
      · cases h1
      · rw [if_pos h1]; omega
  · rw [if_neg h, cmpK_neg]
    constructor
    · exact .inl
    · rintro (h1 | ⟨h1, _⟩)
      · exact h1
      · exact absurd (cmpK_zero.2 h1) h
theorem ahead_trans {x y z : El} (h1 : Ahead x y) (h2 : Ahead y z) : Ahead x z := by
  unfold Ahead at *
  rcases h1 with h1 | ⟨h1, h1'⟩
  · rcases h2 with h2 | ⟨h2, h2'⟩
    · exact .inl (klt_trans h1 h2)
    · rw [h2] at h1; exact .inl h1
  · rcases h2 with h2 | ⟨h2, h2'⟩
    · rw [h1]; exact .inl h2
    · exact .inr ⟨h1.trans h2, by omega⟩
set_option maxRecDepth 100000 in
theorem isNaN_calls (x : Int) (w : World) : Calls Try.prog 59 #[(.int .i64 x)] w fun e w' => e = .returned (.bool false) ∧ ∃ q os, w' = grow (w.drewN q) os := by
  have h : (x != x) = false := by rw [bne_eq_false_iff_eq]
  go_enter Try.func59, Try.ntmps59
  go_wp2
  refine bodyPost_ret (results_tmp rfl _ _ _) rfl ?_
  exact ⟨rfl, 0, #[], by rw [grow_empty]; rfl⟩
theorem gtr_i (a b : Int) : decide (a > b) = klt b a := rfl
theorem lss_i (a b : Int) : decide (a < b) = klt a b := rfl
set_option maxRecDepth 100000 in
theorem cmpk_calls (x y : Int) (w : World) : Calls Try.prog 68 #[(.int .i64 x), (.int .i64 y)] w fun e w' => e = .returned (.int .i64 (cmpK x y)) ∧ ∃ q os, w' = grow (w.drewN q) os := by
  obtain ⟨t1, e1⟩ : ∃ t, t = klt x y := ⟨_, rfl⟩
  obtain ⟨t2, e2⟩ : ∃ t, t = klt y x := ⟨_, rfl⟩
  have HC : Hid (cmpK x y = if t1 then -1 else if t2 then 1 else 0) := by show _ = _; rw [e1, e2]; rfl
  have k1 : decide (x < y) = t1 := by rw [e1]; rfl
  have k2 : decide (y < x) = t2 := by rw [e2]; rfl
  clear e1 e2
  go_enter Try.func68, Try.ntmps68
  go_wp2_with fail
  ((with_reducible refine (isNaN_calls x _).mono ?_))
  rintro e' w1 ⟨rfl, q1, os1, rfl⟩
  go_wp2_with fail
  ((with_reducible refine (isNaN_calls y _).mono ?_))
  rintro e' w2 ⟨rfl, q2, os2, rfl⟩
  have hg : grow ((grow (w.drewN q1) os1).drewN q2) os2 = grow (w.drewN (q1 + q2)) (os1 ++ os2) := by
    show grow (grow ((w.drewN q1).drewN q2) os1) os2 = _
    rw [grow_grow, World.drewN_drewN]
  cases t1 with
  | true =>
    go_wp2
    refine bodyPost_ret (results_tmp rfl _ _ _) rfl ?_
    exact ⟨by rw [HC.out]; rfl, _, _, rfl⟩
  | false =>
    cases t2 with
    | true =>
      go_wp2
      refine bodyPost_ret (results_tmp rfl _ _ _) rfl ?_
      exact ⟨by rw [HC.out]; rfl, _, _, rfl⟩
    | false =>
      go_wp2
      refine bodyPost_ret (results_tmp rfl _ _ _) rfl ?_
      exact ⟨by rw [HC.out]; rfl, _, _, rfl⟩
end Go.Proofs.Ytgolghimefageaa.QW
