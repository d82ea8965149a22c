/- cmp.Compare[int64], and the comparator of rank.Order. -/
import Derived.Test.YtfegaffcalpmbaaStWalk6
import Derived.Test.YtfegaffcalpmbaaPlaces
import Derived.Below
namespace Go.Proofs.Ytfegaffcalpmbaa.St
open Go.Proofs Go.Shelf Go.RowKit Go.Lib Go.Sort

set_option maxRecDepth 1000000 in
theorem isNaN_calls (x : Int) (w : World) : Calls Try.prog 55 #[.int .i64 x] w fun e w' => e = .returned (.bool false) ∧ ∃ q os, w' = grow (w.drewN q) os := by
  have h : (x != x) = false := by rw [bne_eq_false_iff_eq]
  go_enter Try.func55, Try.ntmps55
  go_wp2
  refine bodyPost_ret (results_tmp rfl _ _ _) rfl ?_
  exact ⟨rfl, 0, #[], by rw [grow_empty]; rfl⟩

set_option maxRecDepth 1000000 in
theorem compare_calls (x y : Int) (w : World) : Calls Try.prog 42 #[.int .i64 x, .int .i64 y] w fun e w' => e = .returned (.int .i64 (cmpI x y)) ∧ ∃ q os, w' = grow (w.drewN q) os := by
  go_enter Try.func42, Try.ntmps42
  go_wp2_with fail
  ((with_reducible refine (isNaN_calls x _).mono ?_))
  rintro e' w1 ⟨rfl, q1, os1, rfl⟩
  go_wp2_with fail
  ((with_reducible refine (isNaN_calls y _).mono ?_))
  rintro e' w2 ⟨rfl, q2, os2, rfl⟩
  have hg : grow ((grow (w.drewN q1) os1).drewN q2) os2 = grow (w.drewN (q1 + q2)) (os1 ++ os2) := by
    show grow (grow ((w.drewN q1).drewN q2) os1) os2 = _
    rw [grow_grow, World.drewN_drewN]
  have k1 : x < y → cmpI x y = -1 := fun h => by rw [cmpI, if_pos h]
  have k2 : y < x → cmpI x y = 1 := fun h => by rw [cmpI, if_neg (by omega), if_pos h]
  have k3 : ¬ x < y → ¬ y < x → cmpI x y = 0 := fun h h' => by rw [cmpI, if_neg h, if_neg h']
  by_cases h1 : x < y
  · have K : Hid (cmpI x y = -1) := k1 h1
    clear k1 k2 k3
    go_wp2
    refine bodyPost_ret (results_tmp rfl _ _ _) rfl ?_
    exact ⟨by rw [K.out]; rfl, _, _, rfl⟩
  · by_cases h2 : y < x
    · have K : Hid (cmpI x y = 1) := k2 h2
      clear k1 k2 k3
      go_wp2
      refine bodyPost_ret (results_tmp rfl _ _ _) rfl ?_
      exact ⟨by rw [K.out]; rfl, _, _, rfl⟩
    · have K : Hid (cmpI x y = 0) := k3 h1 h2
      clear k1 k2 k3
      go_wp2
      refine bodyPost_ret (results_tmp rfl _ _ _) rfl ?_
      exact ⟨by rw [K.out]; rfl, _, _, rfl⟩

set_option maxRecDepth 1000000 in
/-- rank.Order's comparator: b's number against a's. -/
theorem order1_calls (lb : Nat) (ad : Addr) (n c : Nat) (i j : Nat) (x y : Int) (w : World) (hb : w.cell? ⟨lb, 0, none⟩ = some (.slice (some ad) n c)) (hi : i < n) (hj : j < n)
    (hx : w.cell? (ad.add i) = some (.int .i64 x)) (hy : w.cell? (ad.add j) = some (.int .i64 y)) :
    Calls Try.prog 41 (#[.int .i64 i, .int .i64 j] ++ #[.pointer (some ⟨lb, 0, none⟩)]) w fun e w' => e = .returned (.int .i64 (cmpI y x)) ∧ ∃ q os, w' = grow (w.drewN q) os := by
  show Calls Try.prog 41 #[.int .i64 i, .int .i64 j, .pointer (some ⟨lb, 0, none⟩)] w _
  have mixed : Try.prog.follows .mixedOrders = true := by kernel_rfl
  have lt : ∀ (a : Addr) v, w.cell? a = some v → a.block < w.heap.size := by
    intro a v h
    unfold World.cell? at h
    rcases Nat.lt_or_ge a.block w.heap.size with h2 | h2
    · exact h2
    · rw [Array.getElem?_eq_none h2] at h; cases h
  have g0 : ∀ (a : Addr) v, w.cell? a = some v → ∀ n os, (grow (w.drewN n) os).cell? a = some v := by
    intro a v h n os
    rw [cell?_grow (w.drewN n) os a (lt a v h)]
    exact h
  have la := g0 _ _ hb
  have lx := g0 _ _ hx
  have ly := g0 _ _ hy
  have pi : (0 : Int) ≤ (i : Int) := by omega
  have pj : (0 : Int) ≤ (j : Int) := by omega
  have bi : (i : Int) < (n : Int) := by omega
  have bj : (j : Int) < (n : Int) := by omega
  clear g0 lt hb hx hy
  go_enter Try.func41, Try.ntmps41
  go_wp2
  go_quiet_grown (refine Calls.grown_of (compare_calls y x _))
  clear la lx ly
  go_wp2
  refine bodyPost_ret (results_tmp rfl _ _ _) rfl ?_
  exact ⟨rfl, _, _, rfl⟩
end Go.Proofs.Ytfegaffcalpmbaa.St
