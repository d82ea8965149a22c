/- what bump does, and what rank.Share's top places are. -/
import Derived.Test.YthmckhfjaleomaaMRank
namespace Go.Proofs.Ythmckhfjaleomaa.Pure
set_option linter.unusedSimpArgs false
set_option linter.unusedVariables false
set_option linter.unusedSectionVars false
open Go.Proofs.Ythmckhfjaleomaa.St

theorem getD_set (xs : List Int) (n j : Nat) (v : Int) (hn : n < xs.length) : (xs.set n v).getD j 0 = if n = j then v else xs.getD j 0 := by
  rw [List.getD_eq_getElem?_getD, List.getElem?_set, List.getD_eq_getElem?_getD]
  by_cases c : n = j
  · subst c; rw [if_pos rfl, if_pos rfl, if_pos hn]; rfl
  · rw [if_neg c, if_neg c]
theorem sum_set : ∀ (xs : List Int) (n : Nat) (v : Int), n < xs.length → (xs.set n v).sum = xs.sum - xs.getD n 0 + v
  | [], n, v, h => by simp at h
  | x :: r, 0, v, h => by
    show (v :: r).sum = (x :: r).sum - x + v
    rw [List.sum_cons, List.sum_cons]; omega
  | x :: r, n + 1, v, h => by
    show (x :: r.set n v).sum = (x :: r).sum - r.getD n 0 + v
    rw [List.sum_cons, List.sum_cons, sum_set r n v (by simpa using h)]; omega
theorem bump_get : ∀ (ns : List Nat) (xs : List Int) (j : Nat), ns.Nodup → (∀ n ∈ ns, n < xs.length) → (bump xs (ns.map fun x : Nat => (x : Int))).getD j 0 = xs.getD j 0 + if j ∈ ns then 1 else 0
  | [], xs, j, h, hr => by simp [bump]
  | n :: r, xs, j, h, hr => by
    rw [List.nodup_cons] at h
    have hn := hr n List.mem_cons_self
    show (bump (xs.set ((n : Nat) : Int).toNat (xs.getD ((n : Nat) : Int).toNat 0 + 1)) (r.map fun x : Nat => (x : Int))).getD j 0 = _
    rw [Int.toNat_natCast, bump_get r _ j h.2 (fun m hm => by rw [List.length_set]; exact hr m (List.mem_cons_of_mem _ hm)), getD_set _ _ _ _ hn]
    by_cases c : n = j
    · subst c
      rw [if_pos rfl, if_neg h.1, if_pos List.mem_cons_self]
      omega
    · rw [if_neg c]
      by_cases c2 : j ∈ r
      · rw [if_pos c2, if_pos (List.mem_cons_of_mem _ c2)]
      · rw [if_neg c2, if_neg (by
          intro hm
          rcases List.mem_cons.1 hm with e | e
          · exact c e.symm
          · exact c2 e)]
theorem bump_sum : ∀ (ns : List Nat) (xs : List Int), (∀ n ∈ ns, n < xs.length) → (bump xs (ns.map fun x : Nat => (x : Int))).sum = xs.sum + ns.length
  | [], xs, hr => by simp [bump]
  | n :: r, xs, hr => by
    have hn := hr n List.mem_cons_self
    show (bump (xs.set ((n : Nat) : Int).toNat (xs.getD ((n : Nat) : Int).toNat 0 + 1)) (r.map fun x : Nat => (x : Int))).sum = _
    rw [Int.toNat_natCast, bump_sum r _ (fun m hm => by rw [List.length_set]; exact hr m (List.mem_cons_of_mem _ hm)), sum_set _ _ _ hn, List.length_cons]
    omega

/-- the places that get one more. -/
def tops (l : List Int) (t all : Int) : List Nat := (orderN (rests l t all)).take (missing l t all).toNat
theorem tops_eq (l : List Int) (t all : Int) : (orderL (rests l t all)).take (missing l t all).toNat = (tops l t all).map fun x : Nat => (x : Int) := by
  unfold tops
  rw [orderL_eq, List.map_take]
section
variable {l : List Int} {t all : Int} (h : ShareOk l t all)
include h
theorem rests_len : (rests l t all).length = l.length := by unfold rests; rw [List.length_map]
theorem quos_len : (quos l t all).length = l.length := by unfold quos; rw [List.length_map]
theorem tops_lt : ∀ x ∈ tops l t all, x < l.length := by
  intro x hx
  have := (orderN_mem _ _).1 (List.mem_of_mem_take hx)
  rw [rests_len h] at this
  exact this
theorem tops_nodup : (tops l t all).Nodup := (orderN_nodup _).sublist (List.take_sublist _ _)
theorem tops_len : ((tops l t all).length : Int) = missing l t all := by
  obtain ⟨_, m1, m2, _⟩ := h.miss
  unfold tops
  rw [List.length_take, orderN_length, rests_len h]
  omega
theorem tops_up {i k : Nat} (hi : i ∈ tops l t all) (hk : k < l.length) (ha : Ahead (rests l t all) k i) : k ∈ tops l t all := by
  have hm : k ∈ orderN (rests l t all) := (orderN_mem _ _).2 (by rw [rests_len h]; exact hk)
  have hp := (orderN_spec (rests l t all)).2
  rw [← List.take_append_drop (missing l t all).toNat (orderN (rests l t all))] at hm hp
  rcases List.mem_append.1 hm with c | c
  · exact c
  · have := (List.pairwise_append.1 hp).2.2 i hi k c
    exact (Ahead.irrefl _ _ (Ahead.trans _ _ _ _ ha this)).elim
theorem rests_range (i : Nat) (hi : i < l.length) : 0 ≤ (rests l t all).getD i 0 ∧ (rests l t all).getD i 0 < all := by
  rw [rests_get h i hi]
  have := h.quo _ (getD_mem l i hi)
  omega
theorem tops_pos {i : Nat} (hi : i ∈ tops l t all) : (rests l t all).getD i 0 ≠ 0 := by
  intro h0
  obtain ⟨m0, m1, m2, _⟩ := h.miss
  have hr := orderN_spec (rests l t all)
  have hsum : (rests l t all).sum = ((orderN (rests l t all)).map fun x => (rests l t all).getD x 0).sum := by
    have e : ((List.range (rests l t all).length).map fun x => (rests l t all).getD x 0) = rests l t all := by
      apply List.ext_getElem
      · simp
      · intro i h1 h2
        simp [List.getD_eq_getElem?_getD, List.getElem?_eq_getElem h2]
    rw [perm_sum (hr.1.map fun x => (rests l t all).getD x 0), e]
  have hp := hr.2
  have hms := h.pos
  rw [← List.take_append_drop (missing l t all).toNat (orderN (rests l t all))] at hp hsum
  rw [List.map_append, List.sum_append] at hsum
  have d0 : (((orderN (rests l t all)).drop (missing l t all).toNat).map fun x => (rests l t all).getD x 0).sum ≤ 0 := by
    have := sum_le 0 (Int.le_refl _) (l := ((orderN (rests l t all)).drop (missing l t all).toNat).map fun x => (rests l t all).getD x 0) (by
      intro v hv
      obtain ⟨x, hx, rfl⟩ := List.mem_map.1 hv
      have := (List.pairwise_append.1 hp).2.2 i hi x hx
      unfold Ahead at this
      omega)
    omega
  have d1 : ((tops l t all).map fun x => (rests l t all).getD x 0).sum ≤ (all - 1) * missing l t all := by
    have := sum_le (all - 1) (by omega) (l := (tops l t all).map fun x => (rests l t all).getD x 0) (by
      intro v hv
      obtain ⟨x, hx, rfl⟩ := List.mem_map.1 hv
      have := rests_range h x (tops_lt h x hx)
      omega)
    rw [List.length_map, tops_len h] at this
    exact this
  have d2 : 0 < missing l t all := by
    have := tops_len h
    have := List.length_pos_of_mem hi
    omega
  have d3 : (all - 1) * missing l t all = all * missing l t all - missing l t all := by rw [Int.sub_mul, Int.one_mul]
  unfold tops at d1
  omega
end
/-- the shares, where there are any. -/
theorem share_ok {l : List Int} {t : Int} (he : (shareL l t).2 = 0) : ∃ all, all = (sumL l).1 ∧ ShareOk l t all ∧ (shareL l t).1 = bump (quos l t all) ((tops l t all).map fun x : Nat => (x : Int)) := by
  unfold shareL at he ⊢
  split at he
  · cases he
  · rename_i c
    split at he
    · rename_i c2
      exact (c2 he).elim
    · rename_i c2
      have hs : (sumL l).2 = 0 := Decidable.byContradiction c2
      refine ⟨_, rfl, shareOk hs c, ?_⟩
      rw [if_neg c, if_neg c2, tops_eq]
theorem share_err {l : List Int} {t : Int} (he : (shareL l t).2 ≠ 0) : (shareL l t).1 = [] := by
  unfold shareL at he ⊢
  split
  · rfl
  · rename_i c
    rw [if_neg c] at he
    split
    · rfl
    · rename_i c2
      rw [if_neg c2] at he
      exact (he rfl).elim
end Go.Proofs.Ythmckhfjaleomaa.Pure
