/- The weights of the chosen: they sum to a whole and never rise. -/
import Derived.Test.YtjcfhgpaipbedaaCh6
namespace Go.Proofs.Ytjcfhgpaipbedaa.Pure
set_option linter.unusedVariables false
open Go.RowKit Go.Proofs.YtjcfhgpaipbedaaW.PrintWords Go.Proofs.YtjcfhgpaipbedaaW.PrintLast Go.Proofs.YtjcfhgpaipbedaaW.PrintMore Go.Proofs.Ytjcfhgpaipbedaa.A Go.Proofs.Ytjcfhgpaipbedaa.St
theorem step_mono (c y y' t t' : Int) (h0 : 0 ≤ y) (hy : y ≤ y') (h1 : 0 ≤ t) (ht : t ≤ t') : stepF c y t ≤ stepF c y' t' := by
  have h2 : y * t ≤ y' * t' := Int.mul_le_mul hy ht h1 (by omega)
  have h3 : 0 ≤ y * t := Int.mul_nonneg h0 h1
  unfold stepF
  rw [Int.tdiv_eq_ediv_of_nonneg h3, Int.tdiv_eq_ediv_of_nonneg (by omega)]
  have := Int.ediv_le_ediv (show (0 : Int) < 65536 by omega) h2
  omega
theorem expY_low (t : Int) (ht : 0 ≤ t ∧ t < 65536) : 1073741824 ≤ expY t := by
  obtain ⟨_, _, h1, h2⟩ := step_bounds 241400000 84941200 t 84941200 (by omega) ht
  obtain ⟨_, _, h3, h4⟩ := step_bounds 747400624 (stepF 241400000 84941200 t) t 326341200 (by omega) ht
  obtain ⟨_, _, h5, h6⟩ := step_bounds 1073741824 (stepF 747400624 (stepF 241400000 84941200 t) t) t 1073741824 (by omega) ht
  unfold expY
  omega
theorem expY_mono (t t' : Int) (h : 0 ≤ t) (h1 : t ≤ t') (h2 : t' < 65536) : expY t ≤ expY t' := by
  obtain ⟨_, _, a1, a2⟩ := step_bounds 241400000 84941200 t 84941200 (by omega) ⟨h, by omega⟩
  obtain ⟨_, _, a3, a4⟩ := step_bounds 747400624 (stepF 241400000 84941200 t) t 326341200 (by omega) ⟨h, by omega⟩
  unfold expY
  exact step_mono _ _ _ _ _ (by omega) (step_mono _ _ _ _ _ (by omega) (step_mono _ _ _ _ _ (by omega) (by omega) h h1) h h1) h h1
theorem expF_mono (x y : Int) (h : x ≤ y) : expF x ≤ expF y := by
  unfold expF
  generalize ha : min x 0 = a
  generalize hb : min y 0 = b
  have hab : a ≤ b := by omega
  have hb0 : b ≤ 0 := by omega
  have hf : a / 65536 ≤ b / 65536 := Int.ediv_le_ediv (by omega) hab
  by_cases c1 : a / 65536 ≤ -31
  · rw [if_pos c1]
    split
    · exact Int.le_refl _
    · exact Int.ediv_nonneg (expY_bounds _ (by omega)).1 (Int.le_of_lt (Int.pow_pos (by omega)))
  · rw [if_neg c1, if_neg (by omega)]
    by_cases c2 : a / 65536 = b / 65536
    · rw [c2]
      exact Int.ediv_le_ediv (Int.pow_pos (by omega)) (expY_mono _ _ (by omega) (by omega) (by omega))
    · obtain ⟨n, hn⟩ : ∃ n, n = (-(b / 65536)).toNat := ⟨_, rfl⟩
      obtain ⟨m, hm⟩ : ∃ m, (-(a / 65536)).toNat = n + 1 + m := ⟨(-(a / 65536)).toNat - (n + 1), by omega⟩
      rw [hm, ← hn]
      have p1 : (0 : Int) < 2 ^ n := Int.pow_pos (by omega)
      have p2 : (0 : Int) < 2 ^ m := Int.pow_pos (by omega)
      have e : (2 : Int) ^ (n + 1 + m) = 2 * 2 ^ n * 2 ^ m := by rw [Int.pow_add, Int.pow_succ]; rw [Int.mul_comm (2 ^ n) 2]
      have h1 := (expY_bounds (a % 65536) (by omega))
      have h2 := expY_low (b % 65536) (by omega)
      rw [e, ← Int.ediv_ediv_of_nonneg (by omega), ← Int.ediv_ediv_of_nonneg (by omega)]
      have h3 : expY (a % 65536) / 2 ≤ expY (b % 65536) := by omega
      have h4 : 0 ≤ expY (a % 65536) / 2 / 2 ^ n := Int.ediv_nonneg (by omega) (Int.le_of_lt p1)
      exact Int.le_trans (Int.ediv_le_self _ h4) (Int.ediv_le_ediv p1 h3)
/-- The scores are within bounds that no sum of theirs goes past. -/
def Low (L : List Int) : Prop := ∀ x ∈ L, -1099511627776 ≤ x ∧ x ≤ 1099511627776
theorem low_at {L : List Int} (h : Low L) (i : Nat) : -1099511627776 ≤ L.getD i 0 ∧ L.getD i 0 ≤ 1099511627776 := by
  rw [List.getD_eq_getElem?_getD]
  rcases Nat.lt_or_ge i L.length with c | c
  · rw [List.getElem?_eq_getElem c]
    exact h _ (List.getElem_mem c)
  · rw [List.getElem?_eq_none c]
    show -1099511627776 ≤ (0 : Int) ∧ (0 : Int) ≤ 1099511627776
    omega
/-- Of two places the earlier one's score is as great. -/
theorem order_falls (L : List Int) (i j : Nat) (hij : i < j) (hj : j < L.length) : L.getD ((orderL L).getD j 0).toNat 0 ≤ L.getD ((orderL L).getD i 0).toNat 0 ∧ (orderL L).getD i 0 ≠ (orderL L).getD j 0 := by
  have hl : (orderN L).length = L.length := orderN_length L
  have h := (List.pairwise_iff_getElem.1 (orderN_spec L).2) i j (by omega) (by omega) hij
  have e : ∀ k (hk : k < L.length), (orderL L).getD k 0 = ((orderN L)[k]'(by omega) : Nat) := fun k hk => by
    rw [orderL_eq, List.getD_eq_getElem?_getD, List.getElem?_map, List.getElem?_eq_getElem (by omega)]
    rfl
  rw [e i (by omega), e j hj, Int.toNat_natCast, Int.toNat_natCast]
  unfold Ahead at h
  refine ⟨by omega, fun e9 => ?_⟩
  have e8 : (orderN L)[i]'(by omega) = (orderN L)[j]'(by omega) := by omega
  rw [e8] at h
  omega
theorem take_getD (l : List Int) (k i : Nat) (h : i < k) : (l.take k).getD i 0 = l.getD i 0 := by rw [List.getD_eq_getElem?_getD, List.getElem?_take_of_lt h, List.getD_eq_getElem?_getD]
theorem pow_falls (L : List Int) (hL : Low L) (kk : Nat) (hk : kk ≤ L.length) (i j : Nat) (hij : i < j) (hj : j < kk) : (powL L ((orderL L).take kk)).getD j 0 ≤ (powL L ((orderL L).take kk)).getD i 0 := by
  have key : ∀ m, m < kk → (powL L ((orderL L).take kk)).getD m 0 = expF (wrap64 (256 * wrap64 (L.getD ((orderL L).getD m 0).toNat 0 - L.getD ((orderL L).getD 0 0).toNat 0))) := fun m hm => by
    have hl : m < ((orderL L).take kk).length := by rw [List.length_take, orderL_len]; omega
    have kf : ∀ (f : Int → Int), (((orderL L).take kk).map f).getD m 0 = f (((orderL L).take kk).getD m 0) := fun f => by
      rw [List.getD_eq_getElem?_getD, List.getElem?_map, List.getD_eq_getElem?_getD, List.getElem?_eq_getElem hl]
      rfl
    unfold powL
    rw [kf, take_getD _ _ _ hm, take_getD _ _ _ (by omega)]
  rw [key i (by omega), key j hj]
  have h1 := (order_falls L i j hij (by omega)).1
  have a := low_at hL ((orderL L).getD i 0).toNat
  have b := low_at hL ((orderL L).getD j 0).toNat
  have c := low_at hL ((orderL L).getD 0 0).toNat
  refine expF_mono _ _ ?_
  unfold wrap64
  omega
theorem sum_bounds2 (P : List Int) (h : ∀ x ∈ P, 0 ≤ x) : 0 ≤ P.sum := by
  induction P with
  | nil => simp
  | cons a P ih =>
    have h1 := h a List.mem_cons_self
    have h2 := ih (fun x hx => h x (List.mem_cons_of_mem _ hx))
    rw [List.sum_cons]
    omega
/-- What the law asks of the weights. -/
structure Fit (P : List Int) : Prop where
  sum : P.sum = 65536
  low : ∀ i, i < P.length → 0 ≤ P.getD i 0 ∧ P.getD i 0 ≤ 65536
  falls : ∀ i, 0 < i → i < P.length → P.getD i 0 ≤ P.getD (i - 1) 0
theorem quo_at (P : List Int) (i : Nat) (h : i < P.length) : (quoL P).getD i 0 = Int.tdiv (65536 * P.getD i 0) P.sum := by
  unfold quoL
  rw [List.getD_eq_getElem?_getD, List.getElem?_map, List.getD_eq_getElem?_getD, List.getElem?_eq_getElem h]
  rfl
theorem set_sum (l : List Int) (u : Int) (h : 0 < l.length) : (l.set 0 u).sum = l.sum - l.getD 0 0 + u := by
  cases l with
  | nil => simp at h
  | cons a l =>
    show (u :: l).sum = (a :: l).sum - a + u
    rw [List.sum_cons, List.sum_cons]
    omega
theorem whole_fit (P : List Int) (hP : ∀ x ∈ P, 0 ≤ x ∧ x ≤ 2147483648) (hs : 0 < P.sum) (hl : 0 < P.length) (hf : ∀ i, 0 < i → i < P.length → P.getD i 0 ≤ P.getD (i - 1) 0) : Fit (wholeL P) := by
  have hq : (quoL P).length = P.length := by unfold quoL; rw [List.length_map]
  have hw : (wholeL P).length = P.length := by unfold wholeL; rw [List.length_set, hq]
  have pos : ∀ i, i < P.length → 0 ≤ P.getD i 0 := fun i hi => by rw [List.getD_eq_getElem?_getD, List.getElem?_eq_getElem hi]; exact (hP _ (List.getElem_mem hi)).1
  have q0 : ∀ i, i < P.length → 0 ≤ (quoL P).getD i 0 := fun i hi => by
    rw [quo_at P i hi]
    exact Int.tdiv_nonneg (by have := pos i hi; omega) (by omega)
  have qf : ∀ i, 0 < i → i < P.length → (quoL P).getD i 0 ≤ (quoL P).getD (i - 1) 0 := fun i h0 hi => by
    rw [quo_at P i hi, quo_at P (i - 1) (by omega), Int.tdiv_eq_ediv_of_nonneg (by have := pos i hi; omega), Int.tdiv_eq_ediv_of_nonneg (by have := pos (i - 1) (by omega); omega)]
    exact Int.ediv_le_ediv hs (by have := hf i h0 hi; omega)
  have hall := quo_take P hP hs P.length
  rw [List.take_of_length_le (by omega)] at hall
  have at0 : (wholeL P).getD 0 0 = (quoL P).getD 0 0 + (65536 - (quoL P).sum) := by
    unfold wholeL
    rw [List.getD_eq_getElem?_getD, List.getElem?_set_self (by omega)]
    rfl
  have atn : ∀ i, 0 < i → (wholeL P).getD i 0 = (quoL P).getD i 0 := fun i h0 => by
    unfold wholeL
    rw [List.getD_eq_getElem?_getD, List.getElem?_set_ne (by omega), List.getD_eq_getElem?_getD]
  have one : ∀ i, i < P.length → (quoL P).getD i 0 ≤ (quoL P).sum := fun i hi => by
    have h1 := quo_take P hP hs i
    have h2 := quo_take P hP hs (i + 1)
    have e1 : (quoL P).sum = ((quoL P).take (i + 1)).sum + ((quoL P).drop (i + 1)).sum := by rw [← List.sum_append, List.take_append_drop]
    have e2 : ((quoL P).take (i + 1)).sum = ((quoL P).take i).sum + (quoL P).getD i 0 := by
      rw [List.take_succ_eq_append_getElem (by omega), List.sum_append, List.sum_singleton, List.getD_eq_getElem?_getD, List.getElem?_eq_getElem (by omega)]
      rfl
    have e3 : 0 ≤ ((quoL P).drop (i + 1)).sum := (sum_bounds2 ((quoL P).drop (i + 1)) (fun x hx => by
      obtain ⟨y, hy, rfl⟩ := List.mem_map.1 (List.mem_of_mem_drop hx)
      exact Int.tdiv_nonneg (by have := (hP y hy).1; omega) (by omega)))
    omega
  refine ⟨?_, fun i hi => ?_, fun i h0 hi => ?_⟩
  · unfold wholeL
    rw [set_sum _ _ (by omega)]
    omega
  · by_cases c : i = 0
    · subst c
      rw [at0]
      have := q0 0 hl
      have := one 0 hl
      omega
    · rw [atn i (by omega)]
      exact ⟨q0 i (by omega), by have := one i (by omega); omega⟩
  · rw [atn i h0]
    by_cases c : i = 1
    · subst c
      rw [show (1 : Nat) - 1 = 0 from rfl, at0]
      have := qf 1 (by omega) (by omega)
      rw [show (1 : Nat) - 1 = 0 from rfl] at this
      omega
    · rw [atn (i - 1) (by omega)]
      exact qf i h0 (by omega)
end Go.Proofs.Ytjcfhgpaipbedaa.Pure
