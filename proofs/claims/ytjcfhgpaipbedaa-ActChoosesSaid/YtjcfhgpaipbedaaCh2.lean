/- What act.Choose answers, in plain Lean. -/
import Derived.Test.YtjcfhgpaipbedaaOrder
import Derived.Test.YtjcfhgpaipbedaaAct2
namespace Go.Proofs.Ytjcfhgpaipbedaa.Pure
set_option linter.unusedVariables false
open Go.RowKit Go.Proofs.YtjcfhgpaipbedaaW.PrintWords Go.Proofs.YtjcfhgpaipbedaaW.PrintLast Go.Proofs.YtjcfhgpaipbedaaW.PrintMore Go.Proofs.Ytjcfhgpaipbedaa.A Go.Proofs.Ytjcfhgpaipbedaa.St
theorem expY_bounds (t : Int) (ht : 0 ≤ t ∧ t < 65536) : 0 ≤ expY t ∧ expY t ≤ 2147483648 := by
  obtain ⟨_, _, h1, h2⟩ := step_bounds 241400000 84941200 t 84941200 (by omega) ht
  obtain ⟨_, _, h3, h4⟩ := step_bounds 747400624 (stepF 241400000 84941200 t) t 326341200 (by omega) ht
  obtain ⟨_, _, h5, h6⟩ := step_bounds 1073741824 (stepF 747400624 (stepF 241400000 84941200 t) t) t 1073741824 (by omega) ht
  unfold expY
  omega
theorem expF_bounds (x : Int) : 0 ≤ expF x ∧ expF x ≤ 2147483648 := by
  unfold expF
  split
  · omega
  · have h := expY_bounds (min x 0 % 65536) (by omega)
    have hp : (0 : Int) < 2 ^ (-(min x 0 / 65536)).toNat := Int.pow_pos (by omega)
    refine ⟨Int.ediv_nonneg h.1 (Int.le_of_lt hp), ?_⟩
    exact Int.le_trans (Int.ediv_le_self _ h.1) h.2
theorem expF_zero : expF 0 = 1073741824 := by decide +kernel
/-- The powers of the scores, at the places o. -/
def powL (s : List Int) (o : List Int) : List Int := o.map fun p => expF (wrap64 (256 * wrap64 (s.getD p.toNat 0 - s.getD (o.getD 0 0).toNat 0)))
def quoL (P : List Int) : List Int := P.map fun x => Int.tdiv (65536 * x) P.sum
/-- A whole of 65536 shared, the first has what is missing. -/
def wholeL (P : List Int) : List Int := (quoL P).set 0 ((quoL P).getD 0 0 + (65536 - (quoL P).sum))
/-- act.Choose. -/
def chooseL (r h : List Int) (s k : Int) : List Int × List Int × Int :=
  if (timesL r h.length h).2 ≠ 0 then ([], [], (timesL r h.length h).2)
  else if (scaleL (timesL r h.length h).1 s).2 ≠ 0 then ([], [], (scaleL (timesL r h.length h).1 s).2)
  else if k < 1 ∨ k > ((scaleL (timesL r h.length h).1 s).1.length : Int) then ([], [], 121)
  else ((orderL (scaleL (timesL r h.length h).1 s).1).take k.toNat, wholeL (powL (scaleL (timesL r h.length h).1 s).1 ((orderL (scaleL (timesL r h.length h).1 s).1).take k.toNat)), 0)
theorem orderL_len (l : List Int) : (orderL l).length = l.length := by rw [orderL_eq, List.length_map, orderN_length]
theorem orderL_at (l : List Int) (j : Nat) (h : j < l.length) : 0 ≤ (orderL l).getD j 0 ∧ (orderL l).getD j 0 < (l.length : Int) := by
  rw [orderL_eq, List.getD_eq_getElem?_getD, List.getElem?_map, List.getElem?_eq_getElem (by rw [orderN_length]; exact h)]
  have hm : (orderN l)[j]'(by rw [orderN_length]; exact h) < l.length := by
    have := (orderN_spec l).1.mem_iff.1 (List.getElem_mem (by rw [orderN_length]; exact h))
    exact List.mem_range.1 this
  simp only [Option.map_some, Option.getD_some]
  omega
theorem pow_bounds (s o : List Int) : ∀ x ∈ powL s o, 0 ≤ x ∧ x ≤ 2147483648 := by
  intro x hx
  obtain ⟨p, _, rfl⟩ := List.mem_map.1 hx
  exact expF_bounds _
theorem sum_bounds (P : List Int) (h : ∀ x ∈ P, 0 ≤ x ∧ x ≤ 2147483648) : 0 ≤ P.sum ∧ P.sum ≤ 2147483648 * (P.length : Int) := by
  induction P with
  | nil => simp
  | cons a P ih =>
    have h1 := h a List.mem_cons_self
    have h2 := ih (fun x hx => h x (List.mem_cons_of_mem _ hx))
    rw [List.sum_cons, List.length_cons]
    omega
theorem pow_head (s : List Int) (p : Int) (o : List Int) : (powL s (p :: o)).sum = 1073741824 + (o.map fun q => expF (wrap64 (256 * wrap64 (s.getD q.toNat 0 - s.getD p.toNat 0)))).sum := by
  unfold powL
  rw [List.map_cons, List.sum_cons]
  congr 1
  show expF (wrap64 (256 * wrap64 (s.getD p.toNat 0 - s.getD p.toNat 0))) = _
  rw [Int.sub_self, show wrap64 (256 * wrap64 0) = 0 by unfold wrap64; omega]
  exact expF_zero
theorem pow_sum (s o : List Int) (ho : o ≠ []) : 1073741824 ≤ (powL s o).sum := by
  cases o with
  | nil => exact absurd rfl ho
  | cons p o =>
    rw [pow_head]
    have := (sum_bounds (o.map fun q => expF (wrap64 (256 * wrap64 (s.getD q.toNat 0 - s.getD p.toNat 0)))) (fun x hx => by obtain ⟨q, _, rfl⟩ := List.mem_map.1 hx; exact expF_bounds _)).1
    omega
theorem quo_le (S : Int) (hS : 0 < S) (P : List Int) (h : ∀ x ∈ P, 0 ≤ x ∧ x ≤ 2147483648) : 0 ≤ (P.map fun x => Int.tdiv (65536 * x) S).sum ∧ (P.map fun x => Int.tdiv (65536 * x) S).sum * S ≤ 65536 * P.sum := by
  induction P with
  | nil => simp
  | cons a P ih =>
    have h1 := h a List.mem_cons_self
    have h2 := ih (fun x hx => h x (List.mem_cons_of_mem _ hx))
    rw [List.map_cons, List.sum_cons, List.sum_cons, Int.add_mul, Int.mul_add]
    have h3 : Int.tdiv (65536 * a) S * S ≤ 65536 * a := by
      rw [Int.tdiv_eq_ediv_of_nonneg (by omega)]
      exact Int.ediv_mul_le _ (by omega)
    have h4 := Int.tdiv_nonneg (show 0 ≤ 65536 * a by omega) (Int.le_of_lt hS)
    omega
theorem take_sum_le (P : List Int) (h : ∀ x ∈ P, 0 ≤ x ∧ x ≤ 2147483648) (i : Nat) : (P.take i).sum ≤ P.sum := by
  have h1 := (sum_bounds (P.drop i) (fun x hx => h x (List.mem_of_mem_drop hx))).1
  have h2 : P.sum = (P.take i).sum + (P.drop i).sum := by rw [← List.sum_append, List.take_append_drop]
  omega
theorem quo_take (P : List Int) (h : ∀ x ∈ P, 0 ≤ x ∧ x ≤ 2147483648) (hs : 0 < P.sum) (i : Nat) : 0 ≤ ((quoL P).take i).sum ∧ ((quoL P).take i).sum ≤ 65536 := by
  have e : (quoL P).take i = (P.take i).map fun x => Int.tdiv (65536 * x) P.sum := by unfold quoL; rw [List.map_take]
  rw [e]
  have h1 := quo_le P.sum hs (P.take i) (fun x hx => h x (List.mem_of_mem_take hx))
  have h2 := take_sum_le P h i
  refine ⟨h1.1, ?_⟩
  have h3 : ((P.take i).map fun x => Int.tdiv (65536 * x) P.sum).sum * P.sum ≤ 65536 * P.sum := Int.le_trans h1.2 (Int.mul_le_mul_of_nonneg_left h2 (by omega))
  exact Int.le_of_mul_le_mul_right h3 hs
theorem set_next (Q P : List Int) (i : Nat) (hQ : i < Q.length) (hP : i < P.length) : (Q.take i ++ P.drop i).set i (Q.getD i 0) = Q.take (i + 1) ++ P.drop (i + 1) := by
  have hl : (Q.take i).length = i := by rw [List.length_take]; omega
  rw [List.set_append_right _ _ (by omega), hl, Nat.sub_self, List.drop_eq_getElem_cons hP, List.set_cons_zero, List.take_succ_eq_append_getElem hQ, List.append_assoc, List.getD_eq_getElem?_getD, List.getElem?_eq_getElem hQ]
  rfl
theorem quo_bounds (P : List Int) (h : ∀ x ∈ P, 0 ≤ x ∧ x ≤ 2147483648) (hs : 1073741824 ≤ P.sum) : ∀ x ∈ quoL P, 0 ≤ x ∧ x ≤ 140737488355328 := by
  intro x hx
  obtain ⟨y, hy, rfl⟩ := List.mem_map.1 hx
  have h1 := h y hy
  rw [Int.tdiv_eq_ediv_of_nonneg (by omega)]
  refine ⟨Int.ediv_nonneg (by omega) (by omega), ?_⟩
  exact Int.le_trans (Int.ediv_le_self _ (by omega)) (by omega)
end Go.Proofs.Ytjcfhgpaipbedaa.Pure
