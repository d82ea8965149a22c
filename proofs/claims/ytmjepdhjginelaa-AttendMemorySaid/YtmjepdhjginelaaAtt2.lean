/- attend and its reference: weights, means, what a head sees. -/
import Derived.Test.YtmjepdhjginelaaAtt1
import Derived.Test.YtmjepdhjginelaaB4
import Derived.Test.YtmjepdhjginelaaB11
namespace Go.Proofs.Ytmjepdhjginelaa.Pure
set_option linter.unusedSimpArgs false
set_option linter.unusedVariables false
set_option linter.unusedSectionVars false
open Go.RowKit Go.Proofs.YtmjepdhjginelaaW.PrintWords Go.Proofs.YtmjepdhjginelaaW.PrintLast Go.Proofs.YtmjepdhjginelaaW.PrintMore Go.Proofs.Ytmjepdhjginelaa.B Go.Proofs.Ytmjepdhjginelaa.St

/-! ### floors -/
theorem tdiv_abs (x d : Int) (hd : 1 ≤ d) : (0 ≤ x → 0 ≤ Int.tdiv x d ∧ Int.tdiv x d ≤ x) ∧ (x < 0 → x ≤ Int.tdiv x d ∧ Int.tdiv x d ≤ 0) := by
  constructor
  · intro h
    rw [Int.tdiv_eq_ediv_of_nonneg h]
    exact ⟨Int.ediv_nonneg h (by omega), Int.ediv_le_self d h⟩
  · intro h
    have e : Int.tdiv x d = -((-x) / d) := by
      rw [← Int.tdiv_eq_ediv_of_nonneg (by omega : 0 ≤ -x), Int.neg_tdiv, Int.neg_neg]
    have h1 := Int.ediv_nonneg (show 0 ≤ -x by omega) (show 0 ≤ d by omega)
    have h2 := Int.ediv_le_self d (show 0 ≤ -x by omega)
    omega
theorem floor_ok (x d : Int) (h1 : -9223372036854775807 ≤ x) (h2 : x ≤ 9223372036854775807) (hd : 1 ≤ d) : ∃ r, fixed_Floor.f x d = some (x / d, r, 0) := by
  unfold fixed_Floor.f
  rw [if_neg (by omega), if_neg (by omega)]
  have ha := tdiv_abs x d hd
  have ht := tmod_bounds x d (by omega)
  have hw : wrap64 (Int.tdiv x d) = Int.tdiv x d := by
    rcases Int.lt_or_le x 0 with c | c
    · have := ha.2 c; exact w64 (by omega) (by omega)
    · have := ha.1 c; exact w64 (by omega) (by omega)
  rw [hw]
  by_cases c : Int.tmod x d < 0
  · rw [if_pos c]
    have e : x / d = Int.tdiv x d - 1 := by
      have e1 : x = (Int.tmod x d + d) + d * (Int.tdiv x d - 1) := by rw [Int.mul_sub, Int.mul_one]; omega
      have e2 : x / d = (Int.tmod x d + d) / d + (Int.tdiv x d - 1) := by
        conv => lhs; rw [e1]
        rw [Int.add_mul_ediv_left _ _ (by omega)]
      rw [e2, Int.ediv_eq_zero_of_lt (by omega) (by omega)]; omega
    have hb : -9223372036854775807 ≤ Int.tdiv x d := by
      rcases Int.lt_or_le x 0 with c | c
      · have := ha.2 c; omega
      · have := ha.1 c; omega
    have hb2 : Int.tdiv x d ≤ 9223372036854775807 := by
      rcases Int.lt_or_le x 0 with c | c
      · have := ha.2 c; omega
      · have := ha.1 c; omega
    rw [w64 (x := Int.tdiv x d - 1) (by omega) (by omega), e]
    exact ⟨_, rfl⟩
  · rw [if_neg c]
    have e : x / d = Int.tdiv x d := by
      have e2 : x / d = Int.tmod x d / d + Int.tdiv x d := by
        conv => lhs; rw [← ht.1, Int.add_comm]
        rw [Int.add_mul_ediv_left _ _ (by omega)]
      rw [e2, Int.ediv_eq_zero_of_lt (by omega) (by omega)]; omega
    rw [e]
    exact ⟨_, rfl⟩
theorem floor_same (x d : Int) : r02_Floor.f x d = fixed_Floor.f x d := rfl

/-! ### powers of two -/
theorem halves : ∀ (d i : Nat) (n c : Int), n - (i : Int) = d → 0 ≤ c → c ≤ 9223372036854775807 → i ≤ 100 → n ≤ 100 → Ev (fun k => r02_Exp2.l0 k n c (i : Int)) (c / 2 ^ d)
  | 0, i, n, c, hd, h0, h1, hi, hn => by
    refine Ev.step (fun k => by rw [r02_Exp2.l0]) (ev_neg (by omega) ?_)
    rw [Int.pow_zero, Int.ediv_one]
    exact Ev.now _
  | d + 1, i, n, c, hd, h0, h1, hi, hn => by
    refine Ev.step (fun k => by rw [r02_Exp2.l0]) (ev_pos (by omega) ?_)
    rw [Int.tdiv_eq_ediv_of_nonneg h0, w64 (by omega) (by omega), w1 i (by omega)]
    have h := halves d (i + 1) n (c / 2) (by omega) (by omega) (by omega) (by omega) hn
    have e : c / 2 ^ (d + 1) = c / 2 / 2 ^ d := by
      rw [Int.pow_succ, Int.mul_comm, Int.ediv_ediv_of_nonneg (by omega)]
    rw [e]
    exact h
theorem floor_m (m : Int) (h0 : m ≤ 0) (h1 : -9223372036854775807 ≤ m) : r02_Floor.f m 65536 = some (m / 65536, m % 65536, 0) := by
  unfold r02_Floor.f
  rw [if_neg (by omega), if_neg (by omega)]
  have ht := tmod_bounds m 65536 (by omega)
  have ha := tdiv_abs m 65536 (by omega)
  have hb : -9223372036854775807 ≤ Int.tdiv m 65536 ∧ Int.tdiv m 65536 ≤ 0 := by
    rcases Int.lt_or_le m 0 with c | c
    · have := ha.2 c; omega
    · have := ha.1 c; omega
  by_cases c : Int.tmod m 65536 < 0
  · have := floor_neg m c
    rw [if_pos c, w64 (x := Int.tdiv m 65536) (by omega) (by omega), w64 (x := Int.tdiv m 65536 - 1) (by omega) (by omega), w64 (x := Int.tmod m 65536 + 65536) (by omega) (by omega), this.1, this.2]
  · have := floor_pos m c
    rw [if_neg c, w64 (x := Int.tdiv m 65536) (by omega) (by omega), this.1, this.2]
theorem exp_ev (x : Int) (h1 : -9223372036854775807 ≤ x) (h2 : x ≤ 9223372036854775807) : Ev (fun k => r02_Exp2.f k x) (expF x) := by
  have hj : ∀ k, r02_Exp2.f k x = r02_Exp2.j0 k (min x 0) := by
    intro k
    unfold r02_Exp2.f
    by_cases c : x > 0
    · rw [if_pos c, Int.min_eq_right (by omega)]
    · rw [if_neg c, Int.min_eq_left (by omega)]
  refine Ev.congr hj (Ev.step (fun k => by rw [r02_Exp2.j0]) (ev_is (floor_m (min x 0) (by omega) (by omega)) ?_))
  unfold expF
  generalize hm : min x 0 = m
  have hm0 : m ≤ 0 := by omega
  have hm1 : -9223372036854775808 ≤ m := by omega
  have hn : wrap64 (-(m / 65536)) = -(m / 65536) := w64 (by omega) (by omega)
  show Ev (fun k => if wrap64 (-(m / 65536)) ≥ 31 then some 0 else r02_Exp2.l0 k (wrap64 (-(m / 65536))) (wrap64 (1073741824 + wrap64 (Int.tdiv (wrap64 (wrap64 (747400624 + wrap64 (Int.tdiv (wrap64 (wrap64 (241400000 + wrap64 (Int.tdiv (wrap64 (84941200 * (m % 65536))) 65536)) * (m % 65536))) 65536)) * (m % 65536))) 65536))) 0) _
  rw [hn]
  by_cases c : m / 65536 ≤ -31
  · rw [if_pos c]
    exact ev_pos (by omega) (Ev.now _)
  · rw [if_neg c]
    refine ev_neg (by omega) ?_
    have ht : 0 ≤ m % 65536 ∧ m % 65536 < 65536 := by omega
    have s1 := step_bounds 241400000 84941200 (m % 65536) 84941200 (by omega) ht
    have s2 := step_bounds 747400624 (stepF 241400000 84941200 (m % 65536)) (m % 65536) 326341200 (by omega) ht
    have s3 := step_bounds 1073741824 (stepF 747400624 (stepF 241400000 84941200 (m % 65536)) (m % 65536)) (m % 65536) 1073741824 (by omega) ht
    have e1 : wrap64 (241400000 + wrap64 (Int.tdiv (wrap64 (84941200 * (m % 65536))) 65536)) = stepF 241400000 84941200 (m % 65536) := by
      have q := s1.2.2
      unfold stepF at q ⊢
      rw [w64 (x := 84941200 * (m % 65536)) (by omega) (by omega), w64 (x := Int.tdiv (84941200 * (m % 65536)) 65536) (by omega) (by omega), w64 (by omega) (by omega)]
    rw [e1]
    have e2 : wrap64 (747400624 + wrap64 (Int.tdiv (wrap64 (stepF 241400000 84941200 (m % 65536) * (m % 65536))) 65536)) = stepF 747400624 (stepF 241400000 84941200 (m % 65536)) (m % 65536) := by
      have q := s2.2.2
      generalize stepF 241400000 84941200 (m % 65536) = y at *
      unfold stepF at q ⊢
      rw [w64 (x := y * (m % 65536)) (by omega) (by omega), w64 (x := Int.tdiv (y * (m % 65536)) 65536) (by omega) (by omega), w64 (by omega) (by omega)]
    rw [e2]
    have e3 : wrap64 (1073741824 + wrap64 (Int.tdiv (wrap64 (stepF 747400624 (stepF 241400000 84941200 (m % 65536)) (m % 65536) * (m % 65536))) 65536)) = expY (m % 65536) := by
      have q := s3.2.2
      unfold expY
      generalize stepF 747400624 (stepF 241400000 84941200 (m % 65536)) (m % 65536) = y at *
      unfold stepF at q ⊢
      rw [w64 (x := y * (m % 65536)) (by omega) (by omega), w64 (x := Int.tdiv (y * (m % 65536)) 65536) (by omega) (by omega), w64 (by omega) (by omega)]
    rw [e3]
    have hy : 1073741824 ≤ expY (m % 65536) ∧ expY (m % 65536) ≤ 2147483648 := by
      have q := s3.2.2
      show _ ≤ stepF _ _ _ ∧ stepF _ _ _ ≤ _
      omega
    obtain ⟨d, hd⟩ : ∃ d : Nat, -(m / 65536) = (d : Int) := ⟨(-(m / 65536)).toNat, by omega⟩
    rw [hd, Int.toNat_natCast]
    exact halves d 0 (d : Int) _ (by omega) (by omega) (by omega) (by omega) (by omega)
theorem expF_le (x : Int) : 0 ≤ expF x ∧ expF x ≤ 1073741824 := by
  unfold expF
  have hm0 : min x 0 ≤ 0 := by omega
  generalize min x 0 = m at *
  by_cases c : m / 65536 ≤ -31
  · rw [if_pos c]; omega
  rw [if_neg c]
  have ht : 0 ≤ m % 65536 ∧ m % 65536 < 65536 := by omega
  have s1 := step_bounds 241400000 84941200 (m % 65536) 84941200 (by omega) ht
  have s2 := step_bounds 747400624 (stepF 241400000 84941200 (m % 65536)) (m % 65536) 326341200 (by omega) ht
  have s3 := step_bounds 1073741824 (stepF 747400624 (stepF 241400000 84941200 (m % 65536)) (m % 65536)) (m % 65536) 1073741824 (by omega) ht
  have hy : 1073741824 ≤ expY (m % 65536) ∧ expY (m % 65536) ≤ 2147483648 := by
    have q := s3.2.2
    show _ ≤ stepF _ _ _ ∧ stepF _ _ _ ≤ _
    omega
  obtain ⟨d, hd⟩ : ∃ d : Nat, -(m / 65536) = (d : Int) := ⟨(-(m / 65536)).toNat, by omega⟩
  rw [hd, Int.toNat_natCast]
  cases d with
  | zero =>
    have hz : m % 65536 = 0 := by omega
    rw [hz]
    decide
  | succ d =>
    have hp : (0 : Int) < 2 ^ d := Int.pow_pos (by decide)
    have e : expY (m % 65536) / 2 ^ (d + 1) = expY (m % 65536) / 2 / 2 ^ d := by
      rw [Int.pow_succ, Int.mul_comm, Int.ediv_ediv_of_nonneg (by omega)]
    rw [e]
    have h1 := Int.ediv_nonneg (show 0 ≤ expY (m % 65536) / 2 by omega) (Int.le_of_lt hp)
    have h2 := Int.ediv_le_self ((2 : Int) ^ d) (show 0 ≤ expY (m % 65536) / 2 by omega)
    omega
theorem expF_0 : expF 0 = 1073741824 := by decide

/-! ### the greatest -/
theorem maxFrom_le : ∀ (l : List Int) (m : Int), m ≤ maxFrom m l ∧ (∀ x ∈ l, x ≤ maxFrom m l) ∧ (maxFrom m l = m ∨ maxFrom m l ∈ l)
  | [], m => ⟨Int.le_refl _, fun x hx => (List.not_mem_nil hx).elim, Or.inl rfl⟩
  | y :: l, m => by
    have h := maxFrom_le l (if m < y then y else m)
    have e : maxFrom m (y :: l) = maxFrom (if m < y then y else m) l := rfl
    rw [e]
    by_cases c : m < y
    · rw [if_pos c] at h ⊢
      refine ⟨by omega, fun x hx => ?_, ?_⟩
      · rcases List.mem_cons.1 hx with rfl | hx
        · exact h.1
        · exact h.2.1 x hx
      · rcases h.2.2 with h | h
        · exact Or.inr (by rw [h]; exact List.mem_cons_self)
        · exact Or.inr (List.mem_cons_of_mem _ h)
    · rw [if_neg c] at h ⊢
      refine ⟨by omega, fun x hx => ?_, ?_⟩
      · rcases List.mem_cons.1 hx with rfl | hx
        · omega
        · exact h.2.1 x hx
      · rcases h.2.2 with h | h
        · exact Or.inl h
        · exact Or.inr (List.mem_cons_of_mem _ h)
theorem maxL_cons (x : Int) (l : List Int) : maxL (x :: l) = maxFrom x l := rfl
theorem maxL_le (l : List Int) (x : Int) (hx : x ∈ l) : x ≤ maxL l := by
  cases l with
  | nil => exact (List.not_mem_nil hx).elim
  | cons y l =>
    rw [maxL_cons]
    rcases List.mem_cons.1 hx with rfl | hx
    · exact (maxFrom_le l x).1
    · exact (maxFrom_le l y).2.1 x hx
theorem maxL_mem (l : List Int) (h : 0 < l.length) : maxL l ∈ l := by
  cases l with
  | nil => exact (Nat.lt_irrefl _ h).elim
  | cons y l =>
    rw [maxL_cons]
    rcases (maxFrom_le l y).2.2 with h | h
    · rw [h]; exact List.mem_cons_self
    · exact List.mem_cons_of_mem _ h

/-! ### weights -/
def I64 (l : List Int) : Prop := ∀ x ∈ l, -9223372036854775808 ≤ x ∧ x ≤ 9223372036854775807
def I8 (l : List Int) : Prop := ∀ x ∈ l, -128 ≤ x ∧ x ≤ 127
theorem getD_mem (l : List Int) (i : Nat) (h : i < l.length) : l.getD i 0 ∈ l := by
  rw [List.getD_eq_getElem?_getD, List.getElem?_eq_getElem h]
  exact List.getElem_mem h
def wOf (M s : Int) : Int := expF (256 * max (-1099511627776) (s - M))
def weightsL (l : List Int) : List Int := l.map (wOf (maxL l))
theorem own_arg (m s : Int) (hm : -9223372036854775808 ≤ m ∧ m ≤ 9223372036854775807) (hs : -9223372036854775808 ≤ s ∧ s ≤ 9223372036854775807) (h : s ≤ m) :
    wrap64 ((-256) * (wrap64 (mn 1099511627776 (IntKind.u64.wrap ((IntKind.u64.wrap m) - (IntKind.u64.wrap s)))))) = 256 * max (-1099511627776) (s - m) := by
  rw [IntKind.wrap_u64, IntKind.wrap_u64, IntKind.wrap_u64]
  unfold mn
  have e : (m % 18446744073709551616 - s % 18446744073709551616) % 18446744073709551616 = m - s := by omega
  rw [e]
  by_cases c : m - s < 1099511627776
  · rw [if_pos c, w64 (x := m - s) (by omega) (by omega), w64 (by omega) (by omega)]; omega
  · rw [if_neg c, w64 (x := 1099511627776) (by omega) (by omega), w64 (by omega) (by omega)]; omega
theorem dist_ev (s m : Int) (hm : -9223372036854775808 ≤ m ∧ m ≤ 9223372036854775807) (hs : -9223372036854775808 ≤ s ∧ s ≤ 9223372036854775807) (h : s ≤ m) :
    Ev (fun k => r11_distance.f k s m) (max (-1099511627776) (s - m)) := by
  unfold r11_distance.f
  have far : ¬ (s - m > -1099511627776) → Ev (fun k => r11_distance.j0 k s m true) (max (-1099511627776) (s - m)) := by
    intro c
    rw [show max (-1099511627776) (s - m) = -1099511627776 by omega]
    exact Ev.step (fun k => by rw [r11_distance.j0]) (ev_pos rfl (Ev.now _))
  have near : -9223372036854775808 ≤ s - m → Ev (fun k => r11_distance.j0 k s m false) (max (-1099511627776) (s - m)) := by
    intro c
    refine Ev.step (fun k => by rw [r11_distance.j0]) (ev_neg (by decide) ?_)
    rw [w64 c (by omega)]
    by_cases c2 : s - m < -1099511627776
    · rw [show max (-1099511627776) (s - m) = -1099511627776 by omega]
      exact ev_pos c2 (Ev.now _)
    · rw [show max (-1099511627776) (s - m) = s - m by omega]
      exact ev_neg c2 (Ev.now _)
  by_cases c1 : s < 0
  · refine ev_pos c1 ?_
    by_cases c2 : m ≥ 0
    · refine ev_pos c2 ?_
      by_cases c3 : m > 1099511627776
      · exact ev_pos c3 (far (by omega))
      · refine ev_neg c3 ?_
        by_cases c4 : s < -1099511627776
        · rw [decide_eq_true c4]; exact far (by omega)
        · rw [decide_eq_false c4]; exact near (by omega)
    · exact ev_neg c2 (near (by omega))
  · exact ev_neg c1 (near (by omega))
theorem own_w_l (l : List Int) (hl : l.length ≤ 512) (hr : I64 l) (h0 : 0 < l.length) : ∀ (d i : Nat), l.length - i = d → i ≤ l.length →
    Ev (fun k => soft_Weights.l0 k (maxL l) ((l.take i).map (wOf (maxL l))) l (l.length : Int) (i : Int)) (weightsL l, 0)
  | d, i, hd, hi => by
    refine Ev.step (fun k => by rw [soft_Weights.l0]) ?_
    by_cases c : i < l.length
    · obtain ⟨d, rfl⟩ : ∃ e, d = e + 1 := ⟨d - 1, by omega⟩
      have hgo := own_w_l l hl hr h0 d (i + 1) (by omega) (by omega)
      rw [List.take_succ_eq_append_getElem c, List.map_append, List.map_cons, List.map_nil] at hgo
      have hx := getD_mem l i c
      have he : l.getD i 0 = l[i] := by rw [List.getD_eq_getElem?_getD, List.getElem?_eq_getElem c]; rfl
      have hb := hr _ hx
      have hM := hr _ (maxL_mem l h0)
      have hle := maxL_le l _ hx
      rw [rd_nat, w1 i (by omega), own_arg _ _ hM hb hle]
      refine ev_pos (by omega) (ev_pos (by omega) (ev_pos (by omega) (ev_is (a := wOf (maxL l) (l.getD i 0)) ?_ (ev_pos (by rw [List.length_map, List.length_take]; omega) ?_))))
      · unfold fixed_Exp2.f
        rw [if_pos (by omega)]; rfl
      · rw [he]
        exact hgo
    · obtain rfl : i = l.length := by omega
      rw [List.take_length]
      exact ev_neg (by omega) (Ev.now _)
theorem own_weights (l : List Int) (hl : l.length ≤ 512) (hr : I64 l) (h0 : 0 < l.length) : Ev (fun k => soft_Weights.f k l) (weightsL l, 0) := by
  unfold soft_Weights.f
  refine ev_neg (by omega) ?_
  rw [decide_eq_false (by omega)]
  refine Ev.step (fun k => by rw [soft_Weights.j0]) (ev_neg (by decide) (ev_is (a := maxL l) ?_ (own_w_l l hl hr h0 _ 0 rfl (Nat.zero_le _))))
  unfold slices_Max_int64_int64.f
  rw [if_pos (by omega)]
theorem ref_w_l (l : List Int) (hl : l.length ≤ 512) (hr : I64 l) (h0 : 0 < l.length) : ∀ (d i : Nat), l.length - i = d → i ≤ l.length →
    Ev (fun k => r11_Weights.l1 k l (maxL l) ((l.take i).map (wOf (maxL l))) (i : Int)) (weightsL l, 0)
  | d, i, hd, hi => by
    refine Ev.step (fun k => by rw [r11_Weights.l1]) ?_
    by_cases c : i < l.length
    · obtain ⟨d, rfl⟩ : ∃ e, d = e + 1 := ⟨d - 1, by omega⟩
      have hgo := ref_w_l l hl hr h0 d (i + 1) (by omega) (by omega)
      rw [List.take_succ_eq_append_getElem c, List.map_append, List.map_cons, List.map_nil] at hgo
      have hx := getD_mem l i c
      have he : l.getD i 0 = l[i] := by rw [List.getD_eq_getElem?_getD, List.getElem?_eq_getElem c]; rfl
      have hb := hr _ hx
      have hM := hr _ (maxL_mem l h0)
      have hle := maxL_le l _ hx
      rw [rd_nat, w1 i (by omega)]
      refine ev_pos (by omega) (ev_pos (by omega) (Ev.bind (dist_ev _ _ hM hb hle) ?_))
      rw [w64 (x := 256 * max (-1099511627776) (l.getD i 0 - maxL l)) (by omega) (by omega)]
      refine Ev.bind (exp_ev _ (by omega) (by omega)) (ev_pos (by rw [List.length_map, List.length_take]; omega) ?_)
      rw [← he] at hgo
      exact hgo
    · obtain rfl : i = l.length := by omega
      rw [List.take_length]
      exact ev_neg (by omega) (Ev.now _)
theorem ref_max_l (l : List Int) (hl : l.length ≤ 512) (R : List Int × Int) (M : Int) (hR : Ev (fun k => r11_Weights.l1 k l M [] 0) R) : ∀ (d i : Nat) (m : Int), l.length - i = d → i ≤ l.length → maxFrom m (l.drop i) = M →
    Ev (fun k => r11_Weights.l0 k l m (i : Int)) R
  | d, i, m, hd, hi, h => by
    refine Ev.step (fun k => by rw [r11_Weights.l0]) ?_
    by_cases c : i < l.length
    · obtain ⟨d, rfl⟩ : ∃ e, d = e + 1 := ⟨d - 1, by omega⟩
      rw [drop_get l i c] at h
      have e : maxFrom m (l.getD i 0 :: l.drop (i + 1)) = maxFrom (if m < l.getD i 0 then l.getD i 0 else m) (l.drop (i + 1)) := rfl
      rw [e] at h
      rw [rd_nat, w1 i (by omega)]
      refine ev_pos (by omega) (ev_pos (by omega) ?_)
      by_cases c2 : m < l.getD i 0
      · rw [if_pos c2] at h
        exact ev_pos c2 (ref_max_l l hl R M hR d (i + 1) _ (by omega) (by omega) h)
      · rw [if_neg c2] at h
        exact ev_neg c2 (ref_max_l l hl R M hR d (i + 1) _ (by omega) (by omega) h)
    · rw [List.drop_eq_nil_of_le (by omega)] at h
      have h' : m = M := h
      rw [h']
      exact ev_neg (by omega) hR
theorem ref_weights (l : List Int) (hl : l.length ≤ 512) (hr : I64 l) (h0 : 0 < l.length) : Ev (fun k => r11_Weights.f k l) (weightsL l, 0) := by
  unfold r11_Weights.f
  refine ev_neg (by omega) ?_
  rw [decide_eq_false (by omega)]
  refine Ev.step (fun k => by rw [r11_Weights.j0]) (ev_neg (by decide) (ev_pos (by omega) ?_))
  refine ref_max_l l hl _ (maxL l) (ref_w_l l hl hr h0 _ 0 rfl (Nat.zero_le _)) _ 0 _ rfl (Nat.zero_le _) ?_
  rw [List.drop_zero]
  cases l with
  | nil => exact (Nat.lt_irrefl _ h0).elim
  | cons x l =>
    have e1 : rd (x :: l) 0 = x := rfl
    have e2 : maxFrom x (x :: l) = maxFrom (if x < x then x else x) l := rfl
    rw [e1, e2, if_neg (Int.lt_irrefl _)]; rfl

/-! ### sums of weights -/
def WOK (w : List Int) : Prop := w.length ≤ 512 ∧ (∀ x ∈ w, 0 ≤ x ∧ x ≤ 1073741824) ∧ 0 < w.sum
theorem sum_nonneg : ∀ (w : List Int), (∀ x ∈ w, 0 ≤ x) → 0 ≤ w.sum
  | [], _ => Int.le_refl _
  | x :: w, h => by
    have h1 := h x List.mem_cons_self
    have h2 := sum_nonneg w fun y hy => h y (List.mem_cons_of_mem _ hy)
    rw [List.sum_cons]; omega
theorem sum_pos : ∀ (w : List Int) (x : Int), (∀ x ∈ w, 0 ≤ x) → x ∈ w → x ≤ w.sum
  | [], x, _, hx => (List.not_mem_nil hx).elim
  | y :: w, x, h, hx => by
    have h1 := h y List.mem_cons_self
    have h2 := sum_nonneg w fun y hy => h y (List.mem_cons_of_mem _ hy)
    rw [List.sum_cons]
    rcases List.mem_cons.1 hx with rfl | hx
    · omega
    · have := sum_pos w x (fun y hy => h y (List.mem_cons_of_mem _ hy)) hx
      omega
theorem weights_ok (l : List Int) (hl : l.length ≤ 512) (h0 : 0 < l.length) : WOK (weightsL l) := by
  have hb : ∀ x ∈ weightsL l, 0 ≤ x ∧ x ≤ 1073741824 := by
    intro x hx
    obtain ⟨s, _, rfl⟩ := List.mem_map.1 hx
    exact expF_le _
  refine ⟨by unfold weightsL; rw [List.length_map]; exact hl, hb, ?_⟩
  have hm : (1073741824 : Int) ∈ weightsL l := by
    refine List.mem_map.2 ⟨maxL l, maxL_mem l h0, ?_⟩
    unfold wOf
    rw [Int.sub_self]
    exact expF_0
  have := sum_pos _ _ (fun x hx => (hb x hx).1) hm
  omega
theorem tot_l (w : List Int) (hw : WOK w) (d i : Nat) (a : Int) (hd : w.length - i = d) (hi : i ≤ w.length) (h0 : 0 ≤ a) (h1 : a ≤ (i : Int) * 1073741824) (h : a + (w.drop i).sum = w.sum) : Ev (fun k => soft_total.l0 k a w (w.length : Int) (i : Int)) (w.sum, 0) := by
  have hwl := hw.1
  refine Ev.step (fun k => by rw [soft_total.l0]) ?_
  by_cases c : i < w.length
  · obtain ⟨d, rfl⟩ : ∃ e, d = e + 1 := ⟨d - 1, by omega⟩
    have hb := hw.2.1 _ (getD_mem w i c)
    rw [drop_get w i c, List.sum_cons] at h
    rw [rd_nat, w1 i (by omega), w64 (x := a + w.getD i 0) (by omega) (by omega)]
    exact ev_pos (by omega) (ev_pos (by omega) (ev_pos (by omega) (ev_neg (by omega) (ev_neg (by omega) (tot_l w hw d (i + 1) _ (by omega) (by omega) (by omega) (by omega) (by omega))))))
  · rw [List.drop_eq_nil_of_le (by omega)] at h
    have h' : a = w.sum := by rw [List.sum_nil] at h; omega
    rw [h']
    have := hw.2.2
    exact ev_neg (by omega) (ev_neg (by omega) (Ev.now _))
termination_by w.length - i
decreasing_by omega
theorem own_total (w : List Int) (hw : WOK w) : Ev (fun k => soft_total.f k w) (w.sum, 0) := by
  unfold soft_total.f
  exact tot_l w hw _ 0 0 rfl (Nat.zero_le _) (by omega) (by omega) (by rw [List.drop_zero]; omega)
theorem good_l (w : List Int) (hw : WOK w) (d i : Nat) (a : Int) (hd : w.length - i = d) (hi : i ≤ w.length) (h0 : 0 ≤ a) (h1 : a ≤ (i : Int) * 1073741824) (h : a + (w.drop i).sum = w.sum) : Ev (fun k => r11_good.l0 k w a (i : Int)) (w.sum, true) := by
  have hwl := hw.1
  refine Ev.step (fun k => by rw [r11_good.l0]) ?_
  by_cases c : i < w.length
  · obtain ⟨d, rfl⟩ : ∃ e, d = e + 1 := ⟨d - 1, by omega⟩
    have hb := hw.2.1 _ (getD_mem w i c)
    rw [drop_get w i c, List.sum_cons] at h
    rw [rd_nat, w1 i (by omega), w64 (x := a + w.getD i 0) (by omega) (by omega)]
    exact ev_pos (by omega) (ev_pos (by omega) (ev_neg (by omega) (ev_neg (by omega) (good_l w hw d (i + 1) _ (by omega) (by omega) (by omega) (by omega) (by omega)))))
  · rw [List.drop_eq_nil_of_le (by omega)] at h
    have h' : a = w.sum := by rw [List.sum_nil] at h; omega
    rw [h', decide_eq_true (show w.sum > 0 from hw.2.2)]
    exact ev_neg (by omega) (Ev.now _)
termination_by w.length - i
decreasing_by omega
theorem ref_good (w : List Int) (hw : WOK w) : Ev (fun k => r11_good.f k w) (w.sum, true) := by
  unfold r11_good.f
  exact good_l w hw _ 0 0 rfl (Nat.zero_le _) (by omega) (by omega) (by rw [List.drop_zero]; omega)

/-! ### means -/
def dotS : List Int → List Int → Int
  | x :: q, y :: k => x * y + dotS q k
  | _, _ => 0
theorem prod_b (x y : Int) (hx : 0 ≤ x ∧ x ≤ 1073741824) (hy : -128 ≤ y ∧ y ≤ 127) : -137438953472 ≤ x * y ∧ x * y ≤ 137438953472 := by
  have h1 : x * y ≤ x * 127 := Int.mul_le_mul_of_nonneg_left hy.2 hx.1
  have h2 : x * (-128) ≤ x * y := Int.mul_le_mul_of_nonneg_left hy.1 hx.1
  omega
def meanL (w v : List Int) : Int := (2 * dotS w v + w.sum) / (2 * w.sum)
theorem sum_le (w : List Int) (h : ∀ x ∈ w, 0 ≤ x ∧ x ≤ 1073741824) : 0 ≤ w.sum ∧ w.sum ≤ (w.length : Int) * 1073741824 := by
  induction w with
  | nil => exact ⟨Int.le_refl _, Int.le_refl _⟩
  | cons x w ih =>
    have h1 := h x List.mem_cons_self
    have h2 := ih fun y hy => h y (List.mem_cons_of_mem _ hy)
    rw [List.sum_cons, List.length_cons]; omega
theorem dotS_between (lo hi : Int) : ∀ (w v : List Int), w.length = v.length → (∀ x ∈ w, 0 ≤ x) → (∀ y ∈ v, lo ≤ y ∧ y ≤ hi) → lo * w.sum ≤ dotS w v ∧ dotS w v ≤ hi * w.sum
  | [], [], _, _, _ => by rw [List.sum_nil, Int.mul_zero, Int.mul_zero]; exact ⟨Int.le_refl _, Int.le_refl _⟩
  | [], _ :: _, h, _, _ => by cases h
  | _ :: _, [], h, _, _ => by cases h
  | x :: w, y :: v, h, hw, hv => by
    have h1 := hw x List.mem_cons_self
    have h2 := hv y List.mem_cons_self
    have h3 := dotS_between lo hi w v (by simpa using h) (fun z hz => hw z (List.mem_cons_of_mem _ hz)) (fun z hz => hv z (List.mem_cons_of_mem _ hz))
    have h4 : x * y ≤ x * hi := Int.mul_le_mul_of_nonneg_left h2.2 h1
    have h5 : x * lo ≤ x * y := Int.mul_le_mul_of_nonneg_left h2.1 h1
    rw [List.sum_cons, Int.mul_add, Int.mul_add, Int.mul_comm lo x, Int.mul_comm hi x, dotS]
    omega
theorem mean_between (lo hi : Int) (w v : List Int) (hl : w.length = v.length) (hw : WOK w) (hv : ∀ y ∈ v, lo ≤ y ∧ y ≤ hi) : lo ≤ meanL w v ∧ meanL w v ≤ hi := by
  have h := dotS_between lo hi w v hl (fun x hx => (hw.2.1 x hx).1) hv
  have hs := hw.2.2
  unfold meanL
  generalize w.sum = S at *
  generalize dotS w v = D at *
  constructor
  · refine Int.le_ediv_of_mul_le (by omega) ?_
    rw [← Int.mul_assoc, Int.mul_comm lo 2, Int.mul_assoc]; omega
  · have : (2 * D + S) / (2 * S) < hi + 1 := by
      refine Int.ediv_lt_of_lt_mul (by omega) ?_
      rw [Int.add_mul, ← Int.mul_assoc, Int.mul_comm hi 2, Int.mul_assoc]; omega
    omega
theorem dot_bound (w v : List Int) (hl : w.length = v.length) (hw : WOK w) (hv : I8 v) : -70368744177664 ≤ dotS w v ∧ dotS w v ≤ 70368744177664 := by
  have h := dotS_between (-128) 127 w v hl (fun x hx => (hw.2.1 x hx).1) hv
  have h2 := sum_le w hw.2.1
  have h3 := hw.1
  omega
theorem i8w (x : Int) (h : -128 ≤ x ∧ x ≤ 127) : IntKind.i8.wrap x = x := by
  have e : IntKind.i8.wrap x = (x + 128) % 256 - 128 := by
    simp [IntKind.wrap, IntKind.bits, IntKind.signed]
    try omega
  rw [e]; omega
theorem mean_l (w v : List Int) (hl : w.length = v.length) (hw : WOK w) (hv : I8 v) (d i : Nat) (a : Int) (hd : w.length - i = d) (hi : i ≤ w.length) (h0 : -((i : Int) * 137438953472) ≤ a) (h1 : a ≤ (i : Int) * 137438953472) (h : a + dotS (w.drop i) (v.drop i) = dotS w v) : Ev (fun k => soft_Mean.l0 k v w.sum a w (w.length : Int) (i : Int)) (meanL w v, 0) := by
  have hwl := hw.1
  refine Ev.step (fun k => by rw [soft_Mean.l0]) ?_
  by_cases c : i < w.length
  · obtain ⟨d, rfl⟩ : ∃ e, d = e + 1 := ⟨d - 1, by omega⟩
    have hb := hw.2.1 _ (getD_mem w i c)
    have hc := hv _ (getD_mem v i (by omega))
    have hp := prod_b _ _ hb hc
    rw [drop_get w i c, drop_get v i (by omega), dotS] at h
    rw [rd_nat, rd_nat, w1 i (by omega), w64 (x := v.getD i 0) (by omega) (by omega), w64 (x := w.getD i 0 * v.getD i 0) (by omega) (by omega), w64 (x := a + w.getD i 0 * v.getD i 0) (by omega) (by omega)]
    exact ev_pos (by omega) (ev_pos (by omega) (ev_pos (by omega) (ev_pos (by omega) (mean_l w v hl hw hv d (i + 1) _ (by omega) (by omega) (by omega) (by omega) (by omega)))))
  · rw [List.drop_eq_nil_of_le (by omega)] at h
    have h' : a = dotS w v := by rw [dotS] at h; omega; intro _ _ _ _ h; cases h
    subst h'
    have hd := dot_bound w v hl hw hv
    have hs := hw.2.2
    have hs2 := sum_le w hw.2.1
    have hm := mean_between (-128) 127 w v hl hw hv
    refine ev_neg (by omega) ?_
    rw [w64 (x := 2 * dotS w v) (by omega) (by omega), w64 (x := 2 * dotS w v + w.sum) (by omega) (by omega), w64 (x := 2 * w.sum) (by omega) (by omega)]
    obtain ⟨r, hr⟩ := floor_ok (2 * dotS w v + w.sum) (2 * w.sum) (by omega) (by omega) (by omega)
    refine ev_is hr ?_
    show Ev (fun _ => some (IntKind.i8.wrap (meanL w v), 0)) _
    rw [i8w _ hm]
    exact Ev.now _
termination_by w.length - i
decreasing_by omega
theorem own_mean (w v : List Int) (hl : w.length = v.length) (hw : WOK w) (hv : I8 v) : Ev (fun k => soft_Mean.f k w v) (meanL w v, 0) := by
  unfold soft_Mean.f
  have := hw.1
  refine ev_pos (by omega) ?_
  rw [decide_eq_false (by omega)]
  exact Ev.step (fun k => by rw [soft_Mean.j0]) (ev_neg (by decide) (Ev.bind (own_total w hw) (ev_pos rfl (mean_l w v hl hw hv _ 0 0 rfl (Nat.zero_le _) (by omega) (by omega) (by rw [List.drop_zero, List.drop_zero]; omega)))))
theorem rmean_l (w v : List Int) (hl : w.length = v.length) (hw : WOK w) (hv : I8 v) (d i : Nat) (a : Int) (hd : w.length - i = d) (hi : i ≤ w.length) (h0 : -((i : Int) * 137438953472) ≤ a) (h1 : a ≤ (i : Int) * 137438953472) (h : a + dotS (w.drop i) (v.drop i) = dotS w v) : Ev (fun k => r11_Mean.l0 k w v w.sum a (i : Int)) (meanL w v, 0) := by
  have hwl := hw.1
  refine Ev.step (fun k => by rw [r11_Mean.l0]) ?_
  by_cases c : i < w.length
  · obtain ⟨d, rfl⟩ : ∃ e, d = e + 1 := ⟨d - 1, by omega⟩
    have hb := hw.2.1 _ (getD_mem w i c)
    have hc := hv _ (getD_mem v i (by omega))
    have hp := prod_b _ _ hb hc
    rw [drop_get w i c, drop_get v i (by omega), dotS] at h
    rw [rd_nat, rd_nat, w1 i (by omega), w64 (x := v.getD i 0) (by omega) (by omega), w64 (x := w.getD i 0 * v.getD i 0) (by omega) (by omega), w64 (x := a + w.getD i 0 * v.getD i 0) (by omega) (by omega)]
    exact ev_pos (by omega) (ev_pos (by omega) (ev_pos (by omega) (rmean_l w v hl hw hv d (i + 1) _ (by omega) (by omega) (by omega) (by omega) (by omega))))
  · rw [List.drop_eq_nil_of_le (by omega)] at h
    have h' : a = dotS w v := by rw [dotS] at h; omega; intro _ _ _ _ h; cases h
    subst h'
    have hd := dot_bound w v hl hw hv
    have hs := hw.2.2
    have hs2 := sum_le w hw.2.1
    have hm := mean_between (-128) 127 w v hl hw hv
    refine ev_neg (by omega) ?_
    rw [w64 (x := 2 * dotS w v) (by omega) (by omega), w64 (x := 2 * dotS w v + w.sum) (by omega) (by omega), w64 (x := 2 * w.sum) (by omega) (by omega)]
    obtain ⟨r, hr⟩ := floor_ok (2 * dotS w v + w.sum) (2 * w.sum) (by omega) (by omega) (by omega)
    refine ev_is (hr : r02_Floor.f _ _ = _) ?_
    show Ev (fun _ => some (IntKind.i8.wrap (meanL w v), 0)) _
    rw [i8w _ hm]
    exact Ev.now _
termination_by w.length - i
decreasing_by omega
theorem ref_mean (w v : List Int) (hl : w.length = v.length) (hw : WOK w) (hv : I8 v) : Ev (fun k => r11_Mean.f k w v) (meanL w v, 0) := by
  unfold r11_Mean.f
  have := hw.1
  refine ev_pos (by omega) ?_
  rw [decide_eq_false (by omega)]
  exact Ev.step (fun k => by rw [r11_Mean.j0]) (ev_neg (by decide) (Ev.bind (ref_good w hw) (ev_pos rfl (rmean_l w v hl hw hv _ 0 0 rfl (Nat.zero_le _) (by omega) (by omega) (by rw [List.drop_zero, List.drop_zero]; omega)))))
def colL (rows : List (List Int)) (c : Nat) : List Int := rows.map fun r => r.getD c 0
def meansL (w : List Int) (rows : List (List Int)) (n : Nat) : List Int := (List.range n).map fun c => meanL w (colL rows c)
def Rect (w : List Int) (rows : List (List Int)) (n : Nat) : Prop := w.length = rows.length ∧ 0 < rows.length ∧ n ≤ 64 ∧ (∀ r ∈ rows, r.length = n) ∧ ∀ r ∈ rows, I8 r
theorem col_i8 (rows : List (List Int)) (c n : Nat) (h : ∀ r ∈ rows, r.length = n) (h8 : ∀ r ∈ rows, I8 r) (hc : c < n) : I8 (colL rows c) := by
  intro x hx
  obtain ⟨r, hr, rfl⟩ := List.mem_map.1 hx
  exact h8 r hr _ (getD_mem r c (by rw [h r hr]; exact hc))
theorem range_take (n c : Nat) (h : c < n) : List.range (c + 1) = List.range c ++ [c] := List.range_succ
theorem col_l (w : List Int) (rows : List (List Int)) (n : Nat) (hw : WOK w) (hR : Rect w rows n) (c : Nat) (hc : c < n) (o : List Int) (R : List Int × Int)
    (hk : Ev (fun k => soft_Means.l1 k w rows (o ++ [meanL w (colL rows c)]) (n : Int) ((c + 1 : Nat) : Int)) R) (ho : o.length ≤ 64) : ∀ (d i : Nat), rows.length - i = d → i ≤ rows.length →
    Ev (fun k => soft_Means.l2 k w rows o (c : Int) ((rows.take i).map fun r => r.getD c 0) (n : Int) (c : Int) rows (rows.length : Int) (i : Int)) R
  | d, i, hd, hi => by
    obtain ⟨h1, h2, h3, h4, h5⟩ := hR
    have hwl := hw.1
    refine Ev.step (fun k => by rw [soft_Means.l2]) ?_
    by_cases q : i < rows.length
    · obtain ⟨d, rfl⟩ : ∃ e, d = e + 1 := ⟨d - 1, by omega⟩
      have hgo := col_l w rows n hw ⟨h1, h2, h3, h4, h5⟩ c hc o R hk ho d (i + 1) (by omega) (by omega)
      rw [List.take_succ_eq_append_getElem q, List.map_append, List.map_cons, List.map_nil] at hgo
      have he : rows.getD i [] = rows[i] := by rw [List.getD_eq_getElem?_getD, List.getElem?_eq_getElem q]; rfl
      have hlen := h4 _ (getD_memL rows i q)
      rw [rdL, w1 i (by omega), rd_nat]
      refine ev_pos (by omega) (ev_pos (by omega) (ev_pos (by omega) (ev_pos (by omega) (ev_pos (by omega) (ev_pos (by rw [List.length_map, List.length_take]; omega) ?_)))))
      rw [he]
      exact hgo
    · obtain rfl : i = rows.length := by omega
      rw [List.take_length, w1 c (by omega)]
      exact ev_neg (by omega) (Ev.bind (own_mean w (colL rows c) (by unfold colL; rw [List.length_map]; exact h1) hw (col_i8 rows c n h4 h5 hc)) (ev_pos (by omega) hk))
theorem means_l (w : List Int) (rows : List (List Int)) (n : Nat) (hw : WOK w) (hR : Rect w rows n) : ∀ (d c : Nat), n - c = d → c ≤ n →
    Ev (fun k => soft_Means.l1 k w rows ((List.range c).map fun c => meanL w (colL rows c)) (n : Int) (c : Int)) (meansL w rows n, 0)
  | d, c, hd, hc => by
    refine Ev.step (fun k => by rw [soft_Means.l1]) ?_
    by_cases q : c < n
    · obtain ⟨d, rfl⟩ : ∃ e, d = e + 1 := ⟨d - 1, by omega⟩
      have hgo := means_l w rows n hw hR d (c + 1) (by omega) (by omega)
      rw [List.range_succ, List.map_append, List.map_cons, List.map_nil] at hgo
      have hn := hR.2.2.1
      exact ev_pos (by omega) (col_l w rows n hw hR c q _ _ hgo (by rw [List.length_map, List.length_range]; omega) _ 0 rfl (Nat.zero_le _))
    · obtain rfl : c = n := by omega
      exact ev_neg (by omega) (Ev.now _)
theorem check_l (w : List Int) (rows : List (List Int)) (n : Nat) (hw : WOK w) (hR : Rect w rows n) : ∀ (d i : Nat), rows.length - i = d → i ≤ rows.length →
    Ev (fun k => soft_Means.l0 k w rows rows (rows.length : Int) (i : Int)) (meansL w rows n, 0)
  | d, i, hd, hi => by
    obtain ⟨h1, h2, h3, h4, h5⟩ := hR
    have hwl := hw.1
    have hn0 : (rd_L1 rows 0).length = n := h4 _ (getD_memL rows 0 h2)
    refine Ev.step (fun k => by rw [soft_Means.l0]) ?_
    by_cases q : i < rows.length
    · obtain ⟨d, rfl⟩ : ∃ e, d = e + 1 := ⟨d - 1, by omega⟩
      have hgo := check_l w rows n hw ⟨h1, h2, h3, h4, h5⟩ d (i + 1) (by omega) (by omega)
      have hlen := h4 _ (getD_memL rows i q)
      rw [rdL, w1 i (by omega)]
      exact ev_pos (by omega) (ev_pos (by omega) (ev_pos (by omega) (ev_pos (by omega) (ev_pos (by omega) hgo))))
    · refine ev_neg (by omega) (Ev.bind (own_total w hw) (ev_pos rfl (ev_pos (by omega) ?_)))
      rw [hn0]
      exact means_l w rows n hw ⟨h1, h2, h3, h4, h5⟩ _ 0 rfl (Nat.zero_le _)
theorem own_means (w : List Int) (rows : List (List Int)) (n : Nat) (hw : WOK w) (hR : Rect w rows n) : Ev (fun k => soft_Means.f k w rows) (meansL w rows n, 0) := by
  unfold soft_Means.f
  have h1 := hR.1
  have h2 := hw.1
  refine ev_pos (by omega) ?_
  rw [decide_eq_false (by omega)]
  refine Ev.step (fun k => by rw [soft_Means.j0]) ?_
  exact (ev_neg (by decide) (check_l w rows n hw hR _ 0 rfl (Nat.zero_le _)))
theorem rcol_l (w : List Int) (rows : List (List Int)) (n : Nat) (hw : WOK w) (hR : Rect w rows n) (c : Nat) (hc : c < n) (o : List Int) (R : List Int × Int)
    (hk : Ev (fun k => r11_Means.l1 k w rows (o ++ [meanL w (colL rows c)]) ((c + 1 : Nat) : Int)) R) (ho : o.length ≤ 64) : ∀ (d i : Nat), rows.length - i = d → i ≤ rows.length →
    Ev (fun k => r11_Means.l2 k w rows o (c : Int) ((rows.take i).map fun r => r.getD c 0) (i : Int)) R
  | d, i, hd, hi => by
    obtain ⟨h1, h2, h3, h4, h5⟩ := hR
    have hwl := hw.1
    refine Ev.step (fun k => by rw [r11_Means.l2]) ?_
    by_cases q : i < rows.length
    · obtain ⟨d, rfl⟩ : ∃ e, d = e + 1 := ⟨d - 1, by omega⟩
      have hgo := rcol_l w rows n hw ⟨h1, h2, h3, h4, h5⟩ c hc o R hk ho d (i + 1) (by omega) (by omega)
      rw [List.take_succ_eq_append_getElem q, List.map_append, List.map_cons, List.map_nil] at hgo
      have he : rows.getD i [] = rows[i] := by rw [List.getD_eq_getElem?_getD, List.getElem?_eq_getElem q]; rfl
      have hlen := h4 _ (getD_memL rows i q)
      rw [rdL, w1 i (by omega), rd_nat]
      refine ev_pos (by omega) (ev_pos (by omega) (ev_pos (by omega) (ev_pos (by omega) (ev_pos (by rw [List.length_map, List.length_take]; omega) ?_))))
      rw [he]
      exact hgo
    · obtain rfl : i = rows.length := by omega
      rw [List.take_length, w1 c (by omega)]
      exact ev_neg (by omega) (Ev.bind (ref_mean w (colL rows c) (by unfold colL; rw [List.length_map]; exact h1) hw (col_i8 rows c n h4 h5 hc)) (ev_pos (by omega) hk))
theorem rmeans_l (w : List Int) (rows : List (List Int)) (n : Nat) (hw : WOK w) (hR : Rect w rows n) : ∀ (d c : Nat), n - c = d → c ≤ n →
    Ev (fun k => r11_Means.l1 k w rows ((List.range c).map fun c => meanL w (colL rows c)) (c : Int)) (meansL w rows n, 0)
  | d, c, hd, hc => by
    have hn0 : (rd_L1 rows 0).length = n := hR.2.2.2.1 _ (getD_memL rows 0 hR.2.1)
    have h2 := hR.2.1
    refine Ev.step (fun k => by rw [r11_Means.l1]) (ev_pos (by omega) ?_)
    rw [hn0]
    by_cases q : c < n
    · obtain ⟨d, rfl⟩ : ∃ e, d = e + 1 := ⟨d - 1, by omega⟩
      have hgo := rmeans_l w rows n hw hR d (c + 1) (by omega) (by omega)
      rw [List.range_succ, List.map_append, List.map_cons, List.map_nil] at hgo
      have hn := hR.2.2.1
      exact ev_pos (by omega) (rcol_l w rows n hw hR c q _ _ hgo (by rw [List.length_map, List.length_range]; omega) _ 0 rfl (Nat.zero_le _))
    · obtain rfl : c = n := by omega
      exact ev_neg (by omega) (Ev.now _)
theorem rcheck_l (w : List Int) (rows : List (List Int)) (n : Nat) (hw : WOK w) (hR : Rect w rows n) : ∀ (d i : Nat), rows.length - i = d → i ≤ rows.length →
    Ev (fun k => r11_Means.l0 k w rows (i : Int)) (meansL w rows n, 0)
  | d, i, hd, hi => by
    obtain ⟨h1, h2, h3, h4, h5⟩ := hR
    have hwl := hw.1
    have hn0 : (rd_L1 rows 0).length = n := h4 _ (getD_memL rows 0 h2)
    refine Ev.step (fun k => by rw [r11_Means.l0]) ?_
    by_cases q : i < rows.length
    · obtain ⟨d, rfl⟩ : ∃ e, d = e + 1 := ⟨d - 1, by omega⟩
      have hgo := rcheck_l w rows n hw ⟨h1, h2, h3, h4, h5⟩ d (i + 1) (by omega) (by omega)
      have hlen := h4 _ (getD_memL rows i q)
      rw [rdL, w1 i (by omega)]
      exact ev_pos (by omega) (ev_pos (by omega) (ev_pos (by omega) (ev_pos (by omega) hgo)))
    · refine ev_neg (by omega) (Ev.bind (ref_good w hw) (ev_pos rfl ?_))
      exact rmeans_l w rows n hw ⟨h1, h2, h3, h4, h5⟩ _ 0 rfl (Nat.zero_le _)
theorem ref_means (w : List Int) (rows : List (List Int)) (n : Nat) (hw : WOK w) (hR : Rect w rows n) : Ev (fun k => r11_Means.f k w rows) (meansL w rows n, 0) := by
  unfold r11_Means.f
  have h1 := hR.1
  have h2 := hw.1
  refine ev_pos (by omega) ?_
  rw [decide_eq_false (by omega)]
  refine Ev.step (fun k => by rw [r11_Means.j0]) ?_
  exact (ev_neg (by decide) (rcheck_l w rows n hw hR _ 0 rfl (Nat.zero_le _)))

/-! ### what a head sees -/
theorem wrap_r (x : Int) : -9223372036854775808 ≤ wrap64 x ∧ wrap64 x ≤ 9223372036854775807 := by unfold wrap64; omega
theorem near_r (n d : Int) (hd : 1 ≤ d) : -9223372036854775808 ≤ nearL n d ∧ nearL n d ≤ 9223372036854775807 := by
  have hf : ∃ a b, fixed_Floor.f n d = some (wrap64 a, b, 0) := by
    unfold fixed_Floor.f
    rw [if_neg (by omega), if_neg (by omega)]
    split
    · exact ⟨_, _, rfl⟩
    · exact ⟨_, _, rfl⟩
  obtain ⟨a, b, h⟩ := hf
  unfold nearL fixed_Near.f
  rw [h]
  simp only [Option.bind_some, if_true]
  split
  · exact wrap_r _
  · split
    · split
      · exact wrap_r _
      · exact wrap_r _
    · exact wrap_r _
theorem scores_i64 (q : List Int) (keys : List (List Int)) (s : Int) : I64 (scoresL q keys s).1 := by
  unfold scoresL
  split
  · intro x hx; exact (List.not_mem_nil hx).elim
  split
  · intro x hx; exact (List.not_mem_nil hx).elim
  intro x hx
  obtain ⟨k, _, rfl⟩ := List.mem_map.1 hx
  exact near_r _ _ (by have := Nat.two_pow_pos s.toNat; omega)
theorem scores_ok (q : List Int) (keys : List (List Int)) (s : Int) (h : (scoresL q keys s).2 = 0) : fitL q keys = true ∧ (scoresL q keys s).1.length = keys.length := by
  revert h
  unfold scoresL
  split
  · intro h; cases h
  rename_i hf
  split
  · intro h; cases h
  intro _
  refine ⟨by cases e : fitL q keys with | true => rfl | false => exact (hf e).elim, ?_⟩
  rw [List.length_map]
def headL (q : List Int) (keys values : List (List Int)) (s : Int) : List Int × Int :=
  if (scoresL q keys s).2 ≠ 0 then ([], (scoresL q keys s).2)
  else if values.length ≠ keys.length ∨ fitL q values = false then ([], 191)
  else (meansL (weightsL (scoresL q keys s).1) values q.length, 0)
theorem head_rect (q : List Int) (keys values : List (List Int)) (s : Int) (h : (scoresL q keys s).2 = 0) (hv : values.length = keys.length) (hf : fitL q values = true) (h8 : ∀ r ∈ values, I8 r) :
    WOK (weightsL (scoresL q keys s).1) ∧ Rect (weightsL (scoresL q keys s).1) values q.length := by
  obtain ⟨h1, h2⟩ := scores_ok q keys s h
  obtain ⟨⟨a1, a2, a3, a4⟩, a5⟩ := fitL_ok h1
  obtain ⟨⟨b1, b2, b3, b4⟩, b5⟩ := fitL_ok hf
  refine ⟨weights_ok _ (by omega) (by omega), ?_, by omega, by omega, b5, h8⟩
  unfold weightsL
  rw [List.length_map]; omega
theorem own_head (q : List Int) (keys values : List (List Int)) (s : Int) (h8 : ∀ r ∈ values, I8 r) : Ev (fun k => attend_Head.f k q keys values s) (headL q keys values s) := by
  unfold attend_Head.f headL
  refine Ev.bind (own_scores q keys s) ?_
  by_cases c : (scoresL q keys s).2 = 0
  · rw [if_neg (by omega)]
    refine ev_pos c ?_
    by_cases c2 : values.length = keys.length
    · refine ev_pos (by omega) (Ev.bind (fit_ev q values) ?_)
      cases hf : fitL q values with
      | false =>
        rw [if_pos (Or.inr rfl)]
        exact ev_neg (by decide) (Ev.now _)
      | true =>
        rw [if_neg (by rintro (h | h); exact h c2; cases h)]
        obtain ⟨hw, hR⟩ := head_rect q keys values s c c2 hf h8
        have hl := scoresL_len q keys s
        obtain ⟨h1, h2⟩ := scores_ok q keys s c
        obtain ⟨⟨a1, a2, a3, a4⟩, a5⟩ := fitL_ok h1
        exact ev_pos rfl (Ev.bind (own_weights _ hl (scores_i64 q keys s) (by omega)) (ev_pos rfl (Ev.bind (own_means _ values _ hw hR) (Ev.now _))))
    · rw [if_pos (Or.inl c2)]
      exact ev_neg (by omega) (Ev.now _)
  · rw [if_pos c]
    exact ev_neg c (Ev.now _)
theorem ref_head (q : List Int) (keys values : List (List Int)) (s : Int) (h8 : ∀ r ∈ values, I8 r) : Ev (fun k => r19_Head.f k q keys values s) (headL q keys values s) := by
  unfold r19_Head.f headL
  refine Ev.bind (ref_scores q keys s) ?_
  by_cases c : (scoresL q keys s).2 = 0
  · rw [if_neg (by omega)]
    refine ev_pos c ?_
    by_cases c2 : values.length = keys.length
    · refine ev_pos (by omega) (Ev.bind (wrong_ev q values) ?_)
      cases hf : fitL q values with
      | false =>
        rw [if_pos (Or.inr rfl)]
        refine Ev.step (fun k => by rw [r19_Head.j0]) ?_
        exact ev_pos rfl (Ev.now _)
      | true =>
        rw [if_neg (by rintro (h | h); exact h c2; cases h)]
        obtain ⟨hw, hR⟩ := head_rect q keys values s c c2 hf h8
        have hl := scoresL_len q keys s
        obtain ⟨h1, h2⟩ := scores_ok q keys s c
        obtain ⟨⟨a1, a2, a3, a4⟩, a5⟩ := fitL_ok h1
        refine Ev.step (fun k => by rw [r19_Head.j0]) (ev_neg (by decide) (Ev.bind (ref_weights _ hl (scores_i64 q keys s) (by omega)) ?_))
        refine Ev.bind (ref_means _ values _ hw hR) ?_
        exact Ev.now _
    · rw [if_pos (Or.inl c2)]
      exact ev_neg (by omega) (Ev.step (fun k => by rw [r19_Head.j0]) (ev_pos rfl (Ev.now _)))
  · rw [if_pos c]
    exact ev_neg c (Ev.now _)
theorem meansL_len (w : List Int) (rows : List (List Int)) (n : Nat) : (meansL w rows n).length = n := by unfold meansL; rw [List.length_map, List.length_range]
theorem headL_len (q : List Int) (keys values : List (List Int)) (s : Int) : (headL q keys values s).1.length ≤ q.length := by
  unfold headL
  split
  · exact Nat.zero_le _
  split
  · exact Nat.zero_le _
  · rw [meansL_len]; exact Nat.le_refl _

/-! ### lists of one kind -/
theorem rows_l (l : List Int) (hl : l.length < 4611686018427387904) : ∀ (d i : Nat), l.length - i = d → i ≤ l.length → Ev (fun k => w19_rows.l0 k l l (i : Int)) true
  | d, i, hd, hi => by
    refine Ev.step (fun k => by rw [w19_rows.l0]) ?_
    by_cases c : i < l.length
    · obtain ⟨d, rfl⟩ : ∃ e, d = e + 1 := ⟨d - 1, by omega⟩
      rw [w1 i (by omega)]
      exact ev_pos (by omega) (ev_pos (by omega) (ev_pos (by omega) (ev_pos rfl (rows_l l hl d (i + 1) (by omega) (by omega)))))
    · exact ev_neg (by omega) (Ev.now _)
theorem rows_ev (l : List Int) (hl : l.length < 4611686018427387904) : Ev (fun k => w19_rows.f k l l) true := by
  unfold w19_rows.f
  exact ev_pos rfl (rows_l l hl _ 0 rfl (Nat.zero_le _))
end Go.Proofs.Ytmjepdhjginelaa.Pure
