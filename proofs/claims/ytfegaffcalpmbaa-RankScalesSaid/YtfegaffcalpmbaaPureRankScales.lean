/- RankScales: weights multiplied share the same. -/
import Derived.Test.YtfegaffcalpmbaaStmtRankScales
import Derived.Test.YtfegaffcalpmbaaPureRankTop
namespace Go.Proofs.Ytfegaffcalpmbaa.Pure
set_option linter.unusedSimpArgs false
set_option linter.unusedVariables false
open Go.RowKit Go.Proofs.YtfegaffcalpmbaaW.PrintWords Go.Proofs.YtfegaffcalpmbaaW.PrintLast Go.Proofs.YtfegaffcalpmbaaW.PrintMore Go.Proofs.Ytfegaffcalpmbaa.A Go.Proofs.Ytfegaffcalpmbaa.St

def times (l : List Int) (m : Int) : List Int := l.map fun x => x * m
theorem times_len (l : List Int) (m : Int) : (times l m).length = l.length := by unfold times; rw [List.length_map]
theorem sumFrom_times (m : Int) (hm : 0 < m) : ∀ (l : List Int) (acc : Int), (∀ x ∈ l, 0 ≤ x ∧ x * m ≤ 1073741824) → 0 ≤ acc →
    sumFrom (times l m) (acc * m) = ((sumFrom l acc).1 * m, (sumFrom l acc).2) ∧ ((sumFrom l acc).2 = 0 ∨ (sumFrom l acc).1 = 0)
  | [], acc, h, ha => by
    show (if acc * m = 0 then ((0 : Int), (71 : Int)) else (acc * m, 0)) = _ ∧ _
    rw [sumFrom]
    by_cases c : acc = 0
    · subst c; simp
    · have : acc * m ≠ 0 := by
        intro e
        rcases Int.mul_eq_zero.1 e with e | e <;> omega
      rw [if_neg this, if_neg c]
      exact ⟨rfl, .inl rfl⟩
  | x :: r, acc, h, ha => by
    obtain ⟨h1, h2⟩ := h x List.mem_cons_self
    have h3 : x ≤ x * m := by
      have := Int.mul_le_mul_of_nonneg_left (show (1 : Int) ≤ m by omega) h1
      omega
    have h4 : 0 ≤ x * m := by omega
    show sumFrom (x * m :: times r m) (acc * m) = _ ∧ _
    rw [sumFrom, sumFrom, if_neg (by omega), if_neg (by omega), if_neg (by omega), if_neg (by omega), ← Int.add_mul]
    exact sumFrom_times m hm r (acc + x) (fun y hy => h y (List.mem_cons_of_mem _ hy)) (by omega)
theorem sumL_times (l : List Int) (m : Int) (hm : 0 < m) (h : ∀ x ∈ l, 0 ≤ x ∧ x * m ≤ 1073741824) : sumL (times l m) = ((sumL l).1 * m, (sumL l).2) := by
  unfold sumL
  rw [times_len]
  split
  · simp
  · have := (sumFrom_times m hm l 0 h (Int.le_refl _)).1
    rw [Int.zero_mul] at this
    exact this
theorem tdiv_times (a b m : Int) (hm : 0 < m) (ha : 0 ≤ a) (hb : 0 < b) : Int.tdiv (a * m) (b * m) = Int.tdiv a b := Int.mul_tdiv_mul_of_pos_left a b hm
theorem tmod_times (a b m : Int) (hm : 0 < m) : Int.tmod (a * m) (b * m) = Int.tmod a b * m := by
  have e1 := Int.mul_tdiv_add_tmod (a * m) (b * m)
  have e2 := Int.mul_tdiv_add_tmod a b
  rw [Int.mul_tdiv_mul_of_pos_left a b hm] at e1
  have e3 : a * m = b * m * Int.tdiv a b + Int.tmod a b * m := by
    have e4 : (b * Int.tdiv a b + Int.tmod a b) * m = b * m * Int.tdiv a b + Int.tmod a b * m := by
      rw [Int.add_mul, Int.mul_assoc, Int.mul_comm (Int.tdiv a b) m, ← Int.mul_assoc]
    rw [e2] at e4
    exact e4
  omega
theorem order_times (l : List Int) (m : Int) (hm : 0 < m) : orderL (times l m) = orderL l := by
  have g : ∀ i, (times l m).getD i 0 = l.getD i 0 * m := by
    intro i
    by_cases c : i < l.length
    · unfold times; rw [getD_map _ _ _ c]
    · rw [List.getD_eq_getElem?_getD, List.getElem?_eq_none (by rw [times_len]; omega), List.getD_eq_getElem?_getD, List.getElem?_eq_none (by omega)]
      simp
  have hA : ∀ a b, Ahead (times l m) a b ↔ Ahead l a b := by
    intro a b
    unfold Ahead
    rw [g, g]
    constructor
    · rintro (h | ⟨h1, h2⟩)
      · exact .inl (Int.lt_of_mul_lt_mul_right h (by omega))
      · exact .inr ⟨Int.eq_of_mul_eq_mul_right (by omega) h1, h2⟩
    · rintro (h | ⟨h1, h2⟩)
      · exact .inl (Int.mul_lt_mul_of_pos_right h hm)
      · exact .inr ⟨by rw [h1], h2⟩
  have h1 := orderN_spec (times l m)
  have h2 := orderN_spec l
  rw [times_len] at h1
  rw [orderL_eq, orderL_eq, order_unique l (orderN (times l m)) (orderN l) (h1.1.trans h2.1.symm) (h1.2.imp fun {a b} h => (hA a b).1 h) h2.2]
theorem share_times (l : List Int) (t m : Int) (hm : 0 < m) (h : ∀ x ∈ l, 0 ≤ x ∧ x * m ≤ 1073741824) : shareL (times l m) t = shareL l t := by
  unfold shareL
  rw [sumL_times l m hm h]
  by_cases c : t < 1 ∨ t > 4294967296
  · rw [if_pos c, if_pos c]
  · rw [if_neg c, if_neg c]
    by_cases c2 : (sumL l).2 = 0
    · have ok := shareOk c2 c
      have c3 : ¬ (sumL l).2 ≠ 0 := by rw [c2]; simp
      have ht1 := ok.t1
      have hq : quos (times l m) t ((sumL l).1 * m) = quos l t (sumL l).1 := by
        unfold quos times
        rw [List.map_map]
        apply List.map_congr_left
        intro x hx
        show Int.tdiv (x * m * t) _ = _
        rw [Int.mul_assoc, Int.mul_comm m t, ← Int.mul_assoc, tdiv_times _ _ _ hm (ok.quo x hx).1 ok.pos]
      have hr : rests (times l m) t ((sumL l).1 * m) = times (rests l t (sumL l).1) m := by
        unfold rests times
        rw [List.map_map, List.map_map]
        apply List.map_congr_left
        intro x hx
        show Int.tmod (x * m * t) _ = _
        rw [Int.mul_assoc, Int.mul_comm m t, ← Int.mul_assoc, tmod_times _ _ _ hm]
        rfl
      have hmi : missing (times l m) t ((sumL l).1 * m) = missing l t (sumL l).1 := by
        unfold missing
        rw [hq]
      show (if (sumL l).2 ≠ 0 then ([], (sumL l).2) else (bump (quos (times l m) t ((sumL l).1 * m)) ((orderL (rests (times l m) t ((sumL l).1 * m))).take (missing (times l m) t ((sumL l).1 * m)).toNat), (0 : Int))) = _
      rw [if_neg c3, if_neg c3, hq, hr, hmi, order_times _ _ hm]
    · have c4 : (sumL l).2 ≠ 0 := c2
      rw [if_pos c4, if_pos c4]

theorem scales_l (l : List Int) (t m : Int) (hl : l.length < 17592186044416) (hm : 1 ≤ m ∧ m ≤ 1073741824) : ∀ (d i : Nat), l.length - i = d → i ≤ l.length → (∀ x ∈ l.take i, 0 ≤ x ∧ x * m ≤ 1073741824) →
    ∃ K, ∀ k, K ≤ k → w07_RankScales.l0 k l t m (times (l.take i) m) (i : Int) = some true
  | 0, i, hd, hi, hx => by
    obtain rfl : i = l.length := by omega
    rw [List.take_length] at hx ⊢
    obtain ⟨K, hK⟩ := ref_share l t hl
    refine ⟨K + 10000 + l.length + 10, fun k hk => ?_⟩
    obtain ⟨k, rfl⟩ : ∃ q, k = q + 1 := ⟨k - 1, by omega⟩
    have hle := length_share l t
    rw [w07_RankScales.l0, if_neg (by omega), own_share _ _ k (by omega), Option.bind_some, own_share _ _ k (by omega), Option.bind_some, share_times l t m (by omega) hx, hK k (by omega), Option.bind_some, awake k (by omega), Option.bind_some, if_pos rfl,
      own_longs _ (by omega) k (by omega), Option.bind_some, if_pos rfl, if_pos rfl]
    simp
  | d + 1, i, hd, hi, hx => by
    have hq : Int.tdiv 1073741824 m = 1073741824 / m := Int.tdiv_eq_ediv_of_nonneg (by omega)
    have hq0 : 0 ≤ (1073741824 : Int) / m := Int.ediv_nonneg (by omega) (by omega)
    have hq1 : (1073741824 : Int) / m ≤ 1073741824 := Int.ediv_le_self _ (by omega)
    by_cases c1 : l.getD i 0 < 0
    · refine ⟨10001, fun k hk => ?_⟩
      obtain ⟨k, rfl⟩ : ∃ q, k = q + 1 := ⟨k - 1, by omega⟩
      rw [w07_RankScales.l0, if_pos (by omega), if_pos (by omega), rd_nat, if_pos c1, awake k (by omega)]
      rfl
    · by_cases c2 : l.getD i 0 > 1073741824 / m
      · refine ⟨10001, fun k hk => ?_⟩
        obtain ⟨k, rfl⟩ : ∃ q, k = q + 1 := ⟨k - 1, by omega⟩
        rw [w07_RankScales.l0, if_pos (by omega), if_pos (by omega), rd_nat, if_neg c1, if_neg (by omega), hq, w64 (by omega) (by omega), if_pos c2, awake k (by omega)]
        rfl
      · have hmul : l.getD i 0 * m ≤ 1073741824 := Int.mul_le_of_le_ediv (by omega) (by omega)
        have hnn : 0 ≤ l.getD i 0 * m := Int.mul_nonneg (by omega) (by omega)
        have et : times (l.take (i + 1)) m = times (l.take i) m ++ [l.getD i 0 * m] := by
          unfold times
          rw [List.take_succ_eq_append_getElem (by omega : i < l.length), List.map_append, List.getD_eq_getElem?_getD, List.getElem?_eq_getElem (by omega)]
          rfl
        obtain ⟨K, hK⟩ := scales_l l t m hl hm d (i + 1) (by omega) (by omega) (by
          intro x hxm
          rw [List.take_succ_eq_append_getElem (by omega : i < l.length)] at hxm
          rcases List.mem_append.1 hxm with h | h
          · exact hx x h
          · have e : x = l.getD i 0 := by
              rw [List.mem_singleton.1 h, List.getD_eq_getElem?_getD, List.getElem?_eq_getElem (by omega)]; rfl
            rw [e]
            omega)
        refine ⟨K + 1, fun k hk => ?_⟩
        obtain ⟨k, rfl⟩ : ∃ q, k = q + 1 := ⟨k - 1, by omega⟩
        rw [w07_RankScales.l0, if_pos (by omega), if_pos (by omega), rd_nat, if_neg c1, if_neg (by omega), hq, w64 (by omega) (by omega), if_neg c2, if_pos (by rw [times_len, List.length_take]; omega), w64 (x := l.getD i 0 * m) (by omega) (by omega), ← et, w64 (by omega) (by omega)]
        exact hK k (by omega)
theorem RankScales : w07_RankScales.Plain := by
  intro l t m hl ht hm
  obtain ⟨hl1, hl2, hl3⟩ := hl
  have hj : ∀ k, w07_RankScales.f k l t m = w07_RankScales.j0 k l t m (decide (m < 1 ∨ m > 1073741824)) := by
    intro k
    rw [w07_RankScales.f]
    by_cases c : m < 1
    · rw [if_pos c, decide_eq_true (Or.inl c)]
    · rw [if_neg c]
      congr 1
      by_cases c2 : m > 1073741824
      · rw [decide_eq_true c2, decide_eq_true (Or.inr c2)]
      · rw [decide_eq_false c2, decide_eq_false (by omega)]
  by_cases c : m < 1 ∨ m > 1073741824
  · refine ⟨10001, ?_⟩
    rw [hj, decide_eq_true c, w07_RankScales.j0, if_pos rfl, awake _ (by omega)]
    rfl
  · obtain ⟨K, hK⟩ := scales_l l t m (by omega) (by omega) _ 0 rfl (Nat.zero_le _) (by simp)
    refine ⟨K + 1, ?_⟩
    rw [hj, decide_eq_false c, w07_RankScales.j0, if_neg (by decide)]
    exact hK K (Nat.le_refl _)
end Go.Proofs.Ytfegaffcalpmbaa.Pure
