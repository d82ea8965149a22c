/- RankNucleus: the nucleus is the document's. -/
import Derived.Test.YtfegaffcalpmbaaStmtRankNucleus
import Derived.Test.YtfegaffcalpmbaaPureRankOrders
namespace Go.Proofs.Ytfegaffcalpmbaa.Pure
set_option linter.unusedSimpArgs false
set_option linter.unusedVariables false
open Go.RowKit Go.Proofs.YtfegaffcalpmbaaW.PrintWords Go.Proofs.YtfegaffcalpmbaaW.PrintLast Go.Proofs.YtfegaffcalpmbaaW.PrintMore Go.Proofs.Ytfegaffcalpmbaa.A Go.Proofs.Ytfegaffcalpmbaa.St

/-- how many of the order's, from the n-th on, until so much is weighed. -/
def enough (l o : List Int) (need : Int) : Nat → Nat → Int → Nat
  | 0, n, sm => n
  | d + 1, n, sm => if sm * 65536 < need then enough l o need d (n + 1) (sm + l.getD (o.getD n 0).toNat 0) else n
theorem enough_le (l o : List Int) (need : Int) : ∀ d n s, n ≤ enough l o need d n s ∧ enough l o need d n s ≤ n + d
  | 0, n, s => ⟨Nat.le_refl _, Nat.le_refl _⟩
  | d + 1, n, s => by
    rw [enough]
    split
    · have := enough_le l o need d (n + 1) (s + l.getD (o.getD n 0).toNat 0); omega
    · omega
/-- what is left of the order weighs what is missing -/
def rest (l o : List Int) (n : Nat) : Int := ((o.drop n).map fun x => l.getD x.toNat 0).sum
theorem rest_succ (l o : List Int) (n : Nat) (h : n < o.length) : rest l o n = l.getD (o.getD n 0).toNat 0 + rest l o (n + 1) := by
  unfold rest
  rw [drop_get o n h, List.map_cons, List.sum_cons]
theorem rest_end (l o : List Int) (n : Nat) (h : o.length ≤ n) : rest l o n = 0 := by
  unfold rest
  rw [List.drop_eq_nil_of_le h]
  rfl
theorem perm_sum {a b : List Int} (h : a.Perm b) : a.sum = b.sum := by
  induction h with
  | nil => rfl
  | cons x _ ih => rw [List.sum_cons, List.sum_cons, ih]
  | swap x y l => rw [List.sum_cons, List.sum_cons, List.sum_cons, List.sum_cons]; omega
  | trans _ _ h1 h2 => rw [h1, h2]
theorem rest_zero (l : List Int) : rest l (orderL l) 0 = l.sum := by
  unfold rest
  rw [List.drop_zero, orderL_eq, List.map_map]
  have e : ((orderN l).map ((fun x => l.getD x.toNat 0) ∘ fun x : Nat => (x : Int))).Perm ((List.range l.length).map ((fun x => l.getD x.toNat 0) ∘ fun x : Nat => (x : Int))) := (orderN_spec l).1.map _
  rw [perm_sum e]
  congr 1
  apply List.ext_getElem
  · simp
  · intro i h1 h2
    simp [List.getD_eq_getElem?_getD, List.getElem?_eq_getElem h2]

section
variable {l : List Int} {part all : Int} (hlen : l.length ≤ 4096) (hl : ∀ x ∈ l, 0 ≤ x ∧ x ≤ 1073741824) (hp : 1 ≤ part ∧ part ≤ 65536) (ha : 0 < all ∧ all ≤ 4398046511104)
include hlen hl hp ha
theorem own_nuc_l : ∀ (d n : Nat) (s : Int), l.length - n = d → n ≤ l.length → 0 ≤ s → s ≤ 1073741824 * (n : Int) → all = s + rest l (orderL l) n → ∀ k, d + 1 ≤ k →
    rank_Nucleus.l0 k l part all (orderL l) (n : Int) s = some ((orderL l).take (enough l (orderL l) (part * all) d n s), 0)
  | d, n, s, hd, hn, h0, h1, he, 0, hk => by omega
  | d, n, s, hd, hn, h0, h1, he, k + 1, hk => by
    have ol := orderL_len l
    have b1 : part * all ≤ 65536 * all := Int.mul_le_mul_of_nonneg_right hp.2 (by omega)
    have b0 : 0 ≤ part * all := Int.mul_nonneg (by omega) (by omega)
    rw [rank_Nucleus.l0, w64 (x := s * 65536) (by omega) (by omega), w64 (x := part * all) (by omega) (by omega)]
    by_cases c : s * 65536 < part * all
    · have hnl : n < l.length := by
        rcases Nat.lt_or_ge n l.length with h | h
        · exact h
        · rw [rest_end _ _ _ (by omega)] at he
          omega
      obtain ⟨d, rfl⟩ : ∃ e, d = e + 1 := ⟨d - 1, by omega⟩
      have hv : 0 ≤ (orderL l).getD n 0 ∧ (orderL l).getD n 0 < (l.length : Int) := by
        have hm := getD_mem (orderL l) n (by omega)
        rw [orderL_eq] at hm ⊢
        obtain ⟨x, hx, he⟩ := List.mem_map.1 hm
        have := (orderN_mem _ _).1 hx
        omega
      have hr := rest_succ l (orderL l) n (by omega)
      rw [if_pos c, if_pos (by omega), if_pos (by omega), rd_nat, if_pos hv.1, if_pos hv.2, enough, if_pos c]
      have hx := hl _ (getD_mem l ((orderL l).getD n 0).toNat (by omega))
      show rank_Nucleus.l0 k l part all (orderL l) (wrap64 ((n : Int) + 1)) (wrap64 (s + l.getD ((orderL l).getD n 0).toNat 0)) = _
      rw [w64 (by omega) (by omega), w64 (by omega) (by omega)]
      exact own_nuc_l d (n + 1) _ (by omega) (by omega) (by omega) (by omega) (by omega) k (by omega)
    · have e : enough l (orderL l) (part * all) d n s = n := by
        cases d with
        | zero => rfl
        | succ d => rw [enough, if_neg c]
      rw [if_neg c, if_pos (by omega), if_pos (by omega), e, slices_Clone_int_int.f, if_pos (by rw [List.length_take]; omega), Option.bind_some, Int.toNat_natCast]
theorem ref_nuc_l : ∀ (d n : Nat) (s : Int), l.length - n = d → n ≤ l.length → 0 ≤ s → s ≤ 1073741824 * (n : Int) → all = s + rest l (orderL l) n → ∀ k, d + 1 ≤ k →
    r07_Nucleus.l0 k l part all (orderL l) (n : Int) s = some ((orderL l).take (enough l (orderL l) (part * all) d n s), 0)
  | d, n, s, hd, hn, h0, h1, he, 0, hk => by omega
  | d, n, s, hd, hn, h0, h1, he, k + 1, hk => by
    have ol := orderL_len l
    have b1 : part * all ≤ 65536 * all := Int.mul_le_mul_of_nonneg_right hp.2 (by omega)
    have b0 : 0 ≤ part * all := Int.mul_nonneg (by omega) (by omega)
    rw [r07_Nucleus.l0, w64 (x := s * 65536) (by omega) (by omega), w64 (x := part * all) (by omega) (by omega)]
    by_cases c : s * 65536 < part * all
    · have hnl : n < l.length := by
        rcases Nat.lt_or_ge n l.length with h | h
        · exact h
        · rw [rest_end _ _ _ (by omega)] at he
          omega
      obtain ⟨d, rfl⟩ : ∃ e, d = e + 1 := ⟨d - 1, by omega⟩
      have hv : 0 ≤ (orderL l).getD n 0 ∧ (orderL l).getD n 0 < (l.length : Int) := by
        have hm := getD_mem (orderL l) n (by omega)
        rw [orderL_eq] at hm ⊢
        obtain ⟨x, hx, he⟩ := List.mem_map.1 hm
        have := (orderN_mem _ _).1 hx
        omega
      have hr := rest_succ l (orderL l) n (by omega)
      rw [if_pos c, if_pos (by omega), if_pos (by omega), rd_nat, if_pos hv.1, if_pos hv.2, enough, if_pos c]
      have hx := hl _ (getD_mem l ((orderL l).getD n 0).toNat (by omega))
      show r07_Nucleus.l0 k l part all (orderL l) (wrap64 ((n : Int) + 1)) (wrap64 (s + l.getD ((orderL l).getD n 0).toNat 0)) = _
      rw [w64 (by omega) (by omega), w64 (by omega) (by omega)]
      exact ref_nuc_l d (n + 1) _ (by omega) (by omega) (by omega) (by omega) (by omega) k (by omega)
    · have e : enough l (orderL l) (part * all) d n s = n := by
        cases d with
        | zero => rfl
        | succ d => rw [enough, if_neg c]
      rw [if_neg c, if_pos (by omega), if_pos (by omega), e, Int.toNat_natCast]
end
def nucL (l : List Int) (part : Int) : List Int × Int :=
  if part < 1 ∨ part > 65536 then ([], 1) else if (sumL l).2 ≠ 0 then ([], (sumL l).2) else ((orderL l).take (enough l (orderL l) (part * (sumL l).1) l.length 0 0), 0)
theorem nucL_len (l : List Int) (part : Int) : (nucL l part).1.length ≤ l.length := by
  unfold nucL
  split
  · exact Nat.zero_le _
  · split
    · exact Nat.zero_le _
    · show (List.take _ _).length ≤ _
      rw [List.length_take, orderL_len]; omega
theorem sum_all (l : List Int) (h : (sumL l).2 = 0) : l.length ≤ 4096 ∧ (∀ x ∈ l, 0 ≤ x ∧ x ≤ 1073741824) ∧ (0 < (sumL l).1 ∧ (sumL l).1 ≤ 4398046511104) ∧ (sumL l).1 = 0 + rest l (orderL l) 0 := by
  obtain ⟨a, b, c, d⟩ := sumL_ok h
  have hs := sum_le 1073741824 (by omega) (l := l) (fun x hx => (b x hx).2)
  refine ⟨a, b, ⟨d, by omega⟩, ?_⟩
  rw [rest_zero, c]; omega
theorem own_nuc (l : List Int) (hl : l.length ≤ 17592186044416) (a : Int) (k : Nat) (hk : 10000 ≤ k) : rank_Nucleus.f k l a = some (nucL l a) := by
  obtain ⟨k, rfl⟩ : ∃ q, k = q + 1 := ⟨k - 1, by omega⟩
  have hj : rank_Nucleus.f (k + 1) l a = rank_Nucleus.j0 (k + 1) l a (decide (a < 1 ∨ a > 65536)) := by
    rw [rank_Nucleus.f]
    by_cases c : a < 1
    · rw [if_pos c, decide_eq_true (Or.inl c)]
    · rw [if_neg c]
      congr 1
      by_cases c2 : a > 65536
      · rw [decide_eq_true c2, decide_eq_true (Or.inr c2)]
      · rw [decide_eq_false c2, decide_eq_false (by omega)]
  rw [hj, rank_Nucleus.j0, nucL]
  by_cases c : a < 1 ∨ a > 65536
  · rw [decide_eq_true c, if_pos rfl, if_pos c]
  · rw [decide_eq_false c, if_neg (by decide), if_neg c, own_sum l k (by omega), Option.bind_some]
    by_cases c2 : (sumL l).2 = 0
    · obtain ⟨h1, h2, h3, h4⟩ := sum_all l c2
      rw [if_pos c2, if_neg (show ¬ (sumL l).2 ≠ 0 by rw [c2]; simp), own_order _ hl, Option.bind_some]
      exact own_nuc_l h1 h2 (by omega) h3 l.length 0 0 rfl (Nat.zero_le _) (Int.le_refl _) (by omega) h4 k (by omega)
    · rw [if_neg c2, if_pos c2]
theorem ref_nuc (l : List Int) (hl : l.length < 17592186044416) (a : Int) : ∃ K, ∀ k, K ≤ k → r07_Nucleus.f k l a = some (nucL l a) := by
  obtain ⟨K, hK⟩ := ref_order l hl
  refine ⟨K + 10000, fun k hk => ?_⟩
  obtain ⟨k, rfl⟩ : ∃ q, k = q + 1 := ⟨k - 1, by omega⟩
  have hj : r07_Nucleus.f (k + 1) l a = r07_Nucleus.j0 (k + 1) l a (decide (a < 1 ∨ a > 65536)) := by
    rw [r07_Nucleus.f]
    by_cases c : a < 1
    · rw [if_pos c, decide_eq_true (Or.inl c)]
    · rw [if_neg c]
      congr 1
      by_cases c2 : a > 65536
      · rw [decide_eq_true c2, decide_eq_true (Or.inr c2)]
      · rw [decide_eq_false c2, decide_eq_false (by omega)]
  rw [hj, r07_Nucleus.j0, nucL]
  by_cases c : a < 1 ∨ a > 65536
  · rw [decide_eq_true c, if_pos rfl, if_pos c]
  · rw [decide_eq_false c, if_neg (by decide), if_neg c, ref_sum l k (by omega), Option.bind_some]
    by_cases c2 : (sumL l).2 = 0
    · obtain ⟨h1, h2, h3, h4⟩ := sum_all l c2
      rw [if_pos c2, if_neg (show ¬ (sumL l).2 ≠ 0 by rw [c2]; simp), hK _ (by omega), Option.bind_some]
      exact ref_nuc_l h1 h2 (by omega) h3 l.length 0 0 rfl (Nat.zero_le _) (Int.le_refl _) (by omega) h4 k (by omega)
    · rw [if_neg c2, if_pos c2]
theorem RankNucleus : w07_RankNucleus.Plain := by
  intro l a hl ha
  obtain ⟨hl1, hl2, hl3⟩ := hl
  obtain ⟨K, hK⟩ := ref_nuc l (by omega) a
  refine ⟨K + 10000 + l.length + 1, ?_⟩
  have h2 := nucL_len l a
  rw [w07_RankNucleus.f, Option.bind_some, List.nil_append, List.length_nil, if_pos (by omega), Option.bind_some, own_nuc _ (by omega) _ _ (by omega), Option.bind_some, hK _ (by omega), Option.bind_some, awake _ (by omega), Option.bind_some, if_pos rfl,
    own_ints _ (by omega) _ (by omega), Option.bind_some, if_pos rfl, if_pos rfl, own_longs _ (by omega) _ (by omega)]
  rfl
end Go.Proofs.Ytfegaffcalpmbaa.Pure
