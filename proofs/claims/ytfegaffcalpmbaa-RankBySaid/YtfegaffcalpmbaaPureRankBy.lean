/- RankBy: awake, the document's order at the keys, and two equal rows. -/
import Derived.Test.YtfegaffcalpmbaaStmtRankBy
import Derived.Test.YtfegaffcalpmbaaPureRankBase3
namespace Go.Proofs.Ytfegaffcalpmbaa.Pure
set_option linter.unusedSimpArgs false
set_option linter.unusedVariables false
open Go.RowKit Go.Proofs.YtfegaffcalpmbaaW.PrintWords Go.Proofs.YtfegaffcalpmbaaW.PrintLast Go.Proofs.YtfegaffcalpmbaaW.PrintMore Go.Proofs.Ytfegaffcalpmbaa.A Go.Proofs.Ytfegaffcalpmbaa.St
theorem by_ints_l (l : List Int) (hl : l.length ≤ 17592186044416) : ∀ (d i : Nat), l.length - i = d → i ≤ l.length → ∀ k, d + 1 ≤ k → w07_ints.l0 k l l (i : Int) = some true
  | d, i, hd, hi, 0, hk => by omega
  | d, i, hd, hi, k + 1, hk => by
    rw [w07_ints.l0]
    by_cases c : i < l.length
    · rw [if_pos (by omega), if_pos (by omega), if_pos (by omega), if_pos rfl, w64 (by omega) (by omega)]
      exact by_ints_l l hl (l.length - (i + 1)) (i + 1) rfl (by omega) k (by omega)
    · rw [if_neg (by omega)]
theorem by_ints (l : List Int) (hl : l.length ≤ 17592186044416) (k : Nat) (hk : l.length + 1 ≤ k) : w07_ints.f k l l = some true := by
  rw [w07_ints.f, if_pos rfl]
  exact by_ints_l l hl _ 0 rfl (Nat.zero_le _) k (by omega)
theorem RankBy : w07_RankBy.Plain := by
  intro l down hl _
  obtain ⟨hl1, hl2, hl3⟩ := hl
  have hk : (w07_RankBy.keys down l).length = l.length := by simp [w07_RankBy.keys, keysB]
  have ho : (orderL (w07_RankBy.keys down l)).length = l.length := by rw [orderL_eq, List.length_map, orderN_length, hk]
  obtain ⟨K, hK⟩ := ref_order (w07_RankBy.keys down l) (by omega)
  refine ⟨K + 10000 + l.length + 1, ?_⟩
  have hb : ∀ t ∈ l, -9223372036854775808 ≤ t.f0 ∧ t.f0 < 9223372036854775808 := by
    intro t ht
    have h' : (decide (IntKind.i64.min ≤ t.f0) && decide (t.f0 ≤ IntKind.i64.max)) = true := (hl3 t ht).1
    rw [Bool.and_eq_true, decide_eq_true_eq, decide_eq_true_eq] at h'
    have h1 : -9223372036854775808 ≤ t.f0 := h'.1
    have h2 : t.f0 ≤ 9223372036854775807 := h'.2
    exact ⟨h1, Int.lt_of_le_of_lt h2 (by decide)⟩
  have h : l.length * 24 ≤ 140737488351232 ∧ (∀ t ∈ l, -9223372036854775808 ≤ t.f0 ∧ t.f0 < 9223372036854775808) ∧ w07_awake.f (K + 10000 + l.length + 1) = some true ∧ r07_Order.f (K + 10000 + l.length + 1) (w07_RankBy.keys down l) = some (orderL (w07_RankBy.keys down l)) ∧
    w07_ints.f (K + 10000 + l.length + 1) (orderL (w07_RankBy.keys down l)) (orderL (w07_RankBy.keys down l)) = some true := ⟨hl1, hb, awake _ (by omega), hK _ (by omega), by_ints _ (by omega) _ (by omega)⟩
  rw [w07_RankBy.f, if_pos h]
end Go.Proofs.Ytfegaffcalpmbaa.Pure
