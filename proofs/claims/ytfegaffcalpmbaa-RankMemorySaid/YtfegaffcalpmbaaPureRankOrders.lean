/- RankOrders: the order and its beginnings are the document's. -/
import Derived.Test.YtfegaffcalpmbaaStmtRankOrders
import Derived.Test.YtfegaffcalpmbaaPureRankBase3
namespace Go.Proofs.Ytfegaffcalpmbaa.Pure
set_option linter.unusedSimpArgs false
set_option linter.unusedVariables false
open Go.RowKit Go.Proofs.YtfegaffcalpmbaaW.PrintWords Go.Proofs.YtfegaffcalpmbaaW.PrintLast Go.Proofs.YtfegaffcalpmbaaW.PrintMore Go.Proofs.Ytfegaffcalpmbaa.A Go.Proofs.Ytfegaffcalpmbaa.St

theorem own_ints_l (l : List Int) (hl : l.length ≤ 17592186044416) : ∀ (d i : Nat), l.length - i = d → i ≤ l.length → ∀ k, d + 1 ≤ k → w07_ints.l0 k l l (i : Int) = some true
  | d, i, hd, hi, 0, hk => by omega
  | d, i, hd, hi, k + 1, hk => by
    rw [w07_ints.l0]
    by_cases c : i < l.length
    · rw [if_pos (by omega), if_pos (by omega), if_pos (by omega), if_pos rfl, w64 (by omega) (by omega)]
      exact own_ints_l l hl (l.length - (i + 1)) (i + 1) rfl (by omega) k (by omega)
    · rw [if_neg (by omega)]
theorem own_ints (l : List Int) (hl : l.length ≤ 17592186044416) (k : Nat) (hk : l.length + 1 ≤ k) : w07_ints.f k l l = some true := by
  rw [w07_ints.f, if_pos rfl]
  exact own_ints_l l hl _ 0 rfl (Nat.zero_le _) k (by omega)
def topL (l : List Int) (k : Int) : List Int := if k > 0 ∧ k < (l.length : Int) then (orderL l).take k.toNat else orderL l
theorem orderL_len (l : List Int) : (orderL l).length = l.length := by rw [orderL_eq, List.length_map, orderN_length]
theorem topL_len (l : List Int) (k : Int) : (topL l k).length ≤ l.length := by
  unfold topL
  split
  · rw [List.length_take, orderL_len]; omega
  · rw [orderL_len]; exact Nat.le_refl _
theorem own_top (l : List Int) (hl : l.length ≤ 17592186044416) (a : Int) : rank_Top.f l a = some (topL l a) := by
  rw [rank_Top.f, own_order _ hl, Option.bind_some, topL, orderL_len]
  by_cases c : a > 0
  · rw [if_pos c]
    by_cases c2 : a < (l.length : Int)
    · rw [if_pos c2, if_pos (by omega), if_pos (by omega), if_pos ⟨c, c2⟩, slices_Clone_int_int.f, if_pos (by rw [List.length_take, orderL_len]; omega)]
      rfl
    · rw [if_neg c2, if_neg (by omega)]
  · rw [if_neg c, if_neg (by omega)]
theorem ref_top (l : List Int) (a : Int) (k : Nat) (h : r07_Order.f k l = some (orderL l)) : r07_Top.f k l a = some (topL l a) := by
  rw [r07_Top.f, h, Option.bind_some, topL, orderL_len]
  by_cases c : a > 0
  · rw [if_pos c]
    by_cases c2 : a < (l.length : Int)
    · rw [if_pos c2, if_pos (by omega), if_pos (by omega), if_pos ⟨c, c2⟩]
    · rw [if_neg c2, if_neg (by omega)]
  · rw [if_neg c, if_neg (by omega)]
theorem RankOrders : w07_RankOrders.Plain := by
  intro l a hl ha
  obtain ⟨hl1, hl2, hl3⟩ := hl
  obtain ⟨K, hK⟩ := ref_order l (by omega)
  refine ⟨K + 10000 + l.length + 1, ?_⟩
  have h1 := orderL_len l
  have h2 := topL_len l a
  rw [w07_RankOrders.f, Option.bind_some, List.nil_append, List.length_nil, if_pos (by omega), Option.bind_some, awake _ (by omega), Option.bind_some, if_pos rfl, own_order _ (by omega), Option.bind_some, hK _ (by omega), Option.bind_some,
    own_ints _ (by omega) _ (by omega), Option.bind_some, if_pos rfl, own_top _ (by omega), Option.bind_some, ref_top _ _ _ (hK _ (by omega)), Option.bind_some, own_ints _ (by omega) _ (by omega), Option.bind_some, if_pos rfl, own_longs _ (by omega) _ (by omega)]
  rfl
end Go.Proofs.Ytfegaffcalpmbaa.Pure
