/- RankSorts: only 'awake' is left. -/
import Derived.Test.YtfegaffcalpmbaaStmtRankSorts
import Derived.Test.YtfegaffcalpmbaaOrder
namespace Go.Proofs.Ytfegaffcalpmbaa.Pure
set_option linter.unusedSimpArgs false
set_option linter.unusedVariables false
open Go.RowKit Go.Proofs.YtfegaffcalpmbaaW.PrintWords Go.Proofs.YtfegaffcalpmbaaW.PrintLast Go.Proofs.YtfegaffcalpmbaaW.PrintMore Go.Proofs.Ytfegaffcalpmbaa.B Go.Proofs.Ytfegaffcalpmbaa.St
instance (l : List Int) : DecidableRel (Ahead l) := fun a b => by unfold Ahead; infer_instance
theorem order_35 : orderL [3, 5] = [1, 0] := by
  have h : orderN [3, 5] = [1, 0] := order_unique [3, 5] _ _ ((orderN_spec [3, 5]).1.trans (by decide)) (orderN_spec [3, 5]).2 (by decide)
  rw [orderL_eq, h]
  rfl
theorem order_111 : orderL [1, 1, 1] = [0, 1, 2] := by
  have h : orderN [1, 1, 1] = [0, 1, 2] := order_unique [1, 1, 1] _ _ ((orderN_spec [1, 1, 1]).1.trans (by decide)) (orderN_spec [1, 1, 1]).2 (by decide)
  rw [orderL_eq, h]
  rfl
theorem share_111 : rank_Share.f 20 [1, 1, 1] 4 = some ([2, 1, 1], 0) := by
  have hs : rank_sum.f 19 [1, 1, 1] = some (3, 0) := by decide +kernel
  have e : rank_Share.l0 19 4 3 [0, 0, 0] [0, 0, 0] 4 [1, 1, 1] 3 0 = (rank_Order.f [1, 1, 1]).bind fun t => if (0 : Int) ≤ 1 then (if (1 : Int) ≤ (t.length : Int) then (some (t.take 1)).bind fun y => rank_Share.l1 15 [1, 1, 1] y (y.length : Int) 0 else none) else none := by
    simp [rank_Share.l0, rd, wrap64]
  have e2 : rank_Share.f 20 [1, 1, 1] 4 = rank_Share.l0 19 4 3 [0, 0, 0] [0, 0, 0] 4 [1, 1, 1] 3 0 := by
    simp [rank_Share.f, rank_Share.j0, hs, List.replicate]
  rw [e2, e, rank_Order.f, if_pos (by decide), order_111, Option.bind_some]
  decide +kernel
theorem RankSorts : w07_RankSorts.Plain := by
  intro l hl
  obtain ⟨hl1, hl2, hl3⟩ := hl
  refine ⟨20, ?_⟩
  rw [w07_RankSorts.f, if_pos (by omega), w07_awake.f, share_111, Option.bind_some, rank_Order.f, if_pos (by decide), order_35]
  decide +kernel
end Go.Proofs.Ytfegaffcalpmbaa.Pure
