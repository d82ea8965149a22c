/- the laws' 'awake' of chapter 7. -/
import Derived.Test.YtfegaffcalpmbaaPureRankBase2
namespace Go.Proofs.Ytfegaffcalpmbaa.Pure
set_option linter.unusedSimpArgs false
set_option linter.unusedVariables false
open Go.RowKit Go.Proofs.YtfegaffcalpmbaaW.PrintWords Go.Proofs.YtfegaffcalpmbaaW.PrintLast Go.Proofs.YtfegaffcalpmbaaW.PrintMore Go.Proofs.Ytfegaffcalpmbaa.A Go.Proofs.Ytfegaffcalpmbaa.St

instance (l : List Int) : DecidableRel (Ahead l) := fun a b => by unfold Ahead; infer_instance
theorem order_35 : orderL [3, 5] = [1, 0] := by
  have h : orderN [3, 5] = [1, 0] := order_unique [3, 5] _ _ ((orderN_spec [3, 5]).1.trans (by decide)) (orderN_spec [3, 5]).2 (by decide)
  rw [orderL_eq, h]
  rfl
theorem share_111 : shareL [1, 1, 1] 4 = ([2, 1, 1], 0) := by
  have hs : sumL [1, 1, 1] = (3, 0) := by decide +kernel
  have h0 : orderL [1, 1, 1] = [0, 1, 2] := by
    have h : orderN [1, 1, 1] = [0, 1, 2] := order_unique [1, 1, 1] _ _ ((orderN_spec [1, 1, 1]).1.trans (by decide)) (orderN_spec [1, 1, 1]).2 (by decide)
    rw [orderL_eq, h]
    rfl
  have hr : rests [1, 1, 1] 4 3 = [1, 1, 1] := by decide +kernel
  unfold shareL
  rw [hs]
  show (if (4 : Int) < 1 ∨ 4 > 4294967296 then ([], 1) else if (0 : Int) ≠ 0 then ([], 0) else (bump (quos [1, 1, 1] 4 3) ((orderL (rests [1, 1, 1] 4 3)).take (missing [1, 1, 1] 4 3).toNat), 0)) = _
  rw [hr, h0]
  decide +kernel
theorem awake (k : Nat) (hk : 10000 ≤ k) : w07_awake.f k = some true := by
  rw [w07_awake.f, own_share _ _ k hk, share_111, Option.bind_some, own_order _ (by decide), order_35, Option.bind_some]
  decide +kernel
end Go.Proofs.Ytfegaffcalpmbaa.Pure
