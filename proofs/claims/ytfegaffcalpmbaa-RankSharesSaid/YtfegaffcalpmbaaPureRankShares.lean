/- RankShares: the shares are the document's. -/
import Derived.Test.YtfegaffcalpmbaaStmtRankShares
import Derived.Test.YtfegaffcalpmbaaPureRankBase3
namespace Go.Proofs.Ytfegaffcalpmbaa.Pure
set_option linter.unusedSimpArgs false
set_option linter.unusedVariables false
open Go.RowKit Go.Proofs.YtfegaffcalpmbaaW.PrintWords Go.Proofs.YtfegaffcalpmbaaW.PrintLast Go.Proofs.YtfegaffcalpmbaaW.PrintMore Go.Proofs.Ytfegaffcalpmbaa.A Go.Proofs.Ytfegaffcalpmbaa.St

theorem RankShares : w07_RankShares.Plain := by
  intro l t hl ht
  obtain ⟨hl1, hl2, hl3⟩ := hl
  obtain ⟨K, hK⟩ := ref_share l t (by omega)
  refine ⟨K + 10000 + l.length + 1, ?_⟩
  have hle := length_share l t
  rw [w07_RankShares.f, Option.bind_some, List.nil_append, List.length_nil, if_pos (by omega), Option.bind_some, own_share _ _ _ (by omega), Option.bind_some, hK _ (by omega), Option.bind_some, awake _ (by omega), Option.bind_some, if_pos rfl,
    own_longs _ (by omega) _ (by omega), Option.bind_some, if_pos rfl, if_pos rfl, own_longs _ (by omega) _ (by omega)]
  rfl
end Go.Proofs.Ytfegaffcalpmbaa.Pure
