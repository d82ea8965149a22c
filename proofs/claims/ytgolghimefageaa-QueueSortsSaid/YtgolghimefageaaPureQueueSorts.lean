/- QueueSorts: the walk says it all. -/
import Derived.Test.YtgolghimefageaaStmtQueueSorts
namespace Go.Proofs.Ytgolghimefageaa.Pure
open Go.RowKit Go.Proofs.YtgolghimefageaaW.PrintWords Go.Proofs.YtgolghimefageaaW.PrintLast Go.Proofs.YtgolghimefageaaW.PrintMore Go.Proofs.Ytgolghimefageaa.B
theorem QueueSorts : w06_QueueSorts.Plain := by
  intro x0 x1 h1 _
  exact if_pos ⟨rfl, by omega⟩
end Go.Proofs.Ytgolghimefageaa.Pure
