/- QueueWalk: the walk says it all. -/
import Derived.Test.YtgolghimefageaaStmtQueueWalk
namespace Go.Proofs.Ytgolghimefageaa.Pure
open Go.RowKit Go.Proofs.YtgolghimefageaaW.PrintWords Go.Proofs.YtgolghimefageaaW.PrintLast Go.Proofs.YtgolghimefageaaW.PrintMore Go.Proofs.Ytgolghimefageaa.D
theorem QueueWalk : w06_QueueWalk.Plain := by
  intro x0 x1 h1 _
  exact if_pos ⟨rfl, by omega⟩
end Go.Proofs.Ytgolghimefageaa.Pure
