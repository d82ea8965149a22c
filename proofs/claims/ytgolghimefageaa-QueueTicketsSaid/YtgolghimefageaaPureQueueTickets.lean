/- QueueTickets: the walk says it all. -/
import Derived.Test.YtgolghimefageaaStmtQueueTickets
namespace Go.Proofs.Ytgolghimefageaa.Pure
open Go.RowKit Go.Proofs.YtgolghimefageaaW.PrintWords Go.Proofs.YtgolghimefageaaW.PrintLast Go.Proofs.YtgolghimefageaaW.PrintMore Go.Proofs.Ytgolghimefageaa.A
theorem QueueTickets : w06_QueueTickets.Plain := by
  intro x0 x1 _ h1
  refine if_pos ⟨rfl, by omega, fun o ho => ?_⟩
  have h' : (decide (IntKind.i64.min ≤ o.f3) && decide (o.f3 ≤ IntKind.i64.max)) = true := (h1.2.2 o ho).2.2.2
  rw [Bool.and_eq_true, decide_eq_true_eq, decide_eq_true_eq] at h'
  exact h'
end Go.Proofs.Ytgolghimefageaa.Pure
