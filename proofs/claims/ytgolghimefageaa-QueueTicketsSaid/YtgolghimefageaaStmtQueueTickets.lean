/- The one plain statement of the law QueueTickets. -/
import Derived.Test.YtgolghimefageaaA1
import Derived.Test.YtgolghimefageaaAArgs
namespace Go.Proofs.Ytgolghimefageaa.A
open Go.RowKit Go.Proofs.YtgolghimefageaaW.PrintWords Go.Proofs.Ytgolghimefageaa.Ops
def w06_QueueTickets.Plain : Prop := ∀ (x0 : Int) (x1 : List (S40)), ((Lit.int .i64 x0).wf = true) → (x1.length * 40 ≤ 140737488351232 ∧ x1.length ≤ 9223372036854775807 ∧ ∀ x1e ∈ x1, G40 x1e) → w06_QueueTickets.f x0 x1 = some true
end Go.Proofs.Ytgolghimefageaa.A
