/- The one plain statement of the law QueueWalk. -/
import Derived.Test.YtgolghimefageaaD1
import Derived.Test.YtgolghimefageaaDArgs
namespace Go.Proofs.Ytgolghimefageaa.D
open Go.RowKit Go.Proofs.YtgolghimefageaaW.PrintWords Go.Proofs.Ytgolghimefageaa.Ops
def w06_QueueWalk.Plain : Prop := ∀ (x0 : List Int) (x1 : Int), (x0.length * 8 ≤ 140737488351232 ∧ x0.length ≤ 9223372036854775807 ∧ ∀ x0e ∈ x0, (Lit.int .i64 x0e).wf = true) → ((Lit.int .i64 x1).wf = true) → w06_QueueWalk.f x0 x1 = some true
end Go.Proofs.Ytgolghimefageaa.D
