/- The one plain statement of the law QueueSorts. -/
import Derived.Test.YtgolghimefageaaB1
import Derived.Test.YtgolghimefageaaBArgs
namespace Go.Proofs.Ytgolghimefageaa.B
open Go.RowKit Go.Proofs.YtgolghimefageaaW.PrintWords Go.Proofs.Ytgolghimefageaa.Ops
def w06_QueueSorts.Plain : Prop := ∀ (x0 : List ByteArray) (x1 : Bool), (x0.length * 16 ≤ 140737488351232 ∧ x0.length ≤ 9223372036854775807 ∧ ∀ x0e ∈ x0, x0e.size ≤ 140737488351232) → (True) → w06_QueueSorts.f x0 x1 = some true
end Go.Proofs.Ytgolghimefageaa.B
