/- The one plain statement of the law DistBits. -/
import Derived.Test.YthmckhfjaleomaaT33
import Derived.Test.YthmckhfjaleomaaTArgs
namespace Go.Proofs.Ythmckhfjaleomaa.T
open Go.RowKit Go.Proofs.YthmckhfjaleomaaW.PrintWords Go.Proofs.Ythmckhfjaleomaa.Ops
def w22_DistBits.Plain : Prop := ∀ (x0 : List Int), (x0.length * 8 ≤ 140737488351232 ∧ x0.length ≤ 9223372036854775807 ∧ ∀ x0e ∈ x0, (Lit.int .i64 x0e).wf = true) → ∃ k, w22_DistBits.f k x0 = some true
end Go.Proofs.Ythmckhfjaleomaa.T
