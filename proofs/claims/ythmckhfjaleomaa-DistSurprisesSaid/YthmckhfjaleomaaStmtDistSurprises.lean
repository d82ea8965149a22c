/- The one plain statement of the law DistSurprises. -/
import Derived.Test.YthmckhfjaleomaaT32
import Derived.Test.YthmckhfjaleomaaTArgs
namespace Go.Proofs.Ythmckhfjaleomaa.T
open Go.RowKit Go.Proofs.YthmckhfjaleomaaW.PrintWords Go.Proofs.Ythmckhfjaleomaa.Ops
def w22_DistSurprises.Plain : Prop := ∀ (x0 : List Int) (x1 : Int), (x0.length * 8 ≤ 140737488351232 ∧ x0.length ≤ 9223372036854775807 ∧ ∀ x0e ∈ x0, (Lit.int .i64 x0e).wf = true) → ((Lit.int .i64 x1).wf = true) → ∃ k, w22_DistSurprises.f k x0 x1 = some true
end Go.Proofs.Ythmckhfjaleomaa.T
