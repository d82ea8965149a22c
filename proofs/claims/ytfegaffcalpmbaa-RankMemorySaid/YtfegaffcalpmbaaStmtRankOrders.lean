/- The one plain statement of the law RankOrders. -/
import Derived.Test.YtfegaffcalpmbaaA6
import Derived.Test.YtfegaffcalpmbaaAArgs
namespace Go.Proofs.Ytfegaffcalpmbaa.A
open Go.RowKit Go.Proofs.YtfegaffcalpmbaaW.PrintWords Go.Proofs.Ytfegaffcalpmbaa.Ops
def w07_RankOrders.Plain : Prop := ∀ (x0 : List Int) (x1 : Int), (x0.length * 8 ≤ 140737488351232 ∧ x0.length ≤ 9223372036854775807 ∧ ∀ x0e ∈ x0, (Lit.int .i64 x0e).wf = true) → ((Lit.int .i64 x1).wf = true) → ∃ k, w07_RankOrders.f k x0 x1 = some true
end Go.Proofs.Ytfegaffcalpmbaa.A
