/- The one plain statement of the law RankNucleus. -/
import Derived.Test.YtfegaffcalpmbaaA7
import Derived.Test.YtfegaffcalpmbaaAArgs
namespace Go.Proofs.Ytfegaffcalpmbaa.A
open Go.RowKit Go.Proofs.YtfegaffcalpmbaaW.PrintWords Go.Proofs.Ytfegaffcalpmbaa.Ops
def w07_RankNucleus.Plain : Prop := ∀ (x0 : List Int) (x1 : Int), (x0.length * 8 ≤ 140737488351232 ∧ x0.length ≤ 9223372036854775807 ∧ ∀ x0e ∈ x0, (Lit.int .i64 x0e).wf = true) → ((Lit.int .i64 x1).wf = true) → ∃ k, w07_RankNucleus.f k x0 x1 = some true
end Go.Proofs.Ytfegaffcalpmbaa.A
