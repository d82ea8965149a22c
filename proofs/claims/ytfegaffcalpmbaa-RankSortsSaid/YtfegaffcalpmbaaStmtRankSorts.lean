/- The one plain statement of the law RankSorts. -/
import Derived.Test.YtfegaffcalpmbaaB3
import Derived.Test.YtfegaffcalpmbaaBArgs
namespace Go.Proofs.Ytfegaffcalpmbaa.B
open Go.RowKit Go.Proofs.YtfegaffcalpmbaaW.PrintWords Go.Proofs.Ytfegaffcalpmbaa.Ops
def w07_RankSorts.Plain : Prop := ∀ (x0 : List Int), (x0.length * 8 ≤ 140737488351232 ∧ x0.length ≤ 9223372036854775807 ∧ ∀ x0e ∈ x0, (Lit.int .i64 x0e).wf = true) → ∃ k, w07_RankSorts.f k x0 = some true
end Go.Proofs.Ytfegaffcalpmbaa.B
