/- The one plain statement of the law RankBy. -/
import Derived.Test.YtfegaffcalpmbaaA13
import Derived.Test.YtfegaffcalpmbaaAArgs
namespace Go.Proofs.Ytfegaffcalpmbaa.A
open Go.RowKit Go.Proofs.YtfegaffcalpmbaaW.PrintWords Go.Proofs.Ytfegaffcalpmbaa.Ops
def w07_RankBy.Plain : Prop := ∀ (x0 : List (S38)) (x1 : Bool), (x0.length * 24 ≤ 140737488351232 ∧ x0.length ≤ 9223372036854775807 ∧ ∀ x0e ∈ x0, G38 x0e) → (True) → ∃ k, w07_RankBy.f k x0 x1 = some true
end Go.Proofs.Ytfegaffcalpmbaa.A
