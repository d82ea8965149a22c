/- The one plain statement of the law AttendScores. -/
import Derived.Test.YtmjepdhjginelaaB8
import Derived.Test.YtmjepdhjginelaaBArgs
namespace Go.Proofs.Ytmjepdhjginelaa.B
open Go.RowKit Go.Proofs.YtmjepdhjginelaaW.PrintWords Go.Proofs.Ytmjepdhjginelaa.Ops
def w19_AttendScores.Plain : Prop := ∀ (x0 : List Int) (x1 : List (List Int)) (x2 : Int), (x0.length * 1 ≤ 140737488351232 ∧ x0.length ≤ 9223372036854775807 ∧ ∀ x0e ∈ x0, (Lit.int .i8 x0e).wf = true) → (x1.length * 24 ≤ 140737488351232 ∧ x1.length ≤ 9223372036854775807 ∧ ∀ x1e ∈ x1, x1e.length * 1 ≤ 140737488351232 ∧ x1e.length ≤ 9223372036854775807 ∧ ∀ x1ee ∈ x1e, (Lit.int .i8 x1ee).wf = true) → ((Lit.int .i64 x2).wf = true) → ∃ k, w19_AttendScores.f k x0 x1 x2 = some true
end Go.Proofs.Ytmjepdhjginelaa.B
