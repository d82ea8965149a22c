/- The one plain statement of the law AttendBetween. -/
import Derived.Test.YtmjepdhjginelaaB17
import Derived.Test.YtmjepdhjginelaaBArgs
namespace Go.Proofs.Ytmjepdhjginelaa.B
open Go.RowKit Go.Proofs.YtmjepdhjginelaaW.PrintWords Go.Proofs.Ytmjepdhjginelaa.Ops
def w19_AttendBetween.Plain : Prop := ∀ (x0 : List Int) (x1 : S43), (x0.length * 1 ≤ 140737488351232 ∧ x0.length ≤ 9223372036854775807 ∧ ∀ x0e ∈ x0, (Lit.int .i8 x0e).wf = true) → (G43 x1) → ∃ k, w19_AttendBetween.f k x0 x1.f0 x1.f1 x1.f2 = some true
end Go.Proofs.Ytmjepdhjginelaa.B
