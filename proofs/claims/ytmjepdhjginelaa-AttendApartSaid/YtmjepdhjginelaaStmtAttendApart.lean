/- The one plain statement of the law AttendApart. -/
import Derived.Test.YtmjepdhjginelaaB18
import Derived.Test.YtmjepdhjginelaaBArgs
namespace Go.Proofs.Ytmjepdhjginelaa.B
open Go.RowKit Go.Proofs.YtmjepdhjginelaaW.PrintWords Go.Proofs.Ytmjepdhjginelaa.Ops
def w19_AttendApart.Plain : Prop := ∀ (x0 : List Int) (x1 : S43) (x2 : Int), (x0.length * 1 ≤ 140737488351232 ∧ x0.length ≤ 9223372036854775807 ∧ ∀ x0e ∈ x0, (Lit.int .i8 x0e).wf = true) → (G43 x1) → ((Lit.int .i64 x2).wf = true) → ∃ k, w19_AttendApart.f k x0 x1.f0 x1.f1 x1.f2 x2 = some true
end Go.Proofs.Ytmjepdhjginelaa.B
