/- The one plain statement of the law DistPenalties. -/
import Derived.Test.YthmckhfjaleomaaT26
import Derived.Test.YthmckhfjaleomaaTArgs
namespace Go.Proofs.Ythmckhfjaleomaa.T
open Go.RowKit Go.Proofs.YthmckhfjaleomaaW.PrintWords Go.Proofs.Ythmckhfjaleomaa.Ops
def w22_DistPenalties.Plain : Prop := ∀ (x0 : List Int) (x1 : List Int) (x2 : S53), (x0.length * 8 ≤ 140737488351232 ∧ x0.length ≤ 9223372036854775807 ∧ ∀ x0e ∈ x0, (Lit.int .i64 x0e).wf = true) → (x1.length * 8 ≤ 140737488351232 ∧ x1.length ≤ 9223372036854775807 ∧ ∀ x1e ∈ x1, (Lit.int .i64 x1e).wf = true) → (G53 x2) → ∃ k, w22_DistPenalties.f k x0 x1 x2.f0 x2.f1 x2.f2 = some true
end Go.Proofs.Ythmckhfjaleomaa.T
