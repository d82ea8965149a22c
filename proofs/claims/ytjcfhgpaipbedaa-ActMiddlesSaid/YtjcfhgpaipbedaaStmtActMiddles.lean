/- The one plain statement of the law ActMiddles. -/
import Derived.Test.YtjcfhgpaipbedaaA14
import Derived.Test.YtjcfhgpaipbedaaAArgs
namespace Go.Proofs.Ytjcfhgpaipbedaa.A
open Go.RowKit Go.Proofs.YtjcfhgpaipbedaaW.PrintWords Go.Proofs.Ytjcfhgpaipbedaa.Ops
def w12_ActMiddles.Plain : Prop := ∀ (x0 : S36) (x1 : List Int) (x2 : List Int), (G36 x0) → (x1.length * 1 ≤ 140737488351232 ∧ x1.length ≤ 9223372036854775807 ∧ ∀ x1e ∈ x1, (Lit.int .i8 x1e).wf = true) → (x2.length * 1 ≤ 140737488351232 ∧ x2.length ≤ 9223372036854775807 ∧ ∀ x2e ∈ x2, (Lit.int .i8 x2e).wf = true) → ∃ k, w12_ActMiddles.f k x0.f0 x0.f1 x0.f2 x0.f3 x0.f4 x0.f5 x1 x2 = some true
end Go.Proofs.Ytjcfhgpaipbedaa.A
