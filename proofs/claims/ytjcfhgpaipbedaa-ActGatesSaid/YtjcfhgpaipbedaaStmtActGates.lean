/- The one plain statement of the law ActGates. -/
import Derived.Test.YtjcfhgpaipbedaaA8
import Derived.Test.YtjcfhgpaipbedaaAArgs
namespace Go.Proofs.Ytjcfhgpaipbedaa.A
open Go.RowKit Go.Proofs.YtjcfhgpaipbedaaW.PrintWords Go.Proofs.Ytjcfhgpaipbedaa.Ops
def w12_ActGates.Plain : Prop := ∀ (x0 : List Int) (x1 : List Int) (x2 : List Int), (x0.length * 1 ≤ 140737488351232 ∧ x0.length ≤ 9223372036854775807 ∧ ∀ x0e ∈ x0, (Lit.int .i8 x0e).wf = true) → (x1.length * 1 ≤ 140737488351232 ∧ x1.length ≤ 9223372036854775807 ∧ ∀ x1e ∈ x1, (Lit.int .i8 x1e).wf = true) → (x2.length * 1 ≤ 140737488351232 ∧ x2.length ≤ 9223372036854775807 ∧ ∀ x2e ∈ x2, (Lit.int .i8 x2e).wf = true) → ∃ k, w12_ActGates.f k x0 x1 x2 = some true
end Go.Proofs.Ytjcfhgpaipbedaa.A
