/- The one plain statement of the law ActShuts. -/
import Derived.Test.YtjcfhgpaipbedaaA17
import Derived.Test.YtjcfhgpaipbedaaAArgs
namespace Go.Proofs.Ytjcfhgpaipbedaa.A
open Go.RowKit Go.Proofs.YtjcfhgpaipbedaaW.PrintWords Go.Proofs.Ytjcfhgpaipbedaa.Ops
def w12_ActShuts.Plain : Prop := ∀ (x0 : List Int) (x1 : List Int) (x2 : S36), (x0.length * 1 ≤ 140737488351232 ∧ x0.length ≤ 9223372036854775807 ∧ ∀ x0e ∈ x0, (Lit.int .i8 x0e).wf = true) → (x1.length * 1 ≤ 140737488351232 ∧ x1.length ≤ 9223372036854775807 ∧ ∀ x1e ∈ x1, (Lit.int .i8 x1e).wf = true) → (G36 x2) → ∃ k, w12_ActShuts.f k x0 x1 x2.f0 x2.f1 x2.f2 x2.f3 x2.f4 x2.f5 = some true
end Go.Proofs.Ytjcfhgpaipbedaa.A
