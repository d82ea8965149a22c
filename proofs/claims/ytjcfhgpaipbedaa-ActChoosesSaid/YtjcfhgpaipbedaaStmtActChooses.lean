/- The one plain statement of the law ActChooses. -/
import Derived.Test.YtjcfhgpaipbedaaD1
import Derived.Test.YtjcfhgpaipbedaaDArgs
namespace Go.Proofs.Ytjcfhgpaipbedaa.D
open Go.RowKit Go.Proofs.YtjcfhgpaipbedaaW.PrintWords Go.Proofs.Ytjcfhgpaipbedaa.Ops
def w12_ActChooses.Plain : Prop := ∀ (x0 : S51) (x1 : List Int), (G51 x0) → (x1.length * 1 ≤ 140737488351232 ∧ x1.length ≤ 9223372036854775807 ∧ ∀ x1e ∈ x1, (Lit.int .i8 x1e).wf = true) → w12_ActChooses.f x0.f0 x0.f1 x0.f2 x1 = some true
end Go.Proofs.Ytjcfhgpaipbedaa.D
