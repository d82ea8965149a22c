/- The one plain statement of the law DistWeights. -/
import Derived.Test.YthmckhfjaleomaaT15
import Derived.Test.YthmckhfjaleomaaTArgs
namespace Go.Proofs.Ythmckhfjaleomaa.T
open Go.RowKit Go.Proofs.YthmckhfjaleomaaW.PrintWords Go.Proofs.Ythmckhfjaleomaa.Ops
def w22_DistWeights.Plain : Prop := ∀ (x0 : S39) (x1 : S24), (G39 x0) → (G24 x1) → ∃ k, w22_DistWeights.f k x0.f0 x0.f1 x1.f0 x1.f1 x1.f2 x1.f3 x1.f4 x1.f5 = some true
end Go.Proofs.Ythmckhfjaleomaa.T
