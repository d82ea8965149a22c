/- The one plain statement of the law DistChecks. -/
import Derived.Test.YthmckhfjaleomaaT9
import Derived.Test.YthmckhfjaleomaaTArgs
namespace Go.Proofs.Ythmckhfjaleomaa.T
open Go.RowKit Go.Proofs.YthmckhfjaleomaaW.PrintWords Go.Proofs.Ythmckhfjaleomaa.Ops
def w22_DistChecks.Plain : Prop := ∀ (x0 : S24) (x1 : Int), (G24 x0) → ((Lit.int .i64 x1).wf = true) → ∃ k, w22_DistChecks.f k x0.f0 x0.f1 x0.f2 x0.f3 x0.f4 x0.f5 x1 = some true
end Go.Proofs.Ythmckhfjaleomaa.T
