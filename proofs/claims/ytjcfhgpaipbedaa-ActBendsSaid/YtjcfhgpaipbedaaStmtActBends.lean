/- The one plain statement of the law ActBends. -/
import Derived.Test.YtjcfhgpaipbedaaA16
import Derived.Test.YtjcfhgpaipbedaaAArgs
namespace Go.Proofs.Ytjcfhgpaipbedaa.A
open Go.RowKit Go.Proofs.YtjcfhgpaipbedaaW.PrintWords Go.Proofs.Ytjcfhgpaipbedaa.Ops
def w12_ActBends.Plain : Prop := ∀ (x0 : Int), ((Lit.int .i8 x0).wf = true) → ∃ k, w12_ActBends.f k x0 = some true
end Go.Proofs.Ytjcfhgpaipbedaa.A
