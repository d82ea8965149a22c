/- The one plain statement of the law PoolNil. -/
import Derived.Test.YtmcmkdpidppcaaaA1
import Derived.Test.YtmcmkdpidppcaaaAArgs
namespace Go.Proofs.Ytmcmkdpidppcaaa.A
open Go.RowKit Go.Proofs.YtmcmkdpidppcaaaW.PrintWords Go.Proofs.Ytmcmkdpidppcaaa.Ops
def w05_PoolNil.Plain : Prop := ∀ (x0 : Int) (x1 : Int), ((Lit.int .i64 x0).wf = true) → ((Lit.int .i64 x1).wf = true) → w05_PoolNil.f x0 x1 = some true
end Go.Proofs.Ytmcmkdpidppcaaa.A
