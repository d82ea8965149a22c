/- The one plain statement of the law PoolPlays. -/
import Derived.Test.YtmcmkdpidppcaaaB1
import Derived.Test.YtmcmkdpidppcaaaBArgs
namespace Go.Proofs.Ytmcmkdpidppcaaa.B
open Go.RowKit Go.Proofs.YtmcmkdpidppcaaaW.PrintWords Go.Proofs.Ytmcmkdpidppcaaa.Ops
def w05_PoolPlays.Plain : Prop := ∀ (x0 : Int) (x1 : List (S57)), ((Lit.int .i64 x0).wf = true) → (x1.length * 24 ≤ 140737488351232 ∧ x1.length ≤ 9223372036854775807 ∧ ∀ x1e ∈ x1, G57 x1e) → w05_PoolPlays.f x0 x1 = some true
end Go.Proofs.Ytmcmkdpidppcaaa.B
