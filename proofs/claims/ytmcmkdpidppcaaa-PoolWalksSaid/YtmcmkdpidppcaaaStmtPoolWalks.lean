/- The one plain statement of the law PoolWalks. -/
import Derived.Test.YtmcmkdpidppcaaaE1
import Derived.Test.YtmcmkdpidppcaaaEArgs
namespace Go.Proofs.Ytmcmkdpidppcaaa.E
open Go.RowKit Go.Proofs.YtmcmkdpidppcaaaW.PrintWords Go.Proofs.Ytmcmkdpidppcaaa.Ops
def w05_PoolWalks.Plain : Prop := ∀ (x0 : Int) (x1 : List (S57)) (x2 : Int), ((Lit.int .i64 x0).wf = true) → (x1.length * 24 ≤ 140737488351232 ∧ x1.length ≤ 9223372036854775807 ∧ ∀ x1e ∈ x1, G57 x1e) → ((Lit.int .i64 x2).wf = true) → w05_PoolWalks.f x0 x1 x2 = some true
end Go.Proofs.Ytmcmkdpidppcaaa.E
