/- The one plain statement of the law PoolTwo. -/
import Derived.Test.YtmcmkdpidppcaaaB2
import Derived.Test.YtmcmkdpidppcaaaBArgs
namespace Go.Proofs.Ytmcmkdpidppcaaa.B
open Go.RowKit Go.Proofs.YtmcmkdpidppcaaaW.PrintWords Go.Proofs.Ytmcmkdpidppcaaa.Ops
def w05_PoolTwo.Plain : Prop := ∀ (x0 : Int) (x1 : List (S57)) (x2 : List (S57)), ((Lit.int .i64 x0).wf = true) → (x1.length * 24 ≤ 140737488351232 ∧ x1.length ≤ 9223372036854775807 ∧ ∀ x1e ∈ x1, G57 x1e) → (x2.length * 24 ≤ 140737488351232 ∧ x2.length ≤ 9223372036854775807 ∧ ∀ x2e ∈ x2, G57 x2e) → w05_PoolTwo.f x0 x1 x2 = some true
end Go.Proofs.Ytmcmkdpidppcaaa.B
