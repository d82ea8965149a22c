/- The one plain statement of the law PoolLeast. -/
import Derived.Test.YtmcmkdpidppcaaaC1
import Derived.Test.YtmcmkdpidppcaaaCArgs
namespace Go.Proofs.Ytmcmkdpidppcaaa.C
open Go.RowKit Go.Proofs.YtmcmkdpidppcaaaW.PrintWords Go.Proofs.Ytmcmkdpidppcaaa.Ops
def w05_PoolLeast.Plain : Prop := ∀ (x0 : Int) (x1 : List Int), ((Lit.int .i64 x0).wf = true) → (x1.length * 8 ≤ 140737488351232 ∧ x1.length ≤ 9223372036854775807 ∧ ∀ x1e ∈ x1, (Lit.int .i64 x1e).wf = true) → w05_PoolLeast.f x0 x1 = some true
end Go.Proofs.Ytmcmkdpidppcaaa.C
