/- The one plain statement of the law PoolKinds. -/
import Derived.Test.YtmcmkdpidppcaaaD1
import Derived.Test.YtmcmkdpidppcaaaDArgs
namespace Go.Proofs.Ytmcmkdpidppcaaa.D
open Go.RowKit Go.Proofs.YtmcmkdpidppcaaaW.PrintWords Go.Proofs.Ytmcmkdpidppcaaa.Ops
def w05_PoolKinds.Plain : Prop := ∀ (x0 : Int) (x1 : List ByteArray), ((Lit.int .i64 x0).wf = true) → (x1.length * 16 ≤ 140737488351232 ∧ x1.length ≤ 9223372036854775807 ∧ ∀ x1e ∈ x1, x1e.size ≤ 140737488351232) → w05_PoolKinds.f x0 x1 = some true
end Go.Proofs.Ytmcmkdpidppcaaa.D
