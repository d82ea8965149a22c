/- PoolLeast: places that are taken at one time are unlike, and each is the least one that was free. -/
import Derived.Test.YtmcmkdpidppcaaaStmtPoolLeast
namespace Go.Proofs.Ytmcmkdpidppcaaa.Pure
open Go.RowKit Go.Proofs.YtmcmkdpidppcaaaW.PrintWords Go.Proofs.YtmcmkdpidppcaaaW.PrintLast Go.Proofs.YtmcmkdpidppcaaaW.PrintMore Go.Proofs.Ytmcmkdpidppcaaa.C Go.Proofs.Ytmcmkdpidppcaaa.St
theorem PoolLeast : w05_PoolLeast.Plain := by
  intro x0 x1 _ h1
  exact if_pos ⟨rfl, by omega, h1.2.2⟩
end Go.Proofs.Ytmcmkdpidppcaaa.Pure
