/- PoolWalks: All goes over what was taken when it was called. -/
import Derived.Test.YtmcmkdpidppcaaaStmtPoolWalks
namespace Go.Proofs.Ytmcmkdpidppcaaa.Pure
open Go.RowKit Go.Proofs.YtmcmkdpidppcaaaW.PrintWords Go.Proofs.YtmcmkdpidppcaaaW.PrintLast Go.Proofs.YtmcmkdpidppcaaaW.PrintMore Go.Proofs.Ytmcmkdpidppcaaa.E Go.Proofs.Ytmcmkdpidppcaaa.St
theorem PoolWalks : w05_PoolWalks.Plain := by
  intro x0 x1 x2 _ h1 _
  exact if_pos ⟨⟨rfl, rfl⟩, by omega⟩
end Go.Proofs.Ytmcmkdpidppcaaa.Pure
