/- PoolPlays: a pool answers as the document's list does. -/
import Derived.Test.YtmcmkdpidppcaaaStmtPoolPlays
namespace Go.Proofs.Ytmcmkdpidppcaaa.Pure
open Go.RowKit Go.Proofs.YtmcmkdpidppcaaaW.PrintWords Go.Proofs.YtmcmkdpidppcaaaW.PrintLast Go.Proofs.YtmcmkdpidppcaaaW.PrintMore Go.Proofs.Ytmcmkdpidppcaaa.B Go.Proofs.Ytmcmkdpidppcaaa.St
theorem PoolPlays : w05_PoolPlays.Plain := by
  intro x0 x1 _ h1
  exact if_pos ⟨rfl, by omega⟩
end Go.Proofs.Ytmcmkdpidppcaaa.Pure
