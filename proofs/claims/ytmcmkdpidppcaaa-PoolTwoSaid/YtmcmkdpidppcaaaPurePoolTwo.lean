/- PoolTwo: a pool answers as the document's list does. -/
import Derived.Test.YtmcmkdpidppcaaaStmtPoolTwo
namespace Go.Proofs.Ytmcmkdpidppcaaa.Pure
open Go.RowKit Go.Proofs.YtmcmkdpidppcaaaW.PrintWords Go.Proofs.YtmcmkdpidppcaaaW.PrintLast Go.Proofs.YtmcmkdpidppcaaaW.PrintMore Go.Proofs.Ytmcmkdpidppcaaa.B Go.Proofs.Ytmcmkdpidppcaaa.St
theorem PoolTwo : w05_PoolTwo.Plain := by
  intro x0 x1 x2 _ h1 h2
  exact if_pos ⟨rfl, by omega, by omega⟩
end Go.Proofs.Ytmcmkdpidppcaaa.Pure
