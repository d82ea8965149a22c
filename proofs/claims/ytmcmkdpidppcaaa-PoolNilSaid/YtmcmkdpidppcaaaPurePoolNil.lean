/- PoolNil: every call on a nil pool says so. -/
import Derived.Test.YtmcmkdpidppcaaaStmtPoolNil
namespace Go.Proofs.Ytmcmkdpidppcaaa.Pure
open Go.RowKit Go.Proofs.YtmcmkdpidppcaaaW.PrintWords Go.Proofs.YtmcmkdpidppcaaaW.PrintLast Go.Proofs.YtmcmkdpidppcaaaW.PrintMore Go.Proofs.Ytmcmkdpidppcaaa.A Go.Proofs.Ytmcmkdpidppcaaa.St
theorem PoolNil : w05_PoolNil.Plain := by
  intro x0 x1 _ _
  exact if_pos (show x0 = x0 ∧ x1 = x1 from ⟨rfl, rfl⟩)
end Go.Proofs.Ytmcmkdpidppcaaa.Pure
