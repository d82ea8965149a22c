/- PoolKinds: things of any kind come out as they were put in. -/
import Derived.Test.YtmcmkdpidppcaaaStmtPoolKinds
namespace Go.Proofs.Ytmcmkdpidppcaaa.Pure
open Go.RowKit Go.Proofs.YtmcmkdpidppcaaaW.PrintWords Go.Proofs.YtmcmkdpidppcaaaW.PrintLast Go.Proofs.YtmcmkdpidppcaaaW.PrintMore Go.Proofs.Ytmcmkdpidppcaaa.D Go.Proofs.Ytmcmkdpidppcaaa.St
theorem PoolKinds : w05_PoolKinds.Plain := by
  intro x0 x1 _ h1
  exact if_pos ⟨rfl, by omega⟩
end Go.Proofs.Ytmcmkdpidppcaaa.Pure
