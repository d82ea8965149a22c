/- What the laws' arguments are bound by, out of their readings. -/
import Derived.Test.YtmcmkdpidppcaaaD0
import Derived.Test.YtmcmkdpidppcaaaOpens
namespace Go.Proofs.Ytmcmkdpidppcaaa.D
open Go.RowKit Go.Proofs.YtmcmkdpidppcaaaW.PrintWords Go.Proofs.Ytmcmkdpidppcaaa.Ops
end Go.Proofs.Ytmcmkdpidppcaaa.D
