/- What the laws' arguments are bound by, out of their readings. -/
import Derived.Test.YtmcmkdpidppcaaaA0
import Derived.Test.YtmcmkdpidppcaaaOpens
namespace Go.Proofs.Ytmcmkdpidppcaaa.A
open Go.RowKit Go.Proofs.YtmcmkdpidppcaaaW.PrintWords Go.Proofs.Ytmcmkdpidppcaaa.Ops
end Go.Proofs.Ytmcmkdpidppcaaa.A
