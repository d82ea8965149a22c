/- What the laws' arguments are bound by, out of their readings. -/
import Derived.Test.YtfegaffcalpmbaaA0
import Derived.Test.YtfegaffcalpmbaaOpens
namespace Go.Proofs.Ytfegaffcalpmbaa.A
open Go.RowKit Go.Proofs.YtfegaffcalpmbaaW.PrintWords Go.Proofs.Ytfegaffcalpmbaa.Ops
end Go.Proofs.Ytfegaffcalpmbaa.A
