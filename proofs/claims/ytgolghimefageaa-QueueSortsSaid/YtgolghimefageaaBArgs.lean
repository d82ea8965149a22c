/- What the laws' arguments are bound by, out of their readings. -/
import Derived.Test.YtgolghimefageaaB0
import Derived.Test.YtgolghimefageaaOpens
namespace Go.Proofs.Ytgolghimefageaa.B
open Go.RowKit Go.Proofs.YtgolghimefageaaW.PrintWords Go.Proofs.Ytgolghimefageaa.Ops
end Go.Proofs.Ytgolghimefageaa.B
