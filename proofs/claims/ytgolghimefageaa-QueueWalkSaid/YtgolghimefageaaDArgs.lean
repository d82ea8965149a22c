/- What the laws' arguments are bound by, out of their readings. -/
import Derived.Test.YtgolghimefageaaD0
import Derived.Test.YtgolghimefageaaOpens
namespace Go.Proofs.Ytgolghimefageaa.D
open Go.RowKit Go.Proofs.YtgolghimefageaaW.PrintWords Go.Proofs.Ytgolghimefageaa.Ops
end Go.Proofs.Ytgolghimefageaa.D
