/- The one plain statement of the law ActTables. -/
import Derived.Test.YtjcfhgpaipbedaaA6
import Derived.Test.YtjcfhgpaipbedaaAArgs
namespace Go.Proofs.Ytjcfhgpaipbedaa.A
open Go.RowKit Go.Proofs.YtjcfhgpaipbedaaW.PrintWords Go.Proofs.Ytjcfhgpaipbedaa.Ops
def w12_ActTables.Plain : Prop := ∀ (x0 : Int), ((Lit.int .i64 x0).wf = true) → ∃ k, w12_ActTables.f k x0 = some true
end Go.Proofs.Ytjcfhgpaipbedaa.A
