/- The one plain statement of the law AdmitChecks. -/
import Derived.Test.YtdkcfacmbjboeaaQ3
import Derived.Test.YtdkcfacmbjboeaaQArgs
namespace Go.Proofs.Ytdkcfacmbjboeaa.Q
open Go.RowKit Go.Proofs.YtdkcfacmbjboeaaW.PrintWords Go.Proofs.Ytdkcfacmbjboeaa.Ops
def heraldlaw27_AdmitChecks.Plain : Prop := ∀ (x0 : S23) (x1 : Int), (G23 x0) → ((Lit.int .i64 x1).wf = true) → ∃ k, heraldlaw27_AdmitChecks.f k x0.f0 x0.f1 x0.f2 x0.f3 x0.f4 x0.f5 x1 = some true
end Go.Proofs.Ytdkcfacmbjboeaa.Q
