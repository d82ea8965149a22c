/- The one plain statement of the law AdmitNeeds. -/
import Derived.Test.YtdkcfacmbjboeaaR6
import Derived.Test.YtdkcfacmbjboeaaRArgs
namespace Go.Proofs.Ytdkcfacmbjboeaa.R
open Go.RowKit Go.Proofs.YtdkcfacmbjboeaaW.PrintWords Go.Proofs.Ytdkcfacmbjboeaa.Ops
def w27_AdmitNeeds.Plain : Prop := ∀ (x0 : S23) (x1 : S46), (G23 x0) → (G46 x1) → ∃ k, w27_AdmitNeeds.f k x0.f0 x0.f1 x0.f2 x0.f3 x0.f4 x0.f5 x1.f0 x1.f1.f0 x1.f1.f1 x1.f1.f2 x1.f1.f3 x1.f1.f4 x1.f1.f5 x1.f2 x1.f3 x1.f4 x1.f5.f0 x1.f5.f1 x1.f6 = some true
end Go.Proofs.Ytdkcfacmbjboeaa.R
