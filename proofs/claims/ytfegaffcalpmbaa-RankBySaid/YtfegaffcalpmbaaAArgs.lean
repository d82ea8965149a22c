/- What the laws' arguments are bound by, out of their readings. -/
import Derived.Test.YtfegaffcalpmbaaA0
import Derived.Test.YtfegaffcalpmbaaOpens
namespace Go.Proofs.Ytfegaffcalpmbaa.A
open Go.RowKit Go.Proofs.YtfegaffcalpmbaaW.PrintWords Go.Proofs.Ytfegaffcalpmbaa.Ops
def G38 (y : S38) : Prop := ((Lit.int .i64 y.f0).wf = true) ∧ (y.f1.size ≤ 140737488351232)
theorem o38 : Opens Try.prog 38 k38 G38 := Opens.imp (Opens.struct (fun x : S38 => (x.f0, x.f1)) (fun b => ⟨b.1, b.2⟩) (fun _ => rfl) Try.underlying38 (by kernel_rfl) (OpensF.cons rfl (by kernel_rfl) (Opens.int Try.underlying3) (OpensF.one rfl (by kernel_rfl) (Opens.string Try.underlying9)))) (fun _ h => h)

end Go.Proofs.Ytfegaffcalpmbaa.A
