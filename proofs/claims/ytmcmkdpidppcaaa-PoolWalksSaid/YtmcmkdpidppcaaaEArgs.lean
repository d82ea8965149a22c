/- What the laws' arguments are bound by, out of their readings. -/
import Derived.Test.YtmcmkdpidppcaaaE0
import Derived.Test.YtmcmkdpidppcaaaOpens
namespace Go.Proofs.Ytmcmkdpidppcaaa.E
open Go.RowKit Go.Proofs.YtmcmkdpidppcaaaW.PrintWords Go.Proofs.Ytmcmkdpidppcaaa.Ops
def G57 (y : S57) : Prop := ((Lit.int .i64 y.f0).wf = true) ∧ ((Lit.int .i64 y.f1).wf = true) ∧ ((Lit.int .i64 y.f2).wf = true)
theorem o57 : Opens Try.prog 57 k57 G57 := Opens.imp (Opens.struct (fun x : S57 => (x.f0, x.f1, x.f2)) (fun b => ⟨b.1, b.2.1, b.2.2⟩) (fun _ => rfl) Try.underlying57 (by kernel_rfl) (OpensF.cons rfl (by kernel_rfl) (Opens.int Try.underlying3) (OpensF.cons rfl (by kernel_rfl) (Opens.int Try.underlying3) (OpensF.one rfl (by kernel_rfl) (Opens.int Try.underlying3))))) (fun _ h => h)

end Go.Proofs.Ytmcmkdpidppcaaa.E
