/- What the laws' arguments are bound by, out of their readings. -/
import Derived.Test.YtgolghimefageaaA0
import Derived.Test.YtgolghimefageaaOpens
namespace Go.Proofs.Ytgolghimefageaa.A
open Go.RowKit Go.Proofs.YtgolghimefageaaW.PrintWords Go.Proofs.Ytgolghimefageaa.Ops
def G40 (y : S40) : Prop := ((Lit.int .i64 y.f0).wf = true) ∧ ((Lit.int .i64 y.f1).wf = true) ∧ (y.f2.size ≤ 140737488351232) ∧ ((Lit.int .i64 y.f3).wf = true)
theorem o40 : Opens Try.prog 40 k40 G40 := Opens.imp (Opens.struct (fun x : S40 => (x.f0, x.f1, x.f2, x.f3)) (fun b => ⟨b.1, b.2.1, b.2.2.1, b.2.2.2⟩) (fun _ => rfl) Try.underlying40 (by kernel_rfl) (OpensF.cons rfl (by kernel_rfl) (Opens.int Try.underlying3) (OpensF.cons rfl (by kernel_rfl) (Opens.int Try.underlying2) (OpensF.cons rfl (by kernel_rfl) (Opens.string Try.underlying9) (OpensF.one rfl (by kernel_rfl) (Opens.int Try.underlying3)))))) (fun _ h => h)

end Go.Proofs.Ytgolghimefageaa.A
