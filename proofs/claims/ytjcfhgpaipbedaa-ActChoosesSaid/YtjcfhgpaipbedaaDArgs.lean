/- What the laws' arguments are bound by, out of their readings. -/
import Derived.Test.YtjcfhgpaipbedaaD0
import Derived.Test.YtjcfhgpaipbedaaOpens
namespace Go.Proofs.Ytjcfhgpaipbedaa.D
open Go.RowKit Go.Proofs.YtjcfhgpaipbedaaW.PrintWords Go.Proofs.Ytjcfhgpaipbedaa.Ops
def G51 (y : S51) : Prop := (y.f0.length * 1 ≤ 140737488351232 ∧ y.f0.length ≤ 9223372036854775807 ∧ ∀ y_f0e ∈ y.f0, (Lit.int .i8 y_f0e).wf = true) ∧ ((Lit.int .i64 y.f1).wf = true) ∧ ((Lit.int .i64 y.f2).wf = true)
theorem o51 : Opens Try.prog 51 k51 G51 := Opens.imp (Opens.struct (fun x : S51 => (x.f0, x.f1, x.f2)) (fun b => ⟨b.1, b.2.1, b.2.2⟩) (fun _ => rfl) Try.underlying51 (by kernel_rfl) (OpensF.cons rfl (by kernel_rfl) (Opens.slice (z := 0) (B := 1) Try.underlying23 (by kernel_rfl) (by kernel_rfl) (Opens.int Try.underlying30)) (OpensF.cons rfl (by kernel_rfl) (Opens.int Try.underlying3) (OpensF.one rfl (by kernel_rfl) (Opens.int Try.underlying3))))) (fun _ h => h)

end Go.Proofs.Ytjcfhgpaipbedaa.D
