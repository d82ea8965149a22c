/- What the laws' arguments are bound by, out of their readings. -/
import Derived.Test.YtjcfhgpaipbedaaA0
import Derived.Test.YtjcfhgpaipbedaaOpens
namespace Go.Proofs.Ytjcfhgpaipbedaa.A
open Go.RowKit Go.Proofs.YtjcfhgpaipbedaaW.PrintWords Go.Proofs.Ytjcfhgpaipbedaa.Ops
def G36 (y : S36) : Prop := (y.f0.length * 1 ≤ 140737488351232 ∧ y.f0.length ≤ 9223372036854775807 ∧ ∀ y_f0e ∈ y.f0, (Lit.int .i8 y_f0e).wf = true) ∧ (y.f1.length * 1 ≤ 140737488351232 ∧ y.f1.length ≤ 9223372036854775807 ∧ ∀ y_f1e ∈ y.f1, (Lit.int .i8 y_f1e).wf = true) ∧ (y.f2.length * 1 ≤ 140737488351232 ∧ y.f2.length ≤ 9223372036854775807 ∧ ∀ y_f2e ∈ y.f2, (Lit.int .i8 y_f2e).wf = true) ∧ ((Lit.int .i64 y.f3).wf = true) ∧ ((Lit.int .i64 y.f4).wf = true) ∧ ((Lit.int .i64 y.f5).wf = true)
theorem o36 : Opens Try.prog 36 k36 G36 := Opens.imp (Opens.struct (fun x : S36 => (x.f0, x.f1, x.f2, x.f3, x.f4, x.f5)) (fun b => ⟨b.1, b.2.1, b.2.2.1, b.2.2.2.1, b.2.2.2.2.1, b.2.2.2.2.2⟩) (fun _ => rfl) Try.underlying36 (by kernel_rfl) (OpensF.cons rfl (by kernel_rfl) (Opens.slice (z := 0) (B := 1) Try.underlying23 (by kernel_rfl) (by kernel_rfl) (Opens.int Try.underlying30)) (OpensF.cons rfl (by kernel_rfl) (Opens.slice (z := 0) (B := 1) Try.underlying23 (by kernel_rfl) (by kernel_rfl) (Opens.int Try.underlying30)) (OpensF.cons rfl (by kernel_rfl) (Opens.slice (z := 0) (B := 1) Try.underlying23 (by kernel_rfl) (by kernel_rfl) (Opens.int Try.underlying30)) (OpensF.cons rfl (by kernel_rfl) (Opens.int Try.underlying3) (OpensF.cons rfl (by kernel_rfl) (Opens.int Try.underlying3) (OpensF.one rfl (by kernel_rfl) (Opens.int Try.underlying3)))))))) (fun _ h => h)

end Go.Proofs.Ytjcfhgpaipbedaa.A
