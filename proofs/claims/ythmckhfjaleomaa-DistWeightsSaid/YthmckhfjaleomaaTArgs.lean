/- What the laws' arguments are bound by, out of their readings. -/
import Derived.Test.YthmckhfjaleomaaT0
import Derived.Test.YthmckhfjaleomaaOpens
namespace Go.Proofs.Ythmckhfjaleomaa.T
open Go.RowKit Go.Proofs.YthmckhfjaleomaaW.PrintWords Go.Proofs.Ythmckhfjaleomaa.Ops
def G46 (y : S46) : Prop := ((Lit.int .i64 y.f0).wf = true) ∧ ((Lit.int .i64 y.f1).wf = true)
theorem o46 : Opens Try.prog 46 k46 G46 := Opens.imp (Opens.struct (fun x : S46 => (x.f0, x.f1)) (fun b => ⟨b.1, b.2⟩) (fun _ => rfl) Try.underlying46 (by kernel_rfl) (OpensF.cons rfl (by kernel_rfl) (Opens.int Try.underlying3) (OpensF.one rfl (by kernel_rfl) (Opens.int Try.underlying2)))) (fun _ h => h)

def G24 (y : S24) : Prop := ((Lit.int .i64 y.f0).wf = true) ∧ ((Lit.int .i64 y.f1).wf = true) ∧ ((Lit.int .i64 y.f2).wf = true) ∧ ((Lit.int .i64 y.f3).wf = true) ∧ ((Lit.int .i64 y.f4).wf = true) ∧ (y.f5.length * 16 ≤ 140737488351232 ∧ y.f5.length ≤ 9223372036854775807 ∧ ∀ y_f5e ∈ y.f5, G46 y_f5e)
theorem o24 : Opens Try.prog 24 k24 G24 := Opens.imp (Opens.struct (fun x : S24 => (x.f0, x.f1, x.f2, x.f3, x.f4, x.f5)) (fun b => ⟨b.1, b.2.1, b.2.2.1, b.2.2.2.1, b.2.2.2.2.1, b.2.2.2.2.2⟩) (fun _ => rfl) Try.underlying24 (by kernel_rfl) (OpensF.cons rfl (by kernel_rfl) (Opens.int Try.underlying3) (OpensF.cons rfl (by kernel_rfl) (Opens.int Try.underlying3) (OpensF.cons rfl (by kernel_rfl) (Opens.int Try.underlying3) (OpensF.cons rfl (by kernel_rfl) (Opens.int Try.underlying3) (OpensF.cons rfl (by kernel_rfl) (Opens.int Try.underlying3) (OpensF.one rfl (by kernel_rfl) (Opens.slice (z := z46) (B := 16) Try.underlying22 (by kernel_rfl) (by kernel_rfl) o46)))))))) (fun _ h => h)

def G39 (y : S39) : Prop := (y.f0.length * 8 ≤ 140737488351232 ∧ y.f0.length ≤ 9223372036854775807 ∧ ∀ y_f0e ∈ y.f0, (Lit.int .i64 y_f0e).wf = true) ∧ (y.f1.length * 1 ≤ 140737488351232 ∧ y.f1.length ≤ 9223372036854775807 ∧ ∀ y_f1e ∈ y.f1, True)
theorem o39 : Opens Try.prog 39 k39 G39 := Opens.imp (Opens.struct (fun x : S39 => (x.f0, x.f1)) (fun b => ⟨b.1, b.2⟩) (fun _ => rfl) Try.underlying39 (by kernel_rfl) (OpensF.cons rfl (by kernel_rfl) (Opens.slice (z := 0) (B := 8) Try.underlying36 (by kernel_rfl) (by kernel_rfl) (Opens.int Try.underlying2)) (OpensF.one rfl (by kernel_rfl) (Opens.slice (z := false) (B := 1) Try.underlying37 (by kernel_rfl) (by kernel_rfl) (Opens.bool Try.underlying4))))) (fun _ h => h)

def G53 (y : S53) : Prop := ((Lit.int .i64 y.f0).wf = true) ∧ ((Lit.int .i64 y.f1).wf = true) ∧ ((Lit.int .i64 y.f2).wf = true)
theorem o53 : Opens Try.prog 53 k53 G53 := Opens.imp (Opens.struct (fun x : S53 => (x.f0, x.f1, x.f2)) (fun b => ⟨b.1, b.2.1, b.2.2⟩) (fun _ => rfl) Try.underlying53 (by kernel_rfl) (OpensF.cons rfl (by kernel_rfl) (Opens.int Try.underlying3) (OpensF.cons rfl (by kernel_rfl) (Opens.int Try.underlying2) (OpensF.one rfl (by kernel_rfl) (Opens.int Try.underlying2))))) (fun _ h => h)

end Go.Proofs.Ythmckhfjaleomaa.T
