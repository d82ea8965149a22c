/- What the laws' arguments are bound by, out of their readings. -/
import Derived.Test.YtmjepdhjginelaaB0
import Derived.Test.YtmjepdhjginelaaOpens
namespace Go.Proofs.Ytmjepdhjginelaa.B
open Go.RowKit Go.Proofs.YtmjepdhjginelaaW.PrintWords Go.Proofs.Ytmjepdhjginelaa.Ops
def G34 (y : S34) : Prop := (y.f0.length * 24 ≤ 140737488351232 ∧ y.f0.length ≤ 9223372036854775807 ∧ ∀ y_f0e ∈ y.f0, y_f0e.length * 1 ≤ 140737488351232 ∧ y_f0e.length ≤ 9223372036854775807 ∧ ∀ y_f0ee ∈ y_f0e, (Lit.int .i8 y_f0ee).wf = true) ∧ (y.f1.length * 24 ≤ 140737488351232 ∧ y.f1.length ≤ 9223372036854775807 ∧ ∀ y_f1e ∈ y.f1, y_f1e.length * 1 ≤ 140737488351232 ∧ y_f1e.length ≤ 9223372036854775807 ∧ ∀ y_f1ee ∈ y_f1e, (Lit.int .i8 y_f1ee).wf = true) ∧ ((Lit.int .i64 y.f2).wf = true)
theorem o34 : Opens Try.prog 34 k34 G34 := Opens.imp (Opens.struct (fun x : S34 => (x.f0, x.f1, x.f2)) (fun b => ⟨b.1, b.2.1, b.2.2⟩) (fun _ => rfl) Try.underlying34 (by kernel_rfl) (OpensF.cons rfl (by kernel_rfl) (Opens.slice (z := ([] : List Int)) (B := 24) Try.underlying23 (by kernel_rfl) (by kernel_rfl) (Opens.slice (z := 0) (B := 1) Try.underlying22 (by kernel_rfl) (by kernel_rfl) (Opens.int Try.underlying53))) (OpensF.cons rfl (by kernel_rfl) (Opens.slice (z := ([] : List Int)) (B := 24) Try.underlying23 (by kernel_rfl) (by kernel_rfl) (Opens.slice (z := 0) (B := 1) Try.underlying22 (by kernel_rfl) (by kernel_rfl) (Opens.int Try.underlying53))) (OpensF.one rfl (by kernel_rfl) (Opens.int Try.underlying3))))) (fun _ h => h)

def G49 (y : S49) : Prop := (y.f0.length * 1 ≤ 140737488351232 ∧ y.f0.length ≤ 9223372036854775807 ∧ ∀ y_f0e ∈ y.f0, (Lit.int .i8 y_f0e).wf = true) ∧ (y.f1.length * 1 ≤ 140737488351232 ∧ y.f1.length ≤ 9223372036854775807 ∧ ∀ y_f1e ∈ y.f1, (Lit.int .i8 y_f1e).wf = true)
theorem o49 : Opens Try.prog 49 k49 G49 := Opens.imp (Opens.struct (fun x : S49 => (x.f0, x.f1)) (fun b => ⟨b.1, b.2⟩) (fun _ => rfl) Try.underlying49 (by kernel_rfl) (OpensF.cons rfl (by kernel_rfl) (Opens.slice (z := 0) (B := 1) Try.underlying22 (by kernel_rfl) (by kernel_rfl) (Opens.int Try.underlying53)) (OpensF.one rfl (by kernel_rfl) (Opens.slice (z := 0) (B := 1) Try.underlying22 (by kernel_rfl) (by kernel_rfl) (Opens.int Try.underlying53))))) (fun _ h => h)

def G43 (y : S43) : Prop := ((Lit.int .i64 y.f0).wf = true) ∧ ((Lit.int .i64 y.f1).wf = true) ∧ (y.f2.length * 48 ≤ 140737488351232 ∧ y.f2.length ≤ 9223372036854775807 ∧ ∀ y_f2e ∈ y.f2, G49 y_f2e)
theorem o43 : Opens Try.prog 43 k43 G43 := Opens.imp (Opens.struct (fun x : S43 => (x.f0, x.f1, x.f2)) (fun b => ⟨b.1, b.2.1, b.2.2⟩) (fun _ => rfl) Try.underlying43 (by kernel_rfl) (OpensF.cons rfl (by kernel_rfl) (Opens.int Try.underlying3) (OpensF.cons rfl (by kernel_rfl) (Opens.int Try.underlying3) (OpensF.one rfl (by kernel_rfl) (Opens.slice (z := z49) (B := 48) Try.underlying41 (by kernel_rfl) (by kernel_rfl) o49))))) (fun _ h => h)

end Go.Proofs.Ytmjepdhjginelaa.B
