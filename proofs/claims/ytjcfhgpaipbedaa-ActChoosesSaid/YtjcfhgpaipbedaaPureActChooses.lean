/- ActChooses: the walk says it all. -/
import Derived.Test.YtjcfhgpaipbedaaStmtActChooses
import Derived.Test.YtjcfhgpaipbedaaCh9
namespace Go.Proofs.Ytjcfhgpaipbedaa.Pure
open Go.RowKit Go.Proofs.YtjcfhgpaipbedaaW.PrintWords Go.Proofs.YtjcfhgpaipbedaaW.PrintLast Go.Proofs.YtjcfhgpaipbedaaW.PrintMore Go.Proofs.Ytjcfhgpaipbedaa.D
theorem i8_all {l : List Int} (h : ∀ x ∈ l, (Lit.int .i8 x).wf = true) : i8B l = true := List.all_eq_true.2 fun x hx => decide_eq_true (wf8 (h x hx))
theorem ActChooses : w12_ActChooses.Plain := by
  intro x0 x1 h0 h1
  exact if_pos ⟨rfl, rfl, i8_all h0.1.2.2, i8_all h1.2.2, by have := h0.1.1; omega, by have := h1.1; omega⟩
end Go.Proofs.Ytjcfhgpaipbedaa.Pure
