/- DistSurprises: every Surprise and Entropy is the document's; what is handed in stays. -/
import Derived.Test.YthmckhfjaleomaaStmtDistSurprises
import Derived.Test.YthmckhfjaleomaaDw7
namespace Go.Proofs.Ythmckhfjaleomaa.Pure
set_option linter.unusedVariables false
open Go.RowKit Go.Proofs.YthmckhfjaleomaaW.PrintWords Go.Proofs.YthmckhfjaleomaaW.PrintLast Go.Proofs.YthmckhfjaleomaaW.PrintMore Go.Proofs.Ythmckhfjaleomaa.T Go.Proofs.Ythmckhfjaleomaa.St
theorem DistSurprises : w22_DistSurprises.Plain := by
  intro w x hw hx
  have hl := hw.1
  refine ev_rounds ?_
  unfold w22_DistSurprises.f
  refine Ev.bind awake (ev_pos rfl (ev_some (ev_pos (by simp; omega) (ev_some ?_))))
  rw [List.nil_append]
  refine Ev.bind (own_surprise w x) (Ev.bind (ref_surprise w x) (ev_pos rfl (Ev.step (fun k => by rw [w22_DistSurprises.j0]) ?_)))
  refine ev_neg (by simp) (Ev.bind (own_entropy w) (Ev.bind (ref_entropy w) (ev_pos rfl (ev_pos rfl (Ev.bind (same_ev w (by omega)) (Ev.now _))))))
end Go.Proofs.Ythmckhfjaleomaa.Pure
