/- AttendHead: what a head sees is the document's. -/
import Derived.Test.YtmjepdhjginelaaStmtAttendHead
import Derived.Test.YtmjepdhjginelaaAtt3
namespace Go.Proofs.Ytmjepdhjginelaa.Pure
set_option linter.unusedVariables false
open Go.RowKit Go.Proofs.YtmjepdhjginelaaW.PrintWords Go.Proofs.YtmjepdhjginelaaW.PrintLast Go.Proofs.YtmjepdhjginelaaW.PrintMore Go.Proofs.Ytmjepdhjginelaa.B Go.Proofs.Ytmjepdhjginelaa.St
theorem AttendHead : w19_AttendHead.Plain := by
  intro q y hq hy
  have h8 : ∀ r ∈ y.f1, I8 r := fun r hr x hx => wf8 ((hy.2.1.2.2 r hr).2.2 x hx)
  have hl := headL_len q y.f0 y.f1 y.f2
  refine ev_rounds ?_
  unfold w19_AttendHead.f
  refine Ev.bind (own_head q y.f0 y.f1 y.f2 h8) (Ev.bind (ref_head q y.f0 y.f1 y.f2 h8) (Ev.bind awake (ev_pos rfl (Ev.bind (rows_ev _ (by omega)) (ev_pos rfl ?_)))))
  rw [beq_self_eq_true]
  exact Ev.now _
end Go.Proofs.Ytmjepdhjginelaa.Pure
