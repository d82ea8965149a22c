/- DistChecks: Check and Total are the document's. -/
import Derived.Test.YthmckhfjaleomaaStmtDistChecks
import Derived.Test.YthmckhfjaleomaaMWts
namespace Go.Proofs.Ythmckhfjaleomaa.Pure
open Go.RowKit Go.Proofs.YthmckhfjaleomaaW.PrintWords Go.Proofs.YthmckhfjaleomaaW.PrintLast Go.Proofs.YthmckhfjaleomaaW.PrintMore Go.Proofs.Ythmckhfjaleomaa.T Go.Proofs.Ythmckhfjaleomaa.St
theorem DistChecks : w22_DistChecks.Plain := by
  intro x t hx _
  have hb := hx.2.2.2.2.2.1
  refine ev_rounds ?_
  unfold w22_DistChecks.f
  have hp := plain_ev x.f5 (by omega) x.f0 x.f1 x.f2 x.f3 x.f4
  refine Ev.bind awake (ev_pos rfl (Ev.bind (check_ev x.f5 (by omega) x.f0 x.f1 x.f2 x.f3 x.f4 t) (Ev.bind hp (Ev.bind (ref_check t x.f0 x.f1 x.f2 x.f3 x.f4 x.f5) (ev_pos rfl (Ev.bind (total_ev x.f5 x.f0 x.f1 x.f2 x.f3 x.f4) (Ev.bind hp (ev_is (ref_total _ _ _ _ _ _) ?_))))))))
  rw [beq_self_eq_true]
  exact Ev.now _
end Go.Proofs.Ythmckhfjaleomaa.Pure
