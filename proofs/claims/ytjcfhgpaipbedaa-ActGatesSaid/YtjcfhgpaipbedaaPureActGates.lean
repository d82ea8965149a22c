/- ActGates: every Gate is the document's; what is handed in stays. -/
import Derived.Test.YtjcfhgpaipbedaaStmtActGates
import Derived.Test.YtjcfhgpaipbedaaAct1
namespace Go.Proofs.Ytjcfhgpaipbedaa.Pure
set_option linter.unusedVariables false
open Go.RowKit Go.Proofs.YtjcfhgpaipbedaaW.PrintWords Go.Proofs.YtjcfhgpaipbedaaW.PrintLast Go.Proofs.YtjcfhgpaipbedaaW.PrintMore Go.Proofs.Ytjcfhgpaipbedaa.A Go.Proofs.Ytjcfhgpaipbedaa.St
theorem ActGates : w12_ActGates.Plain := by
  intro bend gate up hb hg hu
  have h8 : I8 gate := fun x hx => wf8 (hg.2.2 x hx)
  have hlg := gateL_len bend gate up
  have l0 := hb.1
  have l1 := hg.1
  have l2 := hu.1
  refine ev_rounds ?_
  unfold w12_ActGates.f
  refine Ev.bind awake (ev_pos rfl ?_)
  refine ev_some (ev_pos (by rw [List.length_nil]; omega) ?_)
  refine ev_some (ev_some (ev_pos (by rw [List.length_nil]; omega) ?_))
  refine ev_some (ev_some (ev_pos (by rw [List.length_nil]; omega) ?_))
  refine ev_some ?_
  simp only [List.nil_append]
  refine Ev.bind (own_gate bend gate up) (Ev.bind (ref_gate bend gate up h8) (Ev.bind (same8 _ (by omega)) (ev_pos rfl (ev_pos rfl (Ev.bind (same8 _ (by omega)) (ev_pos rfl (Ev.bind (same8 _ (by omega)) (ev_pos rfl (Ev.bind (same8 _ (by omega)) (Ev.now _))))))))))
end Go.Proofs.Ytjcfhgpaipbedaa.Pure
