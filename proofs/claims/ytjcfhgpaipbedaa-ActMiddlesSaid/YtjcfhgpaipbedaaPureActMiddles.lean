/- ActMiddles: every Middle is the document's; what is handed in stays. -/
import Derived.Test.YtjcfhgpaipbedaaStmtActMiddles
import Derived.Test.YtjcfhgpaipbedaaAct2
namespace Go.Proofs.Ytjcfhgpaipbedaa.Pure
set_option linter.unusedVariables false
open Go.RowKit Go.Proofs.YtjcfhgpaipbedaaW.PrintWords Go.Proofs.YtjcfhgpaipbedaaW.PrintLast Go.Proofs.YtjcfhgpaipbedaaW.PrintMore Go.Proofs.Ytjcfhgpaipbedaa.A Go.Proofs.Ytjcfhgpaipbedaa.St
theorem copied (a b c : List Int) (d e f : Int) (ha : a.length < 140737488355328) (hb : b.length < 140737488355328) (hc : c.length < 140737488355328) : w12_copied.f a b c d e f = some (a, b, c, d, e, f) := by
  unfold w12_copied.f
  simp only [Option.bind_some, List.nil_append, List.length_nil]
  rw [if_pos (by omega), if_pos (by omega), if_pos (by omega)]
theorem plainly (a b c : List Int) (d e f : Int) (ha : a.length < 140737488355328) (hb : b.length < 140737488355328) (hc : c.length < 140737488355328) : w12_plain.f a b c d e f = some (a, b, c, d, e, f) := by
  unfold w12_plain.f
  simp only [Option.bind_some, List.nil_append, List.length_nil]
  rw [if_pos (by omega), if_pos (by omega), if_pos (by omega)]
theorem ActMiddles : w12_ActMiddles.Plain := by
  intro y bend h hy hb hh
  obtain ⟨⟨g0, _, _⟩, ⟨u0, _, _⟩, ⟨d0, _, _⟩, _⟩ := hy
  have h0 := hh.1
  have hl := middleL_len y.f0 y.f1 y.f2 y.f3 y.f4 y.f5 bend h
  refine ev_rounds ?_
  unfold w12_ActMiddles.f
  refine Ev.bind awake (ev_pos rfl (ev_is (copied _ _ _ _ _ _ (by omega) (by omega) (by omega)) ?_))
  refine ev_some (ev_pos (by rw [List.length_nil]; omega) (ev_some ?_))
  rw [List.nil_append]
  refine Ev.bind (own_middle y.f0 y.f1 y.f2 y.f3 y.f4 y.f5 bend h) (ev_is (plainly _ _ _ _ _ _ (by omega) (by omega) (by omega)) ?_)
  refine Ev.bind (ref_middle y.f0 y.f1 y.f2 y.f3 y.f4 y.f5 bend h) (Ev.bind (same64 _ (by omega)) (ev_pos rfl (ev_pos rfl ?_)))
  refine Ev.bind (same8 y.f0 (by omega)) (ev_pos rfl (Ev.bind (same8 y.f1 (by omega)) (ev_pos rfl (Ev.bind (same8 y.f2 (by omega)) (ev_pos rfl (Ev.bind (same8 h (by omega)) (Ev.now _)))))))
end Go.Proofs.Ytjcfhgpaipbedaa.Pure
