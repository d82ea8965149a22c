/- AttendScores: the scores of a head against keys are the document's. -/
import Derived.Test.YtmjepdhjginelaaStmtAttendScores
import Derived.Test.YtmjepdhjginelaaAtt1
import Derived.Test.YtmjepdhjginelaaB7
namespace Go.Proofs.Ytmjepdhjginelaa.Pure
set_option linter.unusedVariables false
open Go.RowKit Go.Proofs.YtmjepdhjginelaaW.PrintWords Go.Proofs.YtmjepdhjginelaaW.PrintLast Go.Proofs.YtmjepdhjginelaaW.PrintMore Go.Proofs.Ytmjepdhjginelaa.B Go.Proofs.Ytmjepdhjginelaa.St
theorem longs_l (l : List Int) (hl : l.length < 4611686018427387904) : ∀ (d i : Nat), l.length - i = d → i ≤ l.length → Ev (fun k => w19_longs.l0 k l l (i : Int)) true
  | d, i, hd, hi => by
    refine Ev.step (fun k => by rw [w19_longs.l0]) ?_
    by_cases c : i < l.length
    · obtain ⟨d, rfl⟩ : ∃ e, d = e + 1 := ⟨d - 1, by omega⟩
      rw [w1 i (by omega)]
      exact ev_pos (by omega) (ev_pos (by omega) (ev_pos (by omega) (ev_pos rfl (longs_l l hl d (i + 1) (by omega) (by omega)))))
    · exact ev_neg (by omega) (Ev.now _)
theorem longs_ev (l : List Int) (hl : l.length < 4611686018427387904) : Ev (fun k => w19_longs.f k l l) true := by
  unfold w19_longs.f
  exact ev_pos rfl (longs_l l hl _ 0 rfl (Nat.zero_le _))
set_option maxRecDepth 100000 in
theorem awake : Ev (fun k => w19_awake.f k) true := by
  have h : w19_awake.f 60 = some true := by kernel_rfl
  refine ⟨60, fun k hk => ?_⟩
  obtain ⟨d, rfl⟩ : ∃ d, k = 60 + d := ⟨k - 60, by omega⟩
  clear hk
  induction d with
  | zero => exact h
  | succ d ih => exact w19_awake.mono _ _ ih
theorem AttendScores : w19_AttendScores.Plain := by
  intro q keys s hq hk _
  have hlen := scoresL_len q keys s
  refine ev_rounds ?_
  unfold w19_AttendScores.f
  refine Ev.bind (own_scores q keys s) (Ev.bind (ref_scores q keys s) (Ev.bind awake (ev_pos rfl (Ev.bind (longs_ev _ (by omega)) (ev_pos rfl ?_)))))
  rw [beq_self_eq_true]
  exact Ev.now _
end Go.Proofs.Ytmjepdhjginelaa.Pure
