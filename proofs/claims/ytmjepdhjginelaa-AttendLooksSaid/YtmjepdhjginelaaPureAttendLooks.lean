/- AttendLooks: what all heads of a row see is the document's; nothing is changed. -/
import Derived.Test.YtmjepdhjginelaaStmtAttendLooks
import Derived.Test.YtmjepdhjginelaaAtt3
namespace Go.Proofs.Ytmjepdhjginelaa.Pure
set_option linter.unusedVariables false
open Go.RowKit Go.Proofs.YtmjepdhjginelaaW.PrintWords Go.Proofs.YtmjepdhjginelaaW.PrintLast Go.Proofs.YtmjepdhjginelaaW.PrintMore Go.Proofs.Ytmjepdhjginelaa.B Go.Proofs.Ytmjepdhjginelaa.St
theorem same_l (l : List P49) (a b : Int) (hL : l.length * 48 ≤ 140737488351232) (hG : ∀ p ∈ l, p.f0.length * 1 ≤ 140737488351232 ∧ p.f1.length * 1 ≤ 140737488351232) : ∀ (d i : Nat), l.length - i = d → i ≤ l.length →
    Ev (fun k => w19_AttendLooks.l0 k (prL l) (i : Int) a b l) true
  | d, i, hd, hi => by
    have hpl : (prL l).length = l.length := by unfold prL; rw [List.length_map]
    refine Ev.step (fun k => by rw [w19_AttendLooks.l0]) ?_
    by_cases c : i < l.length
    · obtain ⟨d, rfl⟩ : ∃ e, d = e + 1 := ⟨d - 1, by omega⟩
      have e : (prL l).getD i z50 = ⟨l[i].f0, l[i].f1⟩ := by
        rw [getD_map50 _ i (by omega)]
        unfold prL
        rw [List.getElem_map]
      have hg := hG _ (List.getElem_mem c)
      rw [rd50, e, rd49, getD_map49 l i c, w1 i (by omega)]
      exact ev_pos (by omega) (ev_pos (by omega) (ev_pos (by omega) (Ev.bind (rows_ev _ (by omega)) (ev_pos rfl (Ev.bind (rows_ev _ (by omega)) (ev_pos rfl (same_l l a b hL hG d (i + 1) (by omega) (by omega))))))))
    · exact ev_neg (by omega) (Ev.now _)
theorem AttendLooks : w19_AttendLooks.Plain := by
  intro q y hq hy
  obtain ⟨hL, h8, hG⟩ := g43 hy
  have hl := lookL_len q y.f0 (ksL y.f2) (vsL y.f2) y.f1
  refine ev_rounds ?_
  unfold w19_AttendLooks.f
  refine ev_some (ev_pos (by rw [List.length_nil]; omega) (ev_some ?_))
  rw [List.nil_append]
  refine Ev.bind (pairs_ev y.f2 hL hG) (Ev.bind (own_look q y.f0 y.f2 y.f1 hL h8) (Ev.bind (ref_look q y.f0 y.f2 y.f1 hL h8) (Ev.bind awake (ev_pos rfl (Ev.bind (rows_ev _ (by omega)) (ev_pos rfl (ev_pos rfl (Ev.bind (rows_ev _ (by omega)) ?_))))))))
  refine Ev.step (fun k => by rw [w19_AttendLooks.j0]) ?_
  exact ev_neg (by decide) (same_l y.f2 y.f0 y.f1 hL hG _ 0 rfl (Nat.zero_le _))
end Go.Proofs.Ytmjepdhjginelaa.Pure
