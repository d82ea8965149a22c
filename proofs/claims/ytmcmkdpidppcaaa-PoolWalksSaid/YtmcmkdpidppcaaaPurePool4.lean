/- The document's list of places: New. -/
import Derived.Test.YtmcmkdpidppcaaaPurePool2
namespace Go.Proofs.Ytmcmkdpidppcaaa.Pure
set_option linter.unusedVariables false
open Go.RowKit Go.Proofs.YtmcmkdpidppcaaaW.PrintWords Go.Proofs.YtmcmkdpidppcaaaW.PrintLast Go.Proofs.YtmcmkdpidppcaaaW.PrintMore Go.Proofs.Ytmcmkdpidppcaaa.A Go.Proofs.Ytmcmkdpidppcaaa.St
theorem new_go (n : Nat) (hn : n ≤ 65536) : ∀ (d i : Nat), n - i = d → i ≤ n → Ev (fun k => r05_New.l0 k (n : Int) (List.replicate i ⟨false, 0⟩) (i : Int)) (List.replicate n ⟨false, 0⟩, 0)
  | d, i, hd, hi => by
    refine Ev.step (fun k => by rw [r05_New.l0]) ?_
    by_cases c : i < n
    · obtain ⟨d, rfl⟩ : ∃ e, d = e + 1 := ⟨d - 1, by omega⟩
      refine ev_pos (by omega) (ev_pos (by rw [List.length_replicate]; omega) ?_)
      rw [w1 i (by omega), ← List.replicate_succ']
      exact new_go n hn d (i + 1) (by omega) (by omega)
    · obtain rfl : i = n := by omega
      exact ev_neg (by omega) (Ev.now _)
theorem new_ref (n : Nat) (h : 1 ≤ n ∧ n ≤ 65536) : Ev (fun k => r05_New.f k (n : Int)) (List.replicate n ⟨false, 0⟩, 0) := by
  unfold r05_New.f
  refine ev_neg (by omega) ?_
  rw [decide_eq_false (by omega)]
  refine Ev.step (fun k => by rw [r05_New.j0]) ?_
  exact ev_neg (by decide) (new_go n h.2 n 0 (by omega) (Nat.zero_le _))
theorem new_ref_no (n : Int) (h : n < 1 ∨ 65536 < n) : Ev (fun k => r05_New.f k n) (([] : List S66), 1) := by
  unfold r05_New.f
  by_cases c : n < 1
  · refine ev_pos c (Ev.step (fun k => by rw [r05_New.j0]) ?_)
    exact ev_pos rfl (Ev.now _)
  · refine ev_neg c ?_
    rw [decide_eq_true (by omega)]
    refine Ev.step (fun k => by rw [r05_New.j0]) ?_
    exact ev_pos rfl (Ev.now _)
end Go.Proofs.Ytmcmkdpidppcaaa.Pure
