/- DistMemory: what is handed out is a list of its own: writing into it, appending to it moves no other. -/
import Derived.Test.YthmckhfjaleomaaStmtDistMemory
import Derived.Test.YthmckhfjaleomaaDw5
namespace Go.Proofs.Ythmckhfjaleomaa.Pure
set_option linter.unusedVariables false
open Go.RowKit Go.Proofs.YthmckhfjaleomaaW.PrintWords Go.Proofs.YthmckhfjaleomaaW.PrintLast Go.Proofs.YthmckhfjaleomaaW.PrintMore Go.Proofs.Ythmckhfjaleomaa.T Go.Proofs.Ythmckhfjaleomaa.St
section
variable (l : List Int) (mask : List Bool) (a0 a1 a2 a3 a4 : Int) (b : List S46) (hl : l.length < 17592186044416) (hm : mask.length ≤ 140737488355328) (hb : b.length < 8796093022208) (w : List Int) (hw : w = (weightsL l mask a0 a1 a2 a3 a4 (b.map pr)).1) (he : (weightsL l mask a0 a1 a2 a3 a4 (b.map pr)).2 = 0) (hwl : w.length ≤ 512)
include hl hm hb hw he hwl
theorem mem_l1 : ∀ (d i : Nat) (v : List Int), 9 - i = d → i ≤ 9 → v.length = w.length + i → Ev (fun k => w22_DistMemory.l1 k v w w (i : Int) l mask a0 a1 a2 a3 a4 b) true
  | d, i, v, hd, hi, hv => by
    refine Ev.step (fun k => by rw [w22_DistMemory.l1]) ?_
    by_cases c : i < 9
    · obtain ⟨d, rfl⟩ : ∃ e, d = e + 1 := ⟨d - 1, by omega⟩
      rw [w1 i (by omega)]
      exact ev_pos (by omega) (ev_pos (by omega) (mem_l1 d (i + 1) _ (by omega) (by omega) (by rw [List.length_append, hv]; rfl)))
    · obtain rfl : i = 9 := by omega
      refine ev_neg (by omega) (Ev.bind (own_weights l mask a0 a1 a2 a3 a4 b (by omega) hm (by omega)) (ev_pos he (Ev.bind (same_ev w (by omega)) (ev_pos rfl ?_))))
      rw [← hw]
      refine Ev.bind (same_ev w (by omega)) (ev_pos rfl ?_)
      rw [hv, w64 (by omega) (by omega), show ((w.length + 9 : Nat) : Int) = (w.length : Int) + 9 from by omega, beq_self_eq_true]
      exact Ev.now _
theorem mem_l0 : ∀ (d i : Nat) (v : List Int), w.length - i = d → i ≤ w.length → v.length = w.length → Ev (fun k => w22_DistMemory.l0 k v w w (w.length : Int) (i : Int) l mask a0 a1 a2 a3 a4 b) true
  | d, i, v, hd, hi, hv => by
    refine Ev.step (fun k => by rw [w22_DistMemory.l0]) ?_
    by_cases c : i < w.length
    · obtain ⟨d, rfl⟩ : ∃ e, d = e + 1 := ⟨d - 1, by omega⟩
      rw [w1 i (by omega)]
      exact ev_pos (by omega) (ev_pos (by omega) (ev_pos (by omega) (mem_l0 d (i + 1) _ (by omega) (by omega) (by rw [List.length_set]; exact hv))))
    · exact ev_neg (by omega) (mem_l1 l mask a0 a1 a2 a3 a4 b hl hm hb w hw he hwl _ 0 v rfl (Nat.zero_le _) hv)
end
theorem DistMemory : w22_DistMemory.Plain := by
  intro x p hx hp
  have hb := hp.2.2.2.2.2.1
  have hl := hx.1.1
  have hm := hx.2.1
  refine ev_rounds ?_
  unfold w22_DistMemory.f
  have hpl := plain_ev p.f5 (by omega) p.f0 p.f1 p.f2 p.f3 p.f4
  have hlen := weightsL_len x.f0 x.f1 p.f0 p.f1 p.f2 p.f3 p.f4 (p.f5.map pr)
  refine Ev.bind awake (ev_pos rfl (Ev.bind (right_ev x.f0 x.f1 p.f0 p.f1 p.f2 p.f3 p.f4 p.f5 (by omega) (by omega)) ?_))
  by_cases c : (weightsL x.f0 x.f1 p.f0 p.f1 p.f2 p.f3 p.f4 (p.f5.map pr)).2 = 0
  rotate_left
  · exact ev_neg (by rw [beq_eq_false_iff_ne.2 c]; decide) (Ev.now _)
  have ho := own_weights x.f0 x.f1 p.f0 p.f1 p.f2 p.f3 p.f4 p.f5 (by omega) (by omega) (by omega)
  refine ev_pos (by rw [c]; rfl) (Ev.bind ho (Ev.bind ho (Ev.bind hpl (Ev.bind (ref_weights x.f0 x.f1 p.f0 p.f1 p.f2 p.f3 p.f4 p.f5 (by omega)) (ev_pos c ?_)))))
  rw [c]
  refine Ev.step (fun k => by rw [w22_DistMemory.j0]) (ev_neg (by decide) ?_)
  exact mem_l0 x.f0 x.f1 p.f0 p.f1 p.f2 p.f3 p.f4 p.f5 (by omega) (by omega) (by omega) _ rfl c hlen _ 0 _ rfl (Nat.zero_le _) rfl
end Go.Proofs.Ythmckhfjaleomaa.Pure
