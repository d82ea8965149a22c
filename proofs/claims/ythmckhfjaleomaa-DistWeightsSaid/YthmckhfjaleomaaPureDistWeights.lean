import Derived.Test.YthmckhfjaleomaaStmtDistWeights
import Derived.Test.YthmckhfjaleomaaMWt2
namespace Go.Proofs.Ythmckhfjaleomaa.Pure
set_option linter.unusedVariables false
open Go.RowKit Go.Proofs.YthmckhfjaleomaaW.PrintWords Go.Proofs.YthmckhfjaleomaaW.PrintLast Go.Proofs.YthmckhfjaleomaaW.PrintMore Go.Proofs.Ythmckhfjaleomaa.T Go.Proofs.Ythmckhfjaleomaa.St
theorem bias_l (b : List S46) (hb : b.length < 4611686018427387904) (y2 y3 y4 y5 y6 y8 y9 y10 y11 y12 : Int) : ∀ (d i : Nat), b.length - i = d → i ≤ b.length → Ev (fun k => w22_DistWeights.l1 k (b.length : Int) (i : Int) y2 y3 y4 y5 y6 b y8 y9 y10 y11 y12 b) true
  | d, i, hd, hi => by
    refine Ev.step (fun k => by rw [w22_DistWeights.l1]) ?_
    by_cases c : i < b.length
    · obtain ⟨d, rfl⟩ : ∃ e, d = e + 1 := ⟨d - 1, by omega⟩
      rw [w1 i (by omega)]
      exact ev_pos (by omega) (ev_pos (by omega) (ev_pos (by omega) (ev_pos (by omega) (ev_neg (by simp) (bias_l b hb y2 y3 y4 y5 y6 y8 y9 y10 y11 y12 d (i + 1) (by omega) (by omega))))))
    · exact ev_neg (by omega) (Ev.now _)
theorem mask_l (b : List S46) (hb : b.length < 4611686018427387904) (m : List Bool) (hm : m.length < 4611686018427387904) (l : List Int) (y2 y3 y4 y5 y6 y8 y9 y10 y11 y12 : Int) : ∀ (d i : Nat), m.length - i = d → i ≤ m.length → Ev (fun k => w22_DistWeights.l0 k m (m.length : Int) (i : Int) l m y2 y3 y4 y5 y6 b y8 y9 y10 y11 y12 b) true
  | d, i, hd, hi => by
    refine Ev.step (fun k => by rw [w22_DistWeights.l0]) ?_
    by_cases c : i < m.length
    · obtain ⟨d, rfl⟩ : ∃ e, d = e + 1 := ⟨d - 1, by omega⟩
      rw [w1 i (by omega)]
      exact ev_pos (by omega) (ev_pos (by omega) (ev_pos (by omega) (ev_pos (by omega) (ev_neg (by simp) (mask_l b hb m hm l y2 y3 y4 y5 y6 y8 y9 y10 y11 y12 d (i + 1) (by omega) (by omega))))))
    · exact ev_neg (by omega) (bias_l b hb y2 y3 y4 y5 y6 y8 y9 y10 y11 y12 _ 0 rfl (Nat.zero_le _))
theorem DistWeights : w22_DistWeights.Plain := by
  intro x p hx hp
  have hb := hp.2.2.2.2.2.1
  have hl := hx.1.1
  have hm := hx.2.1
  refine ev_rounds ?_
  unfold w22_DistWeights.f
  have hpl := plain_ev p.f5 (by omega) p.f0 p.f1 p.f2 p.f3 p.f4
  have hlen := weightsL_len x.f0 x.f1 p.f0 p.f1 p.f2 p.f3 p.f4 (p.f5.map pr)
  refine Ev.bind awake (ev_pos rfl (ev_some (ev_pos (by simp; omega) (ev_some (ev_some (ev_pos (by simp; omega) (ev_some (ev_some (ev_pos (by simp; omega) (ev_some ?_))))))))))
  rw [List.nil_append, List.nil_append, List.nil_append]
  refine Ev.bind (own_weights x.f0 x.f1 p.f0 p.f1 p.f2 p.f3 p.f4 p.f5 (by omega) (by omega) (by omega)) (Ev.bind hpl (Ev.bind (ref_weights x.f0 x.f1 p.f0 p.f1 p.f2 p.f3 p.f4 p.f5 (by omega)) (Ev.bind (same_ev _ (by omega)) (ev_pos rfl (ev_pos rfl (Ev.bind (same_ev x.f0 (by omega)) (Ev.step (fun k => by rw [w22_DistWeights.j0]) (ev_neg (by decide) ?_))))))))
  exact mask_l p.f5 (by omega) x.f1 (by omega) x.f0 _ _ _ _ _ _ _ _ _ _ _ 0 rfl (Nat.zero_le _)
end Go.Proofs.Ythmckhfjaleomaa.Pure
