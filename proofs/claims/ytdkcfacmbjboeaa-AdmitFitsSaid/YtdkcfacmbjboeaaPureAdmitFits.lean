/- Blocks have room for the places that they are asked for, and one less has not. -/
import Derived.Test.YtdkcfacmbjboeaaStmtAdmitFits
import Derived.Test.YtdkcfacmbjboeaaPureAdmitChecks
namespace Go.Proofs.Ytdkcfacmbjboeaa.Pure
open Go.RowKit Go.Proofs.YtdkcfacmbjboeaaW.PrintWords Go.Proofs.YtdkcfacmbjboeaaW.PrintLast Go.Proofs.YtdkcfacmbjboeaaW.PrintMore Go.Proofs.Ytdkcfacmbjboeaa.Q

theorem AdmitFits : heraldlaw27_AdmitFits.Plain := by
  intro s p _ hp
  have hp' := hp
  refine ⟨1, ?_⟩
  simp only [heraldlaw27_AdmitFits.f, heraldlaw27_given.f, Option.bind_some, own_blocks, ref_blocks, awake_true, if_true]
  unfold nblocks
  by_cases h : okS s.f0 s.f1 s.f2 s.f3 s.f4 s.f5
  · rw [if_pos h]
    by_cases h1 : p < 0
    · simp [h1]
    · rw [if_neg h1]
      by_cases h2 : p > 2147483648
      · simp [h2]
      · rw [if_neg h2]
        unfold okS at h
        obtain ⟨b, hb⟩ : ∃ b, b = s.f1 := ⟨_, rfl⟩
        rw [← hb] at h ⊢
        have e1 : wrap64 (p + b) = p + b := by unfold wrap64; omega
        have e2 : wrap64 (p + b - 1) = p + b - 1 := by unfold wrap64; omega
        have e3 : Int.tdiv (p + b - 1) b = (p + b - 1) / b := Int.tdiv_eq_ediv_of_nonneg (by omega)
        have q1 := Int.ediv_mul_add_emod (p + b - 1) b
        have q2 := Int.emod_nonneg (p + b - 1) (show b ≠ 0 by omega)
        have q3 := Int.emod_lt_of_pos (p + b - 1) (show 0 < b by omega)
        have q4 : 0 ≤ (p + b - 1) / b := Int.ediv_nonneg (by omega) (by omega)
        rw [e1, e2, e3]
        generalize (p + b - 1) / b = n at *
        generalize (p + b - 1) % b = m at *
        have nb : n * b ≤ 2147483648 + 64 := by omega
        have n1 : n ≤ n * b := by
          have := Int.mul_le_mul_of_nonneg_left (show (1 : Int) ≤ b by omega) q4
          omega
        have e4 : wrap64 n = n := by unfold wrap64; omega
        have e5 : wrap64 (n - 1) = n - 1 := by unfold wrap64; omega
        have e6 : (n - 1) * b = n * b - b := by rw [Int.sub_mul, Int.one_mul]
        have e7 : wrap64 (n * b) = n * b := by unfold wrap64; omega
        have e8 : wrap64 (n * b - b) = n * b - b := by unfold wrap64; omega
        simp only [e4, e5, e6, e7, e8]
        simp only [if_true]
        rw [if_pos (show n * b ≥ p by omega), if_pos (show n * b - b < p by omega)]
        by_cases hn : n > 0
        · rw [if_pos hn]
        · rw [if_neg hn]
          have hn0 : n = 0 := by omega
          subst hn0
          have : p = 0 := by omega
          simp [this]
  · simp [h]
end Go.Proofs.Ytdkcfacmbjboeaa.Pure
