/- The settings' check and the blocks of so many places are the document's: the parts. -/
import Derived.Test.YtdkcfacmbjboeaaStmtAdmitNeeds
namespace Go.Proofs.Ytdkcfacmbjboeaa.Pure
open Go.RowKit Go.Proofs.YtdkcfacmbjboeaaW.PrintWords Go.Proofs.YtdkcfacmbjboeaaW.PrintLast Go.Proofs.YtdkcfacmbjboeaaW.PrintMore Go.Proofs.Ytdkcfacmbjboeaa.R

def okS (a b c d e f : Int) : Prop := 1 ≤ a ∧ a ≤ 65536 ∧ 1 ≤ b ∧ b ≤ 64 ∧ 1 ≤ c ∧ c ≤ 8 ∧ 2 ≤ d ∧ d ≤ 64 ∧ 1 ≤ e ∧ e ≤ 16 ∧ 1 ≤ f ∧ f ≤ 256
instance (a b c d e f : Int) : Decidable (okS a b c d e f) := inferInstanceAs (Decidable (1 ≤ a ∧ a ≤ 65536 ∧ 1 ≤ b ∧ b ≤ 64 ∧ 1 ≤ c ∧ c ≤ 8 ∧ 2 ≤ d ∧ d ≤ 64 ∧ 1 ≤ e ∧ e ≤ 16 ∧ 1 ≤ f ∧ f ≤ 256))

theorem ref_check (a b c d e f : Int) : r27_Check.f a b c d e f = some (if okS a b c d e f then 0 else 270) := by
  unfold okS
  simp only [r27_Check.f, r27_within.f, ge_iff_le]
  by_cases h1 : 1 ≤ a
  case neg => simp [h1]
  by_cases h2 : a ≤ 65536
  case neg => simp [h1, h2]
  by_cases h3 : 1 ≤ b
  case neg => simp [h1, h2, h3]
  by_cases h4 : b ≤ 64
  case neg => simp [h1, h2, h3, h4]
  by_cases h5 : 1 ≤ c
  case neg => simp [h1, h2, h3, h4, h5]
  by_cases h6 : c ≤ 8
  case neg => simp [h1, h2, h3, h4, h5, h6]
  by_cases h7 : 2 ≤ d
  case neg => simp [h1, h2, h3, h4, h5, h6, h7]
  by_cases h8 : d ≤ 64
  case neg => simp [h1, h2, h3, h4, h5, h6, h7, h8]
  by_cases h9 : 1 ≤ e
  case neg => simp [h1, h2, h3, h4, h5, h6, h7, h8, h9]
  by_cases h10 : e ≤ 16
  case neg => simp [h1, h2, h3, h4, h5, h6, h7, h8, h9, h10]
  by_cases h11 : 1 ≤ f
  case neg => simp [h1, h2, h3, h4, h5, h6, h7, h8, h9, h10, h11]
  by_cases h12 : f ≤ 256
  case neg => simp [h1, h2, h3, h4, h5, h6, h7, h8, h9, h10, h11, h12]
  simp [h1, h2, h3, h4, h5, h6, h7, h8, h9, h10, h11, h12]

theorem own_check (k : Nat) (a b c d e f : Int) : admit_Check.f (k + 1) a b c d e f = some (if okS a b c d e f then 0 else 270) := by
  unfold okS
  simp only [admit_Check.f, admit_Check.j0, admit_Check_1.f, ge_iff_le]
  by_cases h1 : 1 ≤ a
  case neg => simp [h1]
  by_cases h2 : a ≤ 65536
  case neg => simp [h1, h2]
  by_cases h3 : 1 ≤ b
  case neg => simp [h1, h2, h3]
  by_cases h4 : b ≤ 64
  case neg => simp [h1, h2, h3, h4]
  by_cases h5 : 1 ≤ c
  case neg => simp [h1, h2, h3, h4, h5]
  by_cases h6 : c ≤ 8
  case neg => simp [h1, h2, h3, h4, h5, h6]
  by_cases h7 : 2 ≤ d
  case neg => simp [h1, h2, h3, h4, h5, h6, h7]
  by_cases h8 : d ≤ 64
  case neg => simp [h1, h2, h3, h4, h5, h6, h7, h8]
  by_cases h9 : 1 ≤ e
  case neg => simp [h1, h2, h3, h4, h5, h6, h7, h8, h9]
  by_cases h10 : e ≤ 16
  case neg => simp [h1, h2, h3, h4, h5, h6, h7, h8, h9, h10]
  by_cases h11 : 1 ≤ f
  case neg => simp [h1, h2, h3, h4, h5, h6, h7, h8, h9, h10, h11]
  by_cases h12 : f ≤ 256
  case neg => simp [h1, h2, h3, h4, h5, h6, h7, h8, h9, h10, h11, h12]
  simp [h1, h2, h3, h4, h5, h6, h7, h8, h9, h10, h11, h12]

def nblocks (a b c d e f p : Int) : Int × Int :=
  if okS a b c d e f then (if p < 0 then (0, 1) else if p > 2147483648 then (0, 1) else (wrap64 (Int.tdiv (wrap64 ((wrap64 (p + b)) - 1)) b), 0)) else (0, 270)

theorem ref_blocks (a b c d e f p : Int) : r27_Blocks.f a b c d e f p = some (nblocks a b c d e f p) := by
  simp only [r27_Blocks.f, ref_check, Option.bind_some, nblocks]
  by_cases h : okS a b c d e f
  · have hb : ¬ b = 0 := by unfold okS at h; omega
    simp only [h, if_true, hb, if_false]
    repeat' split
    all_goals rfl
  · simp [h]

theorem own_blocks (k : Nat) (a b c d e f p : Int) : admit_Blocks.f (k + 1) a b c d e f p = some (nblocks a b c d e f p) := by
  simp only [admit_Blocks.f, own_check, Option.bind_some, nblocks]
  by_cases h : okS a b c d e f
  · have hb : ¬ b = 0 := by unfold okS at h; omega
    simp only [h, if_true, hb, if_false]
    repeat' split
    all_goals rfl
  · simp [h]

theorem awake_true (k : Nat) : w27_awake.f (k + 1) = some true := by
  simp only [w27_awake.f, admit_Usual.f, Option.bind_some, own_blocks, own_check]
  decide +kernel

end Go.Proofs.Ytdkcfacmbjboeaa.Pure
