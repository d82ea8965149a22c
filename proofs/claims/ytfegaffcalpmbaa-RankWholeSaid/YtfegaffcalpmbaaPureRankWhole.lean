/- RankWhole: shares sum to the whole, each less than 1 off, none of nothing, and the greater weight never has less. -/
import Derived.Test.YtfegaffcalpmbaaStmtRankWhole
import Derived.Test.YtfegaffcalpmbaaPureRankTop
namespace Go.Proofs.Ytfegaffcalpmbaa.Pure
set_option linter.unusedSimpArgs false
set_option linter.unusedVariables false
open Go.RowKit Go.Proofs.YtfegaffcalpmbaaW.PrintWords Go.Proofs.YtfegaffcalpmbaaW.PrintLast Go.Proofs.YtfegaffcalpmbaaW.PrintMore Go.Proofs.Ytfegaffcalpmbaa.A Go.Proofs.Ytfegaffcalpmbaa.St

structure Fair (l a : List Int) (t all : Int) : Prop where
  ok : ShareOk l t all
  len : a.length = l.length
  low : ∀ i, i < l.length → Int.tdiv (l.getD i 0 * t) all ≤ a.getD i 0 ∧ a.getD i 0 ≤ Int.tdiv (l.getD i 0 * t) all + 1
  none : ∀ i, i < l.length → a.getD i 0 > Int.tdiv (l.getD i 0 * t) all → Int.tmod (l.getD i 0 * t) all ≠ 0
  mono : ∀ i k, i < l.length → k < l.length → l.getD k 0 > l.getD i 0 → ¬ a.getD k 0 < a.getD i 0
  sum : a.sum = t
theorem fair {l : List Int} {t all : Int} (h : ShareOk l t all) : Fair l (bump (quos l t all) ((tops l t all).map fun x : Nat => (x : Int))) t all := by
  have hlt : ∀ n ∈ tops l t all, n < (quos l t all).length := fun n hn => by rw [quos_len h]; exact tops_lt h n hn
  have g : ∀ j, j < l.length → (bump (quos l t all) ((tops l t all).map fun x : Nat => (x : Int))).getD j 0 = Int.tdiv (l.getD j 0 * t) all + if j ∈ tops l t all then 1 else 0 := by
    intro j hj
    rw [bump_get _ _ j (tops_nodup h) hlt, quos_get h j hj]
  refine ⟨h, by rw [length_bump, quos_len h], ?_, ?_, ?_, ?_⟩
  · intro i hi
    rw [g i hi]
    split <;> omega
  · intro i hi hg
    rw [g i hi] at hg
    split at hg
    · rename_i c
      have := tops_pos h c
      rw [rests_get h i hi] at this
      exact this
    · omega
  · intro i k hi hk hlk hlt2
    rw [g i hi, g k hk] at hlt2
    have qi := h.quo _ (getD_mem l i hi)
    have qk := h.quo _ (getD_mem l k hk)
    have ht1 := h.t1
    have hp := h.pos
    have hle : l.getD i 0 * t < l.getD k 0 * t := Int.mul_lt_mul_of_pos_right hlk (by omega)
    have ei := Int.mul_tdiv_add_tmod (l.getD i 0 * t) all
    have ek := Int.mul_tdiv_add_tmod (l.getD k 0 * t) all
    have hq : Int.tdiv (l.getD i 0 * t) all ≤ Int.tdiv (l.getD k 0 * t) all := by
      rw [Int.tdiv_eq_ediv_of_nonneg qi.1, Int.tdiv_eq_ediv_of_nonneg qk.1]
      exact Int.ediv_le_ediv hp (by omega)
    by_cases ci : i ∈ tops l t all
    · rw [if_pos ci] at hlt2
      by_cases ck : k ∈ tops l t all
      · rw [if_pos ck] at hlt2; omega
      · rw [if_neg ck] at hlt2
        have e : Int.tdiv (l.getD i 0 * t) all = Int.tdiv (l.getD k 0 * t) all := by omega
        refine ck (tops_up h ci hk (.inl ?_))
        rw [rests_get h i hi, rests_get h k hk]
        rw [e] at ei
        omega
    · rw [if_neg ci] at hlt2
      split at hlt2 <;> omega
  · rw [bump_sum _ _ hlt, tops_len h]
    unfold missing
    omega

section
variable {l a : List Int} {t all : Int} (f : Fair l a t all)
include f
theorem a_range : ∀ i, i < l.length → 0 ≤ a.getD i 0 ∧ a.getD i 0 ≤ 4294967297 := by
  intro i hi
  have := f.low i hi
  have := f.ok.quo _ (getD_mem l i hi)
  have := f.ok.t2
  omega
theorem whole_l0 (K : Nat) (hK : ∀ k, K ≤ k → w07_RankWhole.l1 k l t a all t 0 = some true) (hall : all = l.sum) : ∀ (d i : Nat), l.length - i = d → i ≤ l.length →
    (0 ≤ (l.take i).sum ∧ (l.take i).sum ≤ 1073741824 * (i : Int)) → (0 ≤ (a.take i).sum ∧ (a.take i).sum ≤ 4294967297 * (i : Int)) → ∀ k, d + K + 1 ≤ k →
    w07_RankWhole.l0 k l t a (l.take i).sum (a.take i).sum (i : Int) = some true
  | d, i, hd, hi, h1, h2, 0, hk => by omega
  | d, i, hd, hi, h1, h2, k + 1, hk => by
    have hlen := f.ok.len
    have al := f.len
    rw [w07_RankWhole.l0]
    by_cases c : i < l.length
    · have hl := f.ok.each _ (getD_mem l i c)
      have ha := a_range f i c
      have e1 := take_succ_sum l i c
      have e2 := take_succ_sum a i (by omega)
      rw [if_pos (by omega), if_pos (by omega), if_pos (by omega), rd_nat, rd_nat, w64 (x := (l.take i).sum + l.getD i 0) (by omega) (by omega), w64 (x := (a.take i).sum + a.getD i 0) (by omega) (by omega), w64 (by omega) (by omega), ← e1, ← e2]
      exact whole_l0 K hK hall (l.length - (i + 1)) (i + 1) rfl (by omega) (by omega) (by omega) k (by omega)
    · obtain rfl : i = l.length := by omega
      rw [if_neg (by omega)]
      have e2 : a.take l.length = a := by rw [← al, List.take_length]
      rw [List.take_length, e2, ← hall, f.sum]
      exact hK k (by omega)
theorem whole_l2 (K i : Nat) (hi : i < l.length) (hK : ∀ k, K ≤ k → w07_RankWhole.l1 k l t a all t ((i + 1 : Nat) : Int) = some true) : ∀ (d j : Nat), l.length - j = d → j ≤ l.length → ∀ k, d + K + 1 ≤ k →
    w07_RankWhole.l2 k l t a all t (i : Int) (j : Int) = some true
  | d, j, hd, hj, 0, hk => by omega
  | d, j, hd, hj, k + 1, hk => by
    have hlen := f.ok.len
    have al := f.len
    rw [w07_RankWhole.l2]
    by_cases c : j < l.length
    · rw [if_pos (by omega), if_pos (by omega), if_pos (by omega), if_pos (by omega), rd_nat, rd_nat, w64 (by omega) (by omega)]
      have ih := whole_l2 K i hi hK (l.length - (j + 1)) (j + 1) rfl (by omega) k (by omega)
      by_cases c2 : l.getD j 0 > l.getD i 0
      · rw [if_pos c2, if_pos (by omega), if_pos (by omega), rd_nat, rd_nat, if_neg (f.mono i j hi c c2)]
        exact ih
      · rw [if_neg c2]
        exact ih
    · rw [if_neg (by omega), w64 (by omega) (by omega)]
      exact hK k (by omega)
theorem whole_l1 : ∀ (d i : Nat), l.length - i = d → i ≤ l.length → ∃ K, ∀ k, K ≤ k → w07_RankWhole.l1 k l t a all t (i : Int) = some true
  | 0, i, hd, hi => by
    refine ⟨10001, fun k hk => ?_⟩
    obtain ⟨k, rfl⟩ : ∃ q, k = q + 1 := ⟨k - 1, by omega⟩
    rw [w07_RankWhole.l1, if_neg (by omega), awake k (by omega), Option.bind_some, if_pos rfl]
    simp
  | d + 1, i, hd, hi => by
    obtain ⟨K, hK⟩ := whole_l1 d (i + 1) (by omega) (by omega)
    have hlen := f.ok.len
    have al := f.len
    have hp := f.ok.pos
    have ht2 := f.ok.t2
    refine ⟨K + l.length + 10, fun k hk => ?_⟩
    obtain ⟨k, rfl⟩ : ∃ q, k = q + 1 + 1 := ⟨k - 2, by omega⟩
    obtain ⟨a1, a2, a3, a4, a5, a6⟩ := f.ok.quo _ (getD_mem l i (by omega))
    have lo := f.low i (by omega)
    have h2 := whole_l2 f K i (by omega) hK _ 0 rfl (Nat.zero_le _) k (by omega)
    rw [w07_RankWhole.l1, if_pos (by omega), if_pos (by omega), if_neg (by omega), if_pos (by omega), rd_nat, rd_nat, w64 (x := l.getD i 0 * t) (by omega) (by omega), w64 (x := Int.tdiv (l.getD i 0 * t) all) (by omega) (by omega), if_neg (by omega), w64 (x := Int.tdiv (l.getD i 0 * t) all + 1) (by omega) (by omega), if_neg (by omega)]
    by_cases c : a.getD i 0 > Int.tdiv (l.getD i 0 * t) all
    · have hn := f.none i (by omega) c
      have hb : (Int.tmod (l.getD i 0 * t) all == 0) = false := by rw [beq_eq_false_iff_ne]; exact hn
      rw [if_pos c, hb, w07_RankWhole.j3, if_neg (by decide)]
      exact h2
    · rw [if_neg c, w07_RankWhole.j3, if_neg (by decide)]
      exact h2
end
theorem RankWhole : w07_RankWhole.Plain := by
  intro l t hl ht
  obtain ⟨hl1, hl2, hl3⟩ := hl
  obtain ⟨K, hK⟩ := ref_share l t (by omega)
  by_cases he : (shareL l t).2 = 0
  · obtain ⟨all, hall, hok, hs⟩ := share_ok he
    have f := fair hok
    rw [← hs] at f
    obtain ⟨K1, hK1⟩ := whole_l1 f _ 0 rfl (Nat.zero_le _)
    refine ⟨K + K1 + 10000 + l.length + 10, ?_⟩
    rw [w07_RankWhole.f, own_share _ _ _ (by omega), Option.bind_some, hK _ (by omega), Option.bind_some, if_pos rfl, he]
    have hb : ((0 : Int) != 0) = false := by decide
    rw [hb, show K + K1 + 10000 + l.length + 10 = (K + K1 + 10000 + l.length + 9) + 1 by omega, w07_RankWhole.j0, if_neg (by decide), if_pos (by rw [f.len])]
    exact whole_l0 f K1 hK1 hok.sum _ 0 rfl (Nat.zero_le _) (by simp) (by simp) _ (by omega)
  · have h0 := share_err he
    refine ⟨K + 10000 + l.length + 10, ?_⟩
    rw [w07_RankWhole.f, own_share _ _ _ (by omega), Option.bind_some, hK _ (by omega), Option.bind_some, if_pos rfl]
    have hb : ((shareL l t).2 != 0) = true := by rw [bne_iff_ne]; exact he
    rw [hb, h0, show K + 10000 + l.length + 10 = (K + 10000 + l.length + 9) + 1 by omega, w07_RankWhole.j0, if_pos rfl, awake _ (by omega), Option.bind_some, if_pos rfl, if_pos rfl]
    rfl
end Go.Proofs.Ytfegaffcalpmbaa.Pure
