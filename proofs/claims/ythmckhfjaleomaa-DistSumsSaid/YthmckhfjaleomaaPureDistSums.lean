/- DistSums: weights are 0 or above, sum to 2^Bits, and are 0 of tokens that may not come; no more than TopK are above 0. -/
import Derived.Test.YthmckhfjaleomaaStmtDistSums
import Derived.Test.YthmckhfjaleomaaDw5
namespace Go.Proofs.Ythmckhfjaleomaa.Pure
set_option linter.unusedVariables false
open Go.RowKit Go.Proofs.YthmckhfjaleomaaW.PrintWords Go.Proofs.YthmckhfjaleomaaW.PrintLast Go.Proofs.YthmckhfjaleomaaW.PrintMore Go.Proofs.Ythmckhfjaleomaa.T Go.Proofs.Ythmckhfjaleomaa.St
theorem amay_ok (l : List Int) (mask : List Bool) (i : Nat) (h : mask.length = 0 ∨ i < mask.length) : w22_Asked_may.f l mask (i : Int) = some (mayL mask i) := by
  unfold w22_Asked_may.f mayL
  by_cases c : mask.length = 0
  · rw [if_pos (by omega), decide_eq_true c]; rfl
  · rw [if_neg (by omega), if_pos (by omega), if_pos (by omega), decide_eq_false c]
    unfold rdOf
    rw [Int.toNat_natCast]
    rfl
theorem sums_l (l w : List Int) (mask : List Bool) (a0 a1 a2 a3 a4 : Int) (b : List S46) (hm : mask.length = 0 ∨ mask.length = w.length) (hw : w.length ≤ 512) (h0 : ∀ i, i < w.length → 0 ≤ w.getD i 0 ∧ (mayL mask i = false → w.getD i 0 = 0)) (ht : 1 ≤ totL a4 ∧ totL a4 ≤ 4294967296) (hn : 0 < nz w) (ha : a2 ≠ 0 → (nz w : Int) ≤ a2) : ∀ (d i : Nat) (s : Int) (c : Nat), w.length - i = d → i ≤ w.length → 0 ≤ s → s + (w.drop i).sum = totL a4 → c + nz (w.drop i) = nz w →
    Ev (fun k => w22_DistSums.l0 k s (c : Int) w (w.length : Int) (i : Int) l mask a0 a1 a2 a3 a4 b) true
  | d, i, s, c, hd, hi, hs0, hs, hc => by
    refine Ev.step (fun k => by rw [w22_DistSums.l0]) ?_
    by_cases hlt : i < w.length
    · obtain ⟨d, rfl⟩ : ∃ e, d = e + 1 := ⟨d - 1, by omega⟩
      obtain ⟨g0, g1⟩ := h0 i hlt
      have hrest : 0 ≤ (w.drop (i + 1)).sum := sum_nonneg (fun x hx => by
        obtain ⟨j, hj, rfl⟩ := List.getElem_of_mem hx
        rw [List.length_drop] at hj
        have := (h0 (i + 1 + j) (by omega)).1
        rw [List.getD_eq_getElem?_getD, List.getElem?_eq_getElem (by omega)] at this
        rw [List.getElem_drop]
        exact this)
      have hnl := nz_le_len w
      rw [drop_get w i hlt, List.sum_cons] at hs
      rw [drop_get w i hlt, nz] at hc
      rw [rd_nat]
      refine ev_pos (by omega) (ev_pos (by omega) (ev_pos (by omega) (ev_neg (by omega) ?_)))
      by_cases cx : w.getD i 0 > 0
      · have hmay : mayL mask i = true := by
          cases e : mayL mask i with
          | true => rfl
          | false => have := g1 e; omega
        rw [if_neg (by omega)] at hc
        refine ev_pos cx (ev_is (amay_ok l mask i (by omega)) (Ev.step (fun k => by rw [w22_DistSums.j2]) ?_))
        rw [hmay]
        refine ev_neg (by decide) (ev_pos cx ?_)
        rw [w64 (x := s + w.getD i 0) (by omega) (by omega), w1 i (by omega), w64 (by omega) (by omega)]
        exact sums_l l w mask a0 a1 a2 a3 a4 b hm hw h0 ht hn ha d (i + 1) _ (c + 1) (by omega) (by omega) (by omega) (by omega) (by omega)
      · rw [if_pos (by omega)] at hc
        refine ev_neg cx (Ev.step (fun k => by rw [w22_DistSums.j2]) (ev_neg (by decide) (ev_neg cx ?_)))
        rw [w64 (x := s + w.getD i 0) (by omega) (by omega), w1 i (by omega)]
        exact sums_l l w mask a0 a1 a2 a3 a4 b hm hw h0 ht hn ha d (i + 1) _ c (by omega) (by omega) (by omega) (by omega) (by omega)
    · obtain rfl : i = w.length := by omega
      rw [List.drop_eq_nil_of_le (Nat.le_refl _)] at hs hc
      have hs' : s + 0 = totL a4 := hs
      have hc' : c + 0 = nz w := hc
      refine ev_neg (by omega) (Ev.bind (total_ev b a0 a1 a2 a3 a4) (ev_pos (by omega) (ev_pos (by omega) ?_)))
      by_cases c2 : a2 = 0
      · exact ev_pos c2 (Ev.now _)
      · have := ha c2
        refine ev_neg c2 ?_
        rw [decide_eq_true (by omega)]
        exact Ev.now _
theorem nz_of_sum : ∀ w : List Int, nz w = 0 → w.sum = 0
  | [], _ => rfl
  | x :: r, h => by
    rw [nz] at h
    have : x = 0 := by
      by_cases c : x = 0
      · exact c
      · rw [if_neg c] at h; omega
    rw [List.sum_cons, this, nz_of_sum r (by omega)]
    rfl
theorem DistSums : w22_DistSums.Plain := by
  intro x p hx hp
  have hb := hp.2.2.2.2.2.1
  have hl := hx.1.1
  have hm := hx.2.1
  refine ev_rounds ?_
  unfold w22_DistSums.f
  refine Ev.bind awake (ev_pos rfl (Ev.bind (own_weights x.f0 x.f1 p.f0 p.f1 p.f2 p.f3 p.f4 p.f5 (by omega) (by omega) (by omega)) (Ev.bind (right_ev x.f0 x.f1 p.f0 p.f1 p.f2 p.f3 p.f4 p.f5 (by omega) (by omega)) ?_)))
  by_cases c : (weightsL x.f0 x.f1 p.f0 p.f1 p.f2 p.f3 p.f4 (p.f5.map pr)).2 = 0
  · obtain ⟨f1, f2, f3, f4, f5, f6, f7, f8, f9, _⟩ := weights_facts c
    refine ev_pos (by rw [c]; rfl) (ev_pos c (Ev.step (fun k => by rw [w22_DistSums.j0]) (ev_neg (by rw [f1]; simp) ?_)))
    generalize (weightsL x.f0 x.f1 p.f0 p.f1 p.f2 p.f3 p.f4 (p.f5.map pr)).1 = w at *
    refine sums_l x.f0 w x.f1 p.f0 p.f1 p.f2 p.f3 p.f4 p.f5 (by omega) (by omega) (fun i hi => f4 i (by omega)) ⟨f6, f7⟩ ?_ f8 _ 0 0 0 rfl (Nat.zero_le _) (Int.le_refl _) (by rw [Int.zero_add]; exact f5) (by rw [Nat.zero_add]; rfl)
    rcases Nat.eq_zero_or_pos (nz w) with h | h
    · have := nz_of_sum w h; omega
    · exact h
  · have he := weights_err c
    refine ev_neg (by rw [beq_eq_false_iff_ne.2 c]; decide) (ev_neg c ?_)
    rw [he]
    exact Ev.now _
end Go.Proofs.Ythmckhfjaleomaa.Pure
