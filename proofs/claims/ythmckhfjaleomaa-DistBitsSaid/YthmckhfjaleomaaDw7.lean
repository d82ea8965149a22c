/- dist: sums of weights, surprises, the mean surprise. -/
import Derived.Test.YthmckhfjaleomaaDw6
import Derived.Test.YthmckhfjaleomaaMWts
import Derived.Test.YthmckhfjaleomaaT31
namespace Go.Proofs.Ythmckhfjaleomaa.Pure
set_option linter.unusedSimpArgs false
set_option linter.unusedVariables false
set_option linter.unusedSectionVars false
open Go.RowKit Go.Proofs.YthmckhfjaleomaaW.PrintWords Go.Proofs.YthmckhfjaleomaaW.PrintLast Go.Proofs.YthmckhfjaleomaaW.PrintMore Go.Proofs.Ythmckhfjaleomaa.T Go.Proofs.Ythmckhfjaleomaa.St

def badW (x : Int) : Bool := decide (x < 0) || decide (x > 4294967296)
def pickB (s : Int) : Int := if s = 2 then 1 else if s = 4 then 2 else if s = 16 then 4 else if s = 256 then 8 else if s = 65536 then 16 else if s = 4294967296 then 32 else 0
/-- the bits of weights; 0: they are none. -/
def bitsL (w : List Int) : Int := if ¬ (1 ≤ w.length ∧ w.length ≤ 512) ∨ w.any badW = true then 0 else pickB w.sum
theorem sh1 : shl .i64 1 1 = 2 ∧ shl .i64 1 2 = 4 ∧ shl .i64 1 4 = 16 ∧ shl .i64 1 8 = 256 ∧ shl .i64 1 16 = 65536 ∧ shl .i64 1 32 = 4294967296 := by decide
theorem uw : IntKind.u64.wrap 1 = 1 ∧ IntKind.u64.wrap 2 = 2 ∧ IntKind.u64.wrap 4 = 4 ∧ IntKind.u64.wrap 8 = 8 ∧ IntKind.u64.wrap 16 = 16 ∧ IntKind.u64.wrap 32 = 32 := by decide
theorem own_pick (s : Int) : Ev (fun k => dist_sums.l1 k s [1, 2, 4, 8, 16, 32] 6 0) (pickB s, decide (pickB s ≠ 0)) := by
  obtain ⟨h1, h2, h3, h4, h5, h6⟩ := sh1
  refine ⟨10, fun k hk => ?_⟩
  obtain ⟨k, rfl⟩ : ∃ q, k = q + 10 := ⟨k - 10, by omega⟩
  by_cases c1 : s = 2
  · subst c1; simp [dist_sums.l1, rd, wrap64, h1, h2, h3, h4, h5, h6, pickB]
  by_cases c2 : s = 4
  · subst c2; simp [dist_sums.l1, rd, wrap64, h1, h2, h3, h4, h5, h6, pickB]
  by_cases c3 : s = 16
  · subst c3; simp [dist_sums.l1, rd, wrap64, h1, h2, h3, h4, h5, h6, pickB]
  by_cases c4 : s = 256
  · subst c4; simp [dist_sums.l1, rd, wrap64, h1, h2, h3, h4, h5, h6, pickB]
  by_cases c5 : s = 65536
  · subst c5; simp [dist_sums.l1, rd, wrap64, h1, h2, h3, h4, h5, h6, pickB]
  by_cases c6 : s = 4294967296
  · subst c6; simp [dist_sums.l1, rd, wrap64, h1, h2, h3, h4, h5, h6, pickB]
  simp [dist_sums.l1, rd, wrap64, h1, h2, h3, h4, h5, h6, pickB, c1, c2, c3, c4, c5, c6]
theorem ref_pick (s : Int) : Ev (fun k => r22_bits.l1 k s [1, 2, 4, 8, 16, 32] 6 0) (pickB s) := by
  obtain ⟨h1, h2, h3, h4, h5, h6⟩ := sh1
  obtain ⟨u1, u2, u3, u4, u5, u6⟩ := uw
  refine ⟨10, fun k hk => ?_⟩
  obtain ⟨k, rfl⟩ : ∃ q, k = q + 10 := ⟨k - 10, by omega⟩
  by_cases c1 : s = 2
  · subst c1; simp [r22_bits.l1, rd, wrap64, h1, h2, h3, h4, h5, h6, u1, u2, u3, u4, u5, u6, pickB]
  by_cases c2 : s = 4
  · subst c2; simp [r22_bits.l1, rd, wrap64, h1, h2, h3, h4, h5, h6, u1, u2, u3, u4, u5, u6, pickB]
  by_cases c3 : s = 16
  · subst c3; simp [r22_bits.l1, rd, wrap64, h1, h2, h3, h4, h5, h6, u1, u2, u3, u4, u5, u6, pickB]
  by_cases c4 : s = 256
  · subst c4; simp [r22_bits.l1, rd, wrap64, h1, h2, h3, h4, h5, h6, u1, u2, u3, u4, u5, u6, pickB]
  by_cases c5 : s = 65536
  · subst c5; simp [r22_bits.l1, rd, wrap64, h1, h2, h3, h4, h5, h6, u1, u2, u3, u4, u5, u6, pickB]
  by_cases c6 : s = 4294967296
  · subst c6; simp [r22_bits.l1, rd, wrap64, h1, h2, h3, h4, h5, h6, u1, u2, u3, u4, u5, u6, pickB]
  simp [r22_bits.l1, rd, wrap64, h1, h2, h3, h4, h5, h6, u1, u2, u3, u4, u5, u6, pickB, c1, c2, c3, c4, c5, c6]
theorem bits_bad {w : List Int} {x : Int} (hx : x ∈ w) (h : badW x = true) : bitsL w = 0 := by
  unfold bitsL
  rw [if_pos (Or.inr (List.any_eq_true.2 ⟨x, hx, h⟩))]
theorem not_bad {w : List Int} (h : ∀ j, j < w.length → badW (w.getD j 0) = false) : w.any badW = false := by
  rw [List.any_eq_false]
  intro x hx
  obtain ⟨j, hj, rfl⟩ := List.getElem_of_mem hx
  have := h j hj
  rw [List.getD_eq_getElem?_getD, List.getElem?_eq_getElem hj] at this
  have h3 : badW w[j] = false := this
  rw [h3]; decide
theorem own_bits_l (w : List Int) (h1 : 1 ≤ w.length) (h2 : w.length ≤ 512) : ∀ (d i : Nat) (s : Int), w.length - i = d → i ≤ w.length → (∀ j, j < i → badW (w.getD j 0) = false) → 0 ≤ s → s ≤ 4294967296 * (i : Int) → s + (w.drop i).sum = w.sum →
    Ev (fun k => dist_sums.l0 k s w (w.length : Int) (i : Int)) (bitsL w, decide (bitsL w ≠ 0))
  | d, i, s, hd, hi, hno, s0, s1, hs => by
    refine Ev.step (fun k => by rw [dist_sums.l0]) ?_
    by_cases c : i < w.length
    · obtain ⟨d, rfl⟩ : ∃ e, d = e + 1 := ⟨d - 1, by omega⟩
      rw [drop_get w i c, List.sum_cons] at hs
      rw [rd_nat, w1 i (by omega)]
      refine ev_pos (by omega) (ev_pos (by omega) (ev_pos (by omega) ?_))
      by_cases c1 : w.getD i 0 < 0
      · rw [bits_bad (getD_mem w i c) (by unfold badW; rw [decide_eq_true c1]; rfl)]
        exact ev_pos c1 (Ev.now _)
      by_cases c2 : w.getD i 0 > 4294967296
      · rw [bits_bad (getD_mem w i c) (by unfold badW; rw [decide_eq_true c2]; simp)]
        exact ev_neg c1 (ev_pos c2 (Ev.now _))
      rw [w64 (x := s + w.getD i 0) (by omega) (by omega)]
      refine ev_neg c1 (ev_neg c2 (own_bits_l w h1 h2 d (i + 1) _ (by omega) (by omega) (fun j hj => ?_) (by omega) (by omega) (by omega)))
      by_cases e : j = i
      · subst e; unfold badW; rw [decide_eq_false c1, decide_eq_false c2]; rfl
      · exact hno j (by omega)
    · obtain rfl : i = w.length := by omega
      rw [List.drop_eq_nil_of_le (Nat.le_refl _)] at hs
      have hs' : s + 0 = w.sum := hs
      have e : bitsL w = pickB s := by
        unfold bitsL
        rw [if_neg (by rintro (h | h); exact h ⟨h1, h2⟩; rw [not_bad hno] at h; cases h), ← hs']
        congr 1
        omega
      rw [e]
      exact ev_neg (by omega) (ev_some (own_pick s))
theorem own_bits (w : List Int) : Ev (fun k => dist_sums.f k w) (bitsL w, decide (bitsL w ≠ 0)) := by
  unfold dist_sums.f
  have hbt : dist_between.f (w.length : Int) 1 512 = some (decide (1 ≤ w.length ∧ w.length ≤ 512)) := by
    unfold dist_between.f
    by_cases c : (w.length : Int) ≥ 1
    · rw [if_pos c]
      congr 1
      by_cases c2 : (w.length : Int) ≤ 512
      · rw [decide_eq_true c2, decide_eq_true (by omega)]
      · rw [decide_eq_false c2, decide_eq_false (by omega)]
    · rw [if_neg c, decide_eq_false (by omega)]
  refine ev_is hbt ?_
  by_cases c : 1 ≤ w.length ∧ w.length ≤ 512
  · rw [decide_eq_true c]
    exact ev_pos rfl (own_bits_l w c.1 c.2 _ 0 0 rfl (Nat.zero_le _) (fun j hj => by omega) (Int.le_refl _) (by omega) (by rw [Int.zero_add]; rfl))
  · rw [decide_eq_false c]
    have e : bitsL w = 0 := by unfold bitsL; rw [if_pos (Or.inl c)]
    rw [e]
    exact ev_neg (by decide) (Ev.now _)
theorem ref_bits_l (w : List Int) (h1 : 1 ≤ w.length) (h2 : w.length ≤ 512) : ∀ (d i : Nat) (s : Int), w.length - i = d → i ≤ w.length → (∀ j, j < i → badW (w.getD j 0) = false) → 0 ≤ s → s ≤ 4294967296 * (i : Int) → s + (w.drop i).sum = w.sum →
    Ev (fun k => r22_bits.l0 k s w (w.length : Int) (i : Int)) (bitsL w)
  | d, i, s, hd, hi, hno, s0, s1, hs => by
    refine Ev.step (fun k => by rw [r22_bits.l0]) ?_
    by_cases c : i < w.length
    · obtain ⟨d, rfl⟩ : ∃ e, d = e + 1 := ⟨d - 1, by omega⟩
      rw [drop_get w i c, List.sum_cons] at hs
      rw [rd_nat, w1 i (by omega)]
      refine ev_pos (by omega) (ev_pos (by omega) (ev_pos (by omega) ?_))
      by_cases c1 : w.getD i 0 < 0
      · rw [bits_bad (getD_mem w i c) (by unfold badW; rw [decide_eq_true c1]; rfl)]
        exact ev_pos c1 (Ev.now _)
      by_cases c2 : w.getD i 0 > 4294967296
      · rw [bits_bad (getD_mem w i c) (by unfold badW; rw [decide_eq_true c2]; simp)]
        exact ev_neg c1 (ev_pos c2 (Ev.now _))
      rw [w64 (x := s + w.getD i 0) (by omega) (by omega)]
      refine ev_neg c1 (ev_neg c2 (ref_bits_l w h1 h2 d (i + 1) _ (by omega) (by omega) (fun j hj => ?_) (by omega) (by omega) (by omega)))
      by_cases e : j = i
      · subst e; unfold badW; rw [decide_eq_false c1, decide_eq_false c2]; rfl
      · exact hno j (by omega)
    · obtain rfl : i = w.length := by omega
      rw [List.drop_eq_nil_of_le (Nat.le_refl _)] at hs
      have hs' : s + 0 = w.sum := hs
      have e : bitsL w = pickB s := by
        unfold bitsL
        rw [if_neg (by rintro (h | h); exact h ⟨h1, h2⟩; rw [not_bad hno] at h; cases h), ← hs']
        congr 1
        omega
      rw [e]
      exact ev_neg (by omega) (ev_some (ref_pick s))
theorem ref_bits (w : List Int) : Ev (fun k => r22_bits.f k w) (bitsL w) := by
  have hj : ∀ k, r22_bits.f k w = r22_bits.j0 k w (decide (¬ (1 ≤ w.length ∧ w.length ≤ 512))) := by
    intro k
    unfold r22_bits.f
    by_cases c : (w.length : Int) < 1
    · rw [if_pos c, decide_eq_true (by omega)]
    · rw [if_neg c]
      congr 1
      by_cases c2 : (w.length : Int) > 512
      · rw [decide_eq_true c2, decide_eq_true (by omega)]
      · rw [decide_eq_false c2, decide_eq_false (by omega)]
  refine Ev.congr hj (Ev.step (fun k => by rw [r22_bits.j0]) ?_)
  by_cases c : 1 ≤ w.length ∧ w.length ≤ 512
  · rw [decide_eq_false (by omega)]
    exact ev_neg (by decide) (ref_bits_l w c.1 c.2 _ 0 0 rfl (Nat.zero_le _) (fun j hj => by omega) (Int.le_refl _) (by omega) (by rw [Int.zero_add]; rfl))
  · rw [decide_eq_true c]
    have e : bitsL w = 0 := by unfold bitsL; rw [if_pos (Or.inl c)]
    rw [e]
    exact ev_pos rfl (Ev.now _)
/-- what weights with bits are like. -/
theorem bits_ok {w : List Int} (h : bitsL w ≠ 0) : ∃ b : Nat, bitsL w = (b : Int) ∧ 1 ≤ b ∧ b ≤ 32 ∧ w.sum = ((2 ^ b : Nat) : Int) ∧ (1 ≤ w.length ∧ w.length ≤ 512) ∧ (∀ x ∈ w, 0 ≤ x ∧ x ≤ ((2 ^ b : Nat) : Int)) ∧ w.sum ≤ 4294967296 := by
  unfold bitsL at h
  by_cases c : ¬ (1 ≤ w.length ∧ w.length ≤ 512) ∨ w.any badW = true
  · rw [if_pos c] at h; exact (h rfl).elim
  have e : bitsL w = pickB w.sum := by unfold bitsL; rw [if_neg c]
  rw [if_neg c] at h
  have hl : 1 ≤ w.length ∧ w.length ≤ 512 := Decidable.byContradiction fun h => c (Or.inl h)
  have hb : ∀ x ∈ w, 0 ≤ x := by
    intro x hx
    have hn : ¬ badW x = true := fun hb => c (Or.inr (List.any_eq_true.2 ⟨x, hx, hb⟩))
    unfold badW at hn
    by_cases c1 : x < 0
    · exact (hn (by rw [decide_eq_true c1]; rfl)).elim
    · omega
  have hs : ∃ b : Nat, pickB w.sum = (b : Int) ∧ 1 ≤ b ∧ b ≤ 32 ∧ w.sum = ((2 ^ b : Nat) : Int) := by
    unfold pickB at h ⊢
    by_cases c1 : w.sum = 2
    · exact ⟨1, by rw [if_pos c1]; rfl, by omega, by omega, c1⟩
    by_cases c2 : w.sum = 4
    · exact ⟨2, by rw [if_neg c1, if_pos c2]; rfl, by omega, by omega, c2⟩
    by_cases c3 : w.sum = 16
    · exact ⟨4, by rw [if_neg c1, if_neg c2, if_pos c3]; rfl, by omega, by omega, c3⟩
    by_cases c4 : w.sum = 256
    · exact ⟨8, by rw [if_neg c1, if_neg c2, if_neg c3, if_pos c4]; rfl, by omega, by omega, c4⟩
    by_cases c5 : w.sum = 65536
    · exact ⟨16, by rw [if_neg c1, if_neg c2, if_neg c3, if_neg c4, if_pos c5]; rfl, by omega, by omega, c5⟩
    by_cases c6 : w.sum = 4294967296
    · exact ⟨32, by rw [if_neg c1, if_neg c2, if_neg c3, if_neg c4, if_neg c5, if_pos c6]; rfl, by omega, by omega, c6⟩
    rw [if_neg c1, if_neg c2, if_neg c3, if_neg c4, if_neg c5, if_neg c6] at h
    exact (h rfl).elim
  obtain ⟨b, h1, h2, h3, h4⟩ := hs
  have hp : ((2 ^ b : Nat) : Int) ≤ 4294967296 := by
    have : 2 ^ b ≤ 2 ^ 32 := Nat.pow_le_pow_right (by omega) h3
    have e : 2 ^ 32 = 4294967296 := by decide
    omega
  refine ⟨b, by rw [e, h1], h2, h3, h4, hl, fun x hx => ⟨hb x hx, ?_⟩, by omega⟩
  have := mem_le_sum hb x hx
  omega
/-- the surprise of a weight. -/
def surL (b x : Int) : Int := 65536 * b - logL x
theorem sur_range {b : Nat} {x : Int} (hb : b ≤ 32) (h0 : 1 ≤ x) (h1 : x ≤ ((2 ^ b : Nat) : Int)) : 0 ≤ surL b x ∧ surL b x ≤ 2097152 := by
  unfold surL
  have h2 := log_nonneg x
  have h3 := log_mono h0 h1
  rw [log_pow b hb] at h3
  omega
def surpriseL (w : List Int) (x : Int) : Int × Int :=
  if bitsL w = 0 then (0, 221) else if ¬ (0 ≤ x ∧ x < (w.length : Int)) then (0, 1) else if w.getD x.toNat 0 = 0 then (0, 223) else (surL (bitsL w) (w.getD x.toNat 0), 0)
theorem own_sur (w : List Int) (b : Nat) (x : Int) (hb : b ≤ 32) (h0 : 1 ≤ x) (h1 : x ≤ ((2 ^ b : Nat) : Int)) (h2 : x ≤ 4294967296) : Ev (fun k => dist_surprise.f k (b : Int) x) (surL b x) := by
  unfold dist_surprise.f
  refine Ev.bind (own_log x h0 h2) ?_
  have h := sur_range hb h0 h1
  have hl := log_nonneg x
  unfold surL at h ⊢
  show Ev (fun k => some (wrap64 (wrap64 (65536 * (b : Int)) - logL x))) _
  rw [w64 (x := 65536 * (b : Int)) (by omega) (by omega), w64 (by omega) (by omega)]
  exact Ev.now _
theorem own_surprise (w : List Int) (x : Int) : Ev (fun k => dist_Surprise.f k w x) (surpriseL w x) := by
  unfold dist_Surprise.f surpriseL
  refine Ev.bind (own_bits w) ?_
  by_cases c : bitsL w = 0
  · rw [if_pos c]
    exact ev_neg (by simp [c]) (Ev.now _)
  rw [if_neg c]
  refine ev_pos (by simp [c]) ?_
  obtain ⟨b, e, b1, b2, b3, bl, bx, bs⟩ := bits_ok c
  have hbt : dist_between.f x 0 (wrap64 ((w.length : Int) - 1)) = some (decide (0 ≤ x ∧ x < (w.length : Int))) := by
    unfold dist_between.f
    rw [w64 (by omega) (by omega)]
    by_cases c : x ≥ 0
    · rw [if_pos c]
      congr 1
      by_cases c2 : x ≤ (w.length : Int) - 1
      · rw [decide_eq_true c2, decide_eq_true (by omega)]
      · rw [decide_eq_false c2, decide_eq_false (by omega)]
    · rw [if_neg c, decide_eq_false (by omega)]
  refine ev_is hbt ?_
  by_cases cx : 0 ≤ x ∧ x < (w.length : Int)
  · rw [decide_eq_true cx, if_neg (fun h => h cx)]
    refine ev_pos rfl (ev_pos cx.1 (ev_pos cx.2 ?_))
    show Ev (fun k => if w.getD x.toNat 0 = 0 then some (0, 223) else (dist_surprise.f k (bitsL w) (w.getD x.toNat 0)).bind fun t716 => some (t716, 0)) _
    by_cases cz : w.getD x.toNat 0 = 0
    · rw [if_pos cz]; exact ev_pos cz (Ev.now _)
    · have hv := bx _ (getD_mem w x.toNat (by omega))
      rw [if_neg cz, e]
      refine ev_neg cz (Ev.bind (own_sur w b _ b2 (by omega) hv.2 (by omega)) (Ev.now _))
  · rw [decide_eq_false cx, if_pos cx]
    exact ev_neg (by decide) (Ev.now _)
theorem ref_surprise (w : List Int) (x : Int) : Ev (fun k => r22_Surprise.f k w x) (surpriseL w x) := by
  unfold r22_Surprise.f surpriseL
  refine Ev.bind (ref_bits w) ?_
  by_cases c : bitsL w = 0
  · rw [if_pos c]
    exact ev_pos c (Ev.now _)
  rw [if_neg c]
  refine ev_neg c ?_
  obtain ⟨b, e, b1, b2, b3, bl, bx, bs⟩ := bits_ok c
  have bad : Ev (fun k => r22_Surprise.j0 k w x (bitsL w) true) ((0 : Int), (1 : Int)) := Ev.step (fun k => by rw [r22_Surprise.j0]) (ev_pos rfl (Ev.now _))
  by_cases c0 : x < 0
  · rw [if_pos (by omega)]; exact ev_pos c0 bad
  refine ev_neg c0 ?_
  by_cases c1 : x ≥ (w.length : Int)
  · rw [if_pos (by omega), decide_eq_true c1]; exact bad
  rw [if_neg (by omega), decide_eq_false c1]
  refine Ev.step (fun k => by rw [r22_Surprise.j0]) (ev_neg (by decide) (ev_pos (by omega) (ev_pos (by omega) ?_)))
  show Ev (fun k => if w.getD x.toNat 0 = 0 then some (0, 223) else (r02_Log2.f k (w.getD x.toNat 0)).bind fun bt725 => some (wrap64 (wrap64 (65536 * bitsL w) - bt725.1), 0)) _
  by_cases cz : w.getD x.toNat 0 = 0
  · rw [if_pos cz]; exact ev_pos cz (Ev.now _)
  · have hv := bx _ (getD_mem w x.toNat (by omega))
    rw [if_neg cz, e]
    refine ev_neg cz (Ev.bind (ref_log _ (by omega) (by omega)) ?_)
    have h := sur_range b2 (show 1 ≤ w.getD x.toNat 0 by omega) hv.2
    have hl := log_nonneg (w.getD x.toNat 0)
    unfold surL at h ⊢
    show Ev (fun k => some (wrap64 (wrap64 (65536 * (b : Int)) - logL (w.getD x.toNat 0)), 0)) _
    rw [w64 (x := 65536 * (b : Int)) (by omega) (by omega), w64 (by omega) (by omega)]
    exact Ev.now _
/-- the sum of the surprises, each as often as its weight. -/
def heapS (b : Int) : List Int → Int
  | [] => 0
  | x :: r => (if x > 0 then x * surL b x else 0) + heapS b r
def entropyL (w : List Int) : Int × Int := if bitsL w = 0 then (0, 221) else (heapS (bitsL w) w / 2 ^ (bitsL w).toNat, 0)
section
variable (w : List Int) (b : Nat) (hb : b ≤ 32) (hl : w.length ≤ 512) (hx : ∀ x ∈ w, 0 ≤ x ∧ x ≤ ((2 ^ b : Nat) : Int)) (hp : ((2 ^ b : Nat) : Int) ≤ 4294967296)
include hb hl hx hp
theorem term_range (i : Nat) (hi : i < w.length) (h : w.getD i 0 > 0) : 0 ≤ w.getD i 0 * surL b (w.getD i 0) ∧ w.getD i 0 * surL b (w.getD i 0) ≤ 9007199254740992 := by
  have hv := hx _ (getD_mem w i hi)
  have hs := sur_range hb (show 1 ≤ w.getD i 0 by omega) hv.2
  refine ⟨Int.mul_nonneg hv.1 hs.1, ?_⟩
  have : w.getD i 0 * surL b (w.getD i 0) ≤ 4294967296 * 2097152 := Int.mul_le_mul (by omega) hs.2 hs.1 (by omega)
  omega
theorem heapS_nonneg : ∀ (d i : Nat), w.length - i = d → 0 ≤ heapS b (w.drop i)
  | d, i, hd => by
    by_cases c : i < w.length
    · obtain ⟨d, rfl⟩ : ∃ e, d = e + 1 := ⟨d - 1, by omega⟩
      rw [drop_get w i c, heapS]
      have h1 := heapS_nonneg d (i + 1) (by omega)
      split
      · rename_i h
        have := (term_range w b hb hl hx hp i c h).1
        omega
      · omega
    · rw [List.drop_eq_nil_of_le (by omega)]
      exact Int.le_refl _
theorem own_ent_l (total : Int) : ∀ (d i : Nat) (s : Int), w.length - i = d → i ≤ w.length → 0 ≤ s → s ≤ 9007199254740992 * (i : Int) → s + heapS b (w.drop i) = total →
    Ev (fun k => dist_Entropy.l0 k (b : Int) s w (w.length : Int) (i : Int)) (total / 2 ^ b, 0)
  | d, i, s, hd, hi, s0, s1, he => by
    refine Ev.step (fun k => by rw [dist_Entropy.l0]) ?_
    by_cases c : i < w.length
    · obtain ⟨d, rfl⟩ : ∃ e, d = e + 1 := ⟨d - 1, by omega⟩
      have hv := hx _ (getD_mem w i c)
      rw [drop_get w i c, heapS] at he
      rw [rd_nat, w1 i (by omega)]
      refine ev_pos (by omega) (ev_pos (by omega) (ev_pos (by omega) ?_))
      by_cases cx : w.getD i 0 > 0
      · have ht := term_range w b hb hl hx hp i c cx
        rw [if_pos cx] at he
        refine ev_pos cx (Ev.bind (own_sur w b _ hb (by omega) hv.2 (by omega)) ?_)
        rw [w64 (x := w.getD i 0 * surL b (w.getD i 0)) (by omega) (by omega), w64 (by omega) (by omega)]
        exact own_ent_l total d (i + 1) _ (by omega) (by omega) (by omega) (by omega) (by omega)
      · rw [if_neg cx] at he
        exact ev_neg cx (own_ent_l total d (i + 1) s (by omega) (by omega) s0 (by omega) (by omega))
    · obtain rfl : i = w.length := by omega
      rw [List.drop_eq_nil_of_le (Nat.le_refl _)] at he
      have he' : s + 0 = total := he
      refine ev_neg (by omega) (ev_pos (by omega) ?_)
      have : shr .i64 s (b : Int) = total / 2 ^ b := by
        unfold shr
        rw [Int.toNat_natCast, show min b IntKind.i64.bits = b by show min b 64 = b; omega, ← he', Int.add_zero]
      rw [this]
      exact Ev.now _
theorem ref_half (total : Int) : ∀ (d i : Nat) (s : Int), b - i = d → i ≤ b → 0 ≤ s → s ≤ 9223372036854775807 → s / 2 ^ d = total → Ev (fun k => r22_Entropy.l1 k (b : Int) s (i : Int)) (total, 0)
  | 0, i, s, hd, hi, s0, s1, he => by
    refine Ev.step (fun k => by rw [r22_Entropy.l1]) (ev_neg (by omega) ?_)
    rw [Int.pow_zero, Int.ediv_one] at he
    rw [he]
    exact Ev.now _
  | d + 1, i, s, hd, hi, s0, s1, he => by
    refine Ev.step (fun k => by rw [r22_Entropy.l1]) (ev_pos (by omega) ?_)
    have e : s / 2 ^ (d + 1) = s / 2 / 2 ^ d := by rw [Int.pow_succ, Int.mul_comm, Int.ediv_ediv_of_nonneg (by omega)]
    rw [e] at he
    rw [Int.tdiv_eq_ediv_of_nonneg s0, w64 (x := s / 2) (by omega) (by omega), w1 i (by omega)]
    exact ref_half total d (i + 1) (s / 2) (by omega) (by omega) (by omega) (by omega) he
theorem ref_ent_l (hbits : bitsL w = (b : Int)) (h0 : bitsL w ≠ 0) (total : Int) : ∀ (d i : Nat) (s : Int), w.length - i = d → i ≤ w.length → 0 ≤ s → s ≤ 9007199254740992 * (i : Int) → s + heapS b (w.drop i) = total →
    Ev (fun k => r22_Entropy.l0 k w (b : Int) s (w.length : Int) (i : Int)) (total / 2 ^ b, 0)
  | d, i, s, hd, hi, s0, s1, he => by
    refine Ev.step (fun k => by rw [r22_Entropy.l0]) ?_
    by_cases c : i < w.length
    · obtain ⟨d, rfl⟩ : ∃ e, d = e + 1 := ⟨d - 1, by omega⟩
      have hv := hx _ (getD_mem w i c)
      rw [drop_get w i c, heapS] at he
      have hsu := ref_surprise w (i : Int)
      unfold surpriseL at hsu
      rw [if_neg h0, if_neg (fun h => h ⟨by omega, by omega⟩), Int.toNat_natCast] at hsu
      rw [rd_nat, w1 i (by omega)]
      refine ev_pos (by omega) ?_
      by_cases cx : w.getD i 0 > 0
      · have ht := term_range w b hb hl hx hp i c cx
        rw [if_pos cx] at he
        rw [if_neg (by omega), hbits] at hsu
        refine Ev.bind hsu (ev_pos rfl (ev_pos (by omega) (ev_pos (by omega) ?_)))
        show Ev (fun k => r22_Entropy.l0 k w (b : Int) (wrap64 (s + wrap64 (w.getD i 0 * surL b (w.getD i 0)))) (w.length : Int) ((i + 1 : Nat) : Int)) _
        rw [w64 (x := w.getD i 0 * surL b (w.getD i 0)) (by omega) (by omega), w64 (by omega) (by omega)]
        exact ref_ent_l hbits h0 total d (i + 1) _ (by omega) (by omega) (by omega) (by omega) (by omega)
      · rw [if_neg cx] at he
        rw [if_pos (by omega)] at hsu
        exact Ev.bind hsu (ev_neg (by decide) (ref_ent_l hbits h0 total d (i + 1) s (by omega) (by omega) s0 (by omega) (by omega)))
    · obtain rfl : i = w.length := by omega
      rw [List.drop_eq_nil_of_le (Nat.le_refl _)] at he
      have he' : s + 0 = total := he
      refine ev_neg (by omega) ?_
      exact ref_half w b hb hl hx hp _ b 0 s (by omega) (Nat.zero_le _) s0 (by omega) (by rw [← he', Int.add_zero])
end
theorem pow_le32 {b : Nat} (hb : b ≤ 32) : ((2 ^ b : Nat) : Int) ≤ 4294967296 := by
  have : 2 ^ b ≤ 2 ^ 32 := Nat.pow_le_pow_right (by omega) hb
  have e : 2 ^ 32 = 4294967296 := by decide
  omega
theorem own_entropy (w : List Int) : Ev (fun k => dist_Entropy.f k w) (entropyL w) := by
  unfold dist_Entropy.f entropyL
  refine Ev.bind (own_bits w) ?_
  by_cases c : bitsL w = 0
  · rw [if_pos c]
    exact ev_neg (by simp [c]) (Ev.now _)
  rw [if_neg c]
  refine ev_pos (by simp [c]) ?_
  obtain ⟨b, e, b1, b2, b3, bl, bx, bs⟩ := bits_ok c
  show Ev (fun k => dist_Entropy.l0 k (bitsL w) 0 w (w.length : Int) 0) _
  rw [e, Int.toNat_natCast]
  exact own_ent_l w b b2 bl.2 bx (pow_le32 b2) _ _ 0 0 rfl (Nat.zero_le _) (Int.le_refl _) (by omega) (by rw [Int.zero_add]; rfl)
theorem ref_entropy (w : List Int) : Ev (fun k => r22_Entropy.f k w) (entropyL w) := by
  unfold r22_Entropy.f entropyL
  refine Ev.bind (ref_bits w) ?_
  by_cases c : bitsL w = 0
  · rw [if_pos c]
    exact ev_pos c (Ev.now _)
  rw [if_neg c]
  refine ev_neg c ?_
  obtain ⟨b, e, b1, b2, b3, bl, bx, bs⟩ := bits_ok c
  have h := ref_ent_l w b b2 bl.2 bx (pow_le32 b2) e c _ _ 0 0 rfl (Nat.zero_le _) (Int.le_refl _) (by omega) (by first | (rw [Int.zero_add]; done) | (rw [Int.zero_add]; rfl))
  rw [e, Int.toNat_natCast]
  exact h
end Go.Proofs.Ythmckhfjaleomaa.Pure
