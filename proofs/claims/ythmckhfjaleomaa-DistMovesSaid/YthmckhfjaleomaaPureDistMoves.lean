/- DistMoves: with one number added to all scores the weights are the same; so they are with a Bias that says the same as the scores. -/
import Derived.Test.YthmckhfjaleomaaStmtDistMoves
import Derived.Test.YthmckhfjaleomaaDw5
namespace Go.Proofs.Ythmckhfjaleomaa.Pure
set_option linter.unusedVariables false
open Go.RowKit Go.Proofs.YthmckhfjaleomaaW.PrintWords Go.Proofs.YthmckhfjaleomaaW.PrintLast Go.Proofs.YthmckhfjaleomaaW.PrintMore Go.Proofs.Ythmckhfjaleomaa.T Go.Proofs.Ythmckhfjaleomaa.St
theorem good_add (t : Int) (l : List (Int × Int)) : ∀ (d i : Nat), goodBias t l d i = true → ∀ j, i ≤ j → j < i + d → -1048576 ≤ (l.getD j (0, 0)).2 ∧ (l.getD j (0, 0)).2 ≤ 1048576
  | 0, i, h, j, h1, h2 => by omega
  | d + 1, i, h, j, h1, h2 => by
    rw [goodBias] at h
    split at h
    · cases h
    · rename_i hb
      by_cases e : j = i
      · subst e
        unfold badB at hb
        by_cases c1 : (l.getD j (0, 0)).2 < -1048576
        · exfalso; apply hb; rw [decide_eq_true c1]; simp
        by_cases c2 : (l.getD j (0, 0)).2 > 1048576
        · exfalso; apply hb; rw [decide_eq_true c2]; simp
        omega
      · exact good_add t l d (i + 1) h j (by omega) (by omega)
theorem check_add {a0 a1 a2 a3 t T : Int} {l : List (Int × Int)} (h : checkL a0 a1 a2 a3 t T l = 0) : ∀ x ∈ l, -1048576 ≤ x.2 ∧ x.2 ≤ 1048576 := by
  unfold checkL at h
  split at h
  · cases h
  · split at h
    · rename_i hg
      intro x hx
      obtain ⟨j, hj, rfl⟩ := List.getElem_of_mem hx
      have := good_add t l _ 0 hg j (Nat.zero_le _) (by omega)
      rw [List.getD_eq_getElem?_getD, List.getElem?_eq_getElem hj] at this
      exact this
    · cases h
theorem addB_shift (c : Int) (hc : -4294967296 ≤ c ∧ c ≤ 4294967296) : ∀ (bs : List (Int × Int)) (l s : List Int) (M : Int), (∀ x ∈ l, -M ≤ x ∧ x ≤ M) → (∀ b ∈ bs, -1048576 ≤ b.2 ∧ b.2 ≤ 1048576) → 0 ≤ M → M + 1048576 * (bs.length : Int) ≤ 1099511627776 → addB l bs = some s → addB (l.map (· + c)) bs = some (s.map (· + c))
  | [], l, s, M, hl, hb, h0, hM, h => by
    rw [addB] at h ⊢
    injection h with h
    rw [h]
  | b :: bs, l, s, M, hl, hb, h0, hM, h => by
    rw [addB] at h ⊢
    rw [List.length_map]
    rw [List.length_cons] at hM
    split at h
    · rename_i hin
      have hq : b.1.toNat < l.length := by omega
      have hg := hl _ (getD_mem l b.1.toNat hq)
      have hb1 := hb b List.mem_cons_self
      rw [if_pos hin, getD_map l (· + c) _ hq]
      have e1 : wrap64 (l.getD b.1.toNat 0 + b.2) = l.getD b.1.toNat 0 + b.2 := w64 (by omega) (by omega)
      have e2 : wrap64 (l.getD b.1.toNat 0 + c + b.2) = l.getD b.1.toNat 0 + b.2 + c := by rw [w64 (by omega) (by omega)]; omega
      rw [e1] at h
      show addB ((l.map (· + c)).set b.1.toNat (wrap64 (l.getD b.1.toNat 0 + c + b.2))) bs = _
      rw [e2]
      have e3 : (l.map (· + c)).set b.1.toNat (l.getD b.1.toNat 0 + b.2 + c) = (l.set b.1.toNat (l.getD b.1.toNat 0 + b.2)).map (· + c) := by rw [List.map_set]
      rw [e3]
      refine addB_shift c hc bs _ s (M + 1048576) (fun x hx => ?_) (fun y hy => hb y (List.mem_cons_of_mem _ hy)) (by omega) (by omega) h
      rcases List.mem_or_eq_of_mem_set hx with h' | h'
      · have := hl x h'; omega
      · omega
    · cases h
theorem maxM_shift (may : Nat → Bool) (c : Int) : ∀ (l : List Int) (i : Nat) (m : Int), maxM may (l.map (· + c)) i false (m + c) = maxM may l i false m + c
  | [], i, m => rfl
  | x :: r, i, m => by
    rw [List.map_cons, maxM, maxM]
    by_cases h : may i = true ∧ x > m
    · rw [if_pos ⟨h.1, Or.inr (by have := h.2; omega)⟩, if_pos ⟨h.1, Or.inr h.2⟩]
      exact maxM_shift may c r (i + 1) x
    · rw [if_neg (by rintro ⟨h1, h2 | h2⟩; cases h2; exact h ⟨h1, by omega⟩), if_neg (by rintro ⟨h1, h2 | h2⟩; cases h2; exact h ⟨h1, h2⟩)]
      exact maxM_shift may c r (i + 1) m
theorem maxM_shift' (may : Nat → Bool) (c : Int) : ∀ (l : List Int) (i : Nat) (m m' : Int), (∃ j, j < l.length ∧ may (i + j) = true) → maxM may (l.map (· + c)) i true m' = maxM may l i true m + c
  | [], i, m, m', h => by obtain ⟨j, h, _⟩ := h; simp at h
  | x :: r, i, m, m', h => by
    rw [List.map_cons, maxM, maxM]
    by_cases hm : may i = true
    · rw [if_pos ⟨hm, Or.inl rfl⟩, if_pos ⟨hm, Or.inl rfl⟩]
      exact maxM_shift may c r (i + 1) x
    · rw [if_neg (fun h => hm h.1), if_neg (fun h => hm h.1)]
      obtain ⟨j, h1, h2⟩ := h
      refine maxM_shift' may c r (i + 1) m m' ?_
      cases j with
      | zero => exact (hm h2).elim
      | succ j => exact ⟨j, by simpa using h1, by rw [show i + 1 + j = i + (j + 1) by omega]; exact h2⟩
theorem outH_shift (may : Nat → Bool) (num den m c : Int) : ∀ (l : List Int) (i : Nat), outH may num den (m + c) (l.map (· + c)) i = outH may num den m l i
  | [], i => rfl
  | x :: r, i => by
    rw [List.map_cons, outH, outH, outH_shift may num den m c r (i + 1)]
    unfold outV
    rw [show x + c - (m + c) = x - m by omega]
theorem heats_shift (mask : List Bool) (a0 a1 c : Int) (s : List Int) (h : ∃ j, j < s.length ∧ mayL mask j = true) : heats mask a0 a1 (s.map (· + c)) = heats mask a0 a1 s := by
  unfold heats
  rw [maxM_shift' (mayL mask) c s 0 0 0 (by obtain ⟨j, h1, h2⟩ := h; exact ⟨j, h1, by rw [Nat.zero_add]; exact h2⟩)]
  exact outH_shift _ _ _ _ _ _ _
theorem weights_val {l : List Int} {mask : List Bool} {a0 a1 a2 a3 a4 : Int} {b : List (Int × Int)} (he : (weightsL l mask a0 a1 a2 a3 a4 b).2 = 0) : weightsL l mask a0 a1 a2 a3 a4 b = finL (heats mask a0 a1 (summed l b)) a2 a3 (totL a4) := by
  unfold weightsL at he ⊢
  by_cases c1 : ¬ (1 ≤ l.length ∧ l.length ≤ 512) ∨ l.any wrongS = true
  · rw [if_pos c1] at he; cases he
  rw [if_neg c1] at he ⊢
  by_cases c2 : checkL a0 a1 a2 a3 l.length (totL a4) b ≠ 0
  · rw [if_pos c2] at he; cases he
  rw [if_neg c2] at he ⊢
  by_cases c3 : mask.length ≠ 0 ∧ mask.length ≠ l.length
  · rw [if_pos c3] at he; cases he
  rw [if_neg c3] at he ⊢
  by_cases c4 : mask.length ≠ 0 ∧ mask.any id = false
  · rw [if_pos c4] at he; cases he
  rw [if_neg c4]
theorem bounds_of {l : List Int} (h : l.any wrongS = false) : ∀ x ∈ l, -1073741824 ≤ x ∧ x ≤ 1073741824 := by
  intro x hx
  have := List.any_eq_false.1 h x hx
  unfold wrongS at this
  by_cases c1 : x < -1073741824
  · exact (this (by rw [decide_eq_true c1]; rfl)).elim
  by_cases c2 : x > 1073741824
  · exact (this (by rw [decide_eq_true c2]; simp)).elim
  omega
/-- a token's score with what is added to it. -/
def scoreL (x : Int) (bs : List (Int × Int)) (t : Int) : Int := bs.foldl (fun s b => if b.1 = t then wrap64 (s + b.2) else s) x
theorem addB_get : ∀ (bs : List (Int × Int)) (l s : List Int), addB l bs = some s → ∀ i, i < l.length → s.getD i 0 = scoreL (l.getD i 0) bs (i : Int)
  | [], l, s, h, i, hi => by
    rw [addB] at h
    injection h with h
    rw [← h]
    rfl
  | b :: bs, l, s, h, i, hi => by
    rw [addB] at h
    split at h
    · rename_i hin
      have hq : b.1.toNat < l.length := by omega
      rw [addB_get bs _ s h i (by rw [List.length_set]; exact hi), getD_set _ _ _ _ hq]
      show _ = scoreL (if b.1 = (i : Int) then wrap64 (l.getD i 0 + b.2) else l.getD i 0) bs (i : Int)
      by_cases c : b.1.toNat = i
      · subst c
        rw [if_pos rfl, if_pos (by omega)]
      · rw [if_neg c, if_neg (by omega)]
    · cases h
theorem score_l (t : Int) (b : List S46) (hb : b.length < 4611686018427387904) : ∀ (d i : Nat) (x : Int), b.length - i = d → i ≤ b.length → Ev (fun k => w22_score.l0 k t x b (b.length : Int) (i : Int)) (scoreL x ((b.drop i).map pr) t)
  | d, i, x, hd, hi => by
    refine Ev.step (fun k => by rw [w22_score.l0]) ?_
    by_cases c : i < b.length
    · obtain ⟨d, rfl⟩ : ∃ e, d = e + 1 := ⟨d - 1, by omega⟩
      rw [rd46 b i c, w1 i (by omega), List.drop_eq_getElem_cons c, List.map_cons]
      refine ev_pos (by omega) (ev_pos (by omega) (ev_pos (by omega) ?_))
      show Ev _ (scoreL (if (pr b[i]).1 = t then wrap64 (x + (pr b[i]).2) else x) ((b.drop (i + 1)).map pr) t)
      by_cases e : b[i].f0 = t
      · rw [if_pos (show (pr b[i]).1 = t from e)]
        exact ev_pos e (score_l t b hb d (i + 1) _ (by omega) (by omega))
      · rw [if_neg (show ¬ (pr b[i]).1 = t from e)]
        exact ev_neg e (score_l t b hb d (i + 1) _ (by omega) (by omega))
    · obtain rfl : i = b.length := by omega
      rw [List.drop_eq_nil_of_le (Nat.le_refl _)]
      exact ev_neg (by omega) (Ev.now _)
theorem score_ev (l : List Int) (mask : List Bool) (a0 a1 a2 a3 a4 : Int) (b : List S46) (hb : b.length < 4611686018427387904) (i : Nat) (hi : i < l.length) : Ev (fun k => w22_score.f k l mask a0 a1 a2 a3 a4 b (i : Int)) (scoreL (l.getD i 0) (b.map pr) (i : Int)) := by
  unfold w22_score.f
  rw [rd_nat]
  exact ev_pos (by omega) (ev_pos (by omega) (score_l (i : Int) b hb _ 0 _ rfl (Nat.zero_le _)))
section
variable (l : List Int) (mask : List Bool) (a0 a1 a2 a3 a4 : Int) (b : List S46) (hl : l.length < 17592186044416) (hm : mask.length ≤ 140737488355328) (hb : b.length < 8796093022208)
include hl hm hb
theorem moves_l1 (s : List Int) (hs : s.length = l.length) (hg : ∀ i, i < l.length → s.getD i 0 = scoreL (l.getD i 0) (b.map pr) (i : Int)) (v : List Int × Int) (hv : v = finL (heats mask a0 a1 s) a2 a3 (totL a4)) (hvl : v.1.length ≤ 512) : ∀ (d i : Nat), l.length - i = d → i ≤ l.length →
    Ev (fun k => w22_DistMoves.l1 k v.1 (l.length : Int) (i : Int) l mask a0 a1 a2 a3 a4 b (s.take i) mask) true
  | d, i, hd, hi => by
    refine Ev.step (fun k => by rw [w22_DistMoves.l1]) ?_
    by_cases c : i < l.length
    · obtain ⟨d, rfl⟩ : ∃ e, d = e + 1 := ⟨d - 1, by omega⟩
      refine ev_pos (by omega) (Ev.bind (score_ev l mask a0 a1 a2 a3 a4 b (by omega) i c) (ev_pos (by rw [List.length_take]; omega) ?_))
      have e : s.take i ++ [scoreL (l.getD i 0) (b.map pr) (i : Int)] = s.take (i + 1) := by
        have hq : i < s.length := by omega
        rw [List.take_succ_eq_append_getElem hq, ← hg i c, List.getD_eq_getElem?_getD, List.getElem?_eq_getElem hq]
        rfl
      rw [w1 i (by omega)]
      have h := moves_l1 s hs hg v hv hvl d (i + 1) (by omega) (by omega)
      rw [← e] at h
      exact h
    · obtain rfl : i = l.length := by omega
      rw [List.take_of_length_le (by omega)]
      refine ev_neg (by omega) (Ev.bind (right_ev s mask a0 a1 a2 a3 a4 [] (by omega) (by simp)) ?_)
      by_cases c2 : (weightsL s mask a0 a1 a2 a3 a4 (([] : List S46).map pr)).2 = 0
      · refine ev_pos (by rw [c2]; rfl) (Ev.bind (own_weights s mask a0 a1 a2 a3 a4 [] (by omega) hm (by simp)) (ev_pos c2 ?_))
        have h := weights_val c2
        have hs0 : summed s (([] : List S46).map pr) = s := rfl
        rw [hs0] at h
        rw [h, hv]
        refine Ev.bind (same_ev _ ?_) (Ev.now _)
        rw [← hv]; omega
      · exact ev_neg (by rw [beq_eq_false_iff_ne.2 c2]; decide) (Ev.now _)
theorem moves_end (by' : Int) (hby : 0 < l.length → -2147483648 ≤ by' ∧ by' ≤ 2147483648) (mv : List Int) (hmv : mv = l.map fun x => wrap64 (x + by')) :
    Ev (fun k => (w22_right.f k l mask a0 a1 a2 a3 a4 b).bind fun t448 => if t448 = true then (w22_right.f k mv mask a0 a1 a2 a3 a4 b).bind fun t449 => w22_DistMoves.j1 k (!t449) l mask a0 a1 a2 a3 a4 b mv mask else w22_DistMoves.j1 k true l mask a0 a1 a2 a3 a4 b mv mask) true := by
  have stop : Ev (fun k => w22_DistMoves.j1 k true l mask a0 a1 a2 a3 a4 b mv mask) true := Ev.step (fun k => by rw [w22_DistMoves.j1]) (ev_pos rfl (Ev.now _))
  have hml : mv.length = l.length := by rw [hmv, List.length_map]
  refine Ev.bind (right_ev l mask a0 a1 a2 a3 a4 b hl hb) ?_
  by_cases c : (weightsL l mask a0 a1 a2 a3 a4 (b.map pr)).2 = 0
  rotate_left
  · exact ev_neg (by rw [beq_eq_false_iff_ne.2 c]; decide) stop
  refine ev_pos (by rw [c]; rfl) (Ev.bind (right_ev mv mask a0 a1 a2 a3 a4 b (by omega) hb) ?_)
  by_cases c2 : (weightsL mv mask a0 a1 a2 a3 a4 (b.map pr)).2 = 0
  rotate_left
  · rw [beq_eq_false_iff_ne.2 c2]
    exact stop
  rw [c2]
  refine Ev.step (fun k => by rw [w22_DistMoves.j1]) (ev_neg (by decide) (Ev.bind (own_weights l mask a0 a1 a2 a3 a4 b (by omega) hm (by omega)) (Ev.bind (own_weights mv mask a0 a1 a2 a3 a4 b (by omega) hm (by omega)) (ev_pos c (ev_pos c2 ?_)))))
  obtain ⟨f1, f2, f3, f4, f5, f6, f7, f8, f9, f10, f11, f12⟩ := weights_facts c
  obtain ⟨s, hs⟩ := addB_some (b.map pr) l (check_ok f11).2.2.2
  have hbl := (check_ok f11).2.2.1
  have hsl := addB_length _ _ _ hs
  have hbd := bounds_of f10
  have hby' := hby (by omega)
  have hmv2 : mv = l.map (· + by') := by
    rw [hmv]
    apply List.map_congr_left
    intro x hx
    have := hbd x hx
    exact w64 (by omega) (by omega)
  have hs2 : addB mv (b.map pr) = some (s.map (· + by')) := by
    rw [hmv2]
    exact addB_shift by' (by omega) (b.map pr) l s 1073741824 (fun x hx => by have := hbd x hx; omega) (check_add f11) (by omega) (by omega) hs
  have hsum : summed l (b.map pr) = s := by unfold summed; rw [hs]; rfl
  have hsum2 : summed mv (b.map pr) = s.map (· + by') := by unfold summed; rw [hs2]; rfl
  have hv1 := weights_val c
  have hv2 := weights_val c2
  have hmay : ∃ j, j < s.length ∧ mayL mask j = true := by
    have := (any_may mask l.length f2 f9).2 f12
    obtain ⟨j, h1, h2⟩ := this
    exact ⟨j, by omega, h2⟩
  rw [hsum] at hv1
  rw [hsum2, heats_shift mask a0 a1 by' s hmay, ← hv1] at hv2
  have hlen := weightsL_len l mask a0 a1 a2 a3 a4 (b.map pr)
  rw [hv2]
  refine Ev.bind (same_ev _ (by omega)) (Ev.step (fun k => by rw [w22_DistMoves.j2]) (ev_neg (by decide) ?_))
  exact moves_l1 l mask a0 a1 a2 a3 a4 b hl hm hb s hsl (addB_get _ _ _ hs) _ hv1 hlen _ 0 rfl (Nat.zero_le _)
theorem moves_l0 (by' : Int) : ∀ (d i : Nat), l.length - i = d → i ≤ l.length → (0 < i → -2147483648 ≤ by' ∧ by' ≤ 2147483648) →
    Ev (fun k => w22_DistMoves.l0 k by' l (l.length : Int) (i : Int) l mask a0 a1 a2 a3 a4 b ((l.take i).map fun x => wrap64 (x + by')) mask) true
  | d, i, hd, hi, hby => by
    refine Ev.step (fun k => by rw [w22_DistMoves.l0]) ?_
    by_cases c : i < l.length
    · obtain ⟨d, rfl⟩ : ∃ e, d = e + 1 := ⟨d - 1, by omega⟩
      refine ev_pos (by omega) (ev_pos (by omega) (ev_pos (by omega) ?_))
      by_cases c1 : by' > 2147483648
      · exact ev_pos c1 (Ev.now _)
      by_cases c2 : by' < -2147483648
      · exact ev_neg c1 (ev_pos c2 (Ev.now _))
      refine ev_neg c1 (ev_neg c2 (ev_pos (by rw [List.length_map, List.length_take]; omega) ?_))
      have h := moves_l0 by' d (i + 1) (by omega) (by omega) (fun _ => by omega)
      rw [List.take_succ_eq_append_getElem c, List.map_append, List.map_cons, List.map_nil] at h
      rw [rd_nat, w1 i (by omega), List.getD_eq_getElem?_getD, List.getElem?_eq_getElem c]
      exact h
    · obtain rfl : i = l.length := by omega
      rw [List.take_length]
      exact ev_neg (by omega) (moves_end l mask a0 a1 a2 a3 a4 b hl hm hb by' hby _ rfl)
end
theorem DistMoves : w22_DistMoves.Plain := by
  intro x p t hx hp _
  have hb := hp.2.2.2.2.2.1
  have hl := hx.1.1
  have hm := hx.2.1
  refine ev_rounds ?_
  unfold w22_DistMoves.f
  exact Ev.bind awake (ev_pos rfl (moves_l0 x.f0 x.f1 p.f0 p.f1 p.f2 p.f3 p.f4 p.f5 (by omega) (by omega) (by omega) t _ 0 rfl (Nat.zero_le _) (fun h => by omega)))
end Go.Proofs.Ythmckhfjaleomaa.Pure
