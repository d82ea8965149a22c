/- dist: what the weights are like. -/
import Derived.Test.YthmckhfjaleomaaRk4
import Derived.Test.YthmckhfjaleomaaMWts
import Derived.Test.YthmckhfjaleomaaT16
namespace Go.Proofs.Ythmckhfjaleomaa.Pure
set_option linter.unusedSimpArgs false
set_option linter.unusedVariables false
open Go.RowKit Go.Proofs.YthmckhfjaleomaaW.PrintWords Go.Proofs.YthmckhfjaleomaaW.PrintLast Go.Proofs.YthmckhfjaleomaaW.PrintMore Go.Proofs.Ythmckhfjaleomaa.T Go.Proofs.Ythmckhfjaleomaa.St

theorem share_facts {l : List Int} {t : Int} (he : (shareL l t).2 = 0) : (shareL l t).1.length = l.length ∧ (∀ i, i < l.length → 0 ≤ (shareL l t).1.getD i 0 ∧ (l.getD i 0 = 0 → (shareL l t).1.getD i 0 = 0)) ∧ (shareL l t).1.sum = t ∧ 1 ≤ t ∧ t ≤ 4294967296 := by
  obtain ⟨all, _, h, hw⟩ := share_ok he
  rw [hw]
  have hlt : ∀ n ∈ tops l t all, n < (quos l t all).length := fun n hn => by rw [quos_len h]; exact tops_lt h n hn
  refine ⟨by rw [length_bump, quos_len h], fun i hi => ?_, ?_, h.t1, h.t2⟩
  · rw [bump_get _ _ _ (tops_nodup h) hlt, quos_get h i hi]
    obtain ⟨q1, q2, q3, q4, q5, q6⟩ := h.quo _ (getD_mem l i hi)
    refine ⟨by split <;> omega, fun hz => ?_⟩
    have hr := rests_get h i hi
    rw [hz, Int.zero_mul, Int.zero_tmod] at hr
    rw [hz, Int.zero_mul, Int.zero_tdiv, if_neg (fun hm => tops_pos h hm hr)]
    rfl
  · rw [bump_sum _ _ hlt, tops_len h]
    show (quos l t all).sum + (t - (quos l t all).sum) = t
    omega
/-- how many are not 0. -/
def nz : List Int → Nat
  | [] => 0
  | x :: r => (if x = 0 then 0 else 1) + nz r
theorem nz_le_len : ∀ l : List Int, nz l ≤ l.length
  | [] => Nat.le_refl _
  | x :: r => by
    have := nz_le_len r
    rw [nz, List.length_cons]
    split <;> omega
theorem nz_zeros : ∀ n : Nat, nz (List.replicate n 0) = 0
  | 0 => rfl
  | n + 1 => by rw [List.replicate_succ, nz, if_pos rfl, nz_zeros n]
theorem nz_set : ∀ (l : List Int) (i : Nat) (v : Int), nz (l.set i v) ≤ nz l + 1
  | [], i, v => Nat.zero_le _
  | x :: r, 0, v => by
    show nz (v :: r) ≤ nz (x :: r) + 1
    rw [nz, nz]
    split <;> split <;> omega
  | x :: r, i + 1, v => by
    show nz (x :: r.set i v) ≤ nz (x :: r) + 1
    have := nz_set r i v
    rw [nz, nz]
    omega
theorem nz_keep (e : List Int) : ∀ (ps o : List Int), nz (keepFrom e o ps) ≤ nz o + ps.length
  | [], o => Nat.le_refl _
  | p :: r, o => by
    show nz (keepFrom e (o.set p.toNat (e.getD p.toNat 0)) r) ≤ _
    have h1 := nz_keep e r (o.set p.toNat (e.getD p.toNat 0))
    have h2 := nz_set o p.toNat (e.getD p.toNat 0)
    rw [List.length_cons]
    omega
theorem nz_kept (e ps : List Int) : nz (keptL e ps) ≤ ps.length := by
  have := nz_keep e ps (List.replicate e.length 0)
  rw [nz_zeros] at this
  unfold keptL
  omega
theorem nz_mono : ∀ (a b : List Int), a.length = b.length → (∀ i, i < a.length → b.getD i 0 = 0 → a.getD i 0 = 0) → nz a ≤ nz b
  | [], b, hl, h => Nat.zero_le _
  | x :: r, [], hl, h => by cases hl
  | x :: r, y :: q, hl, h => by
    have h0 := h 0 (by simp)
    have h1 := nz_mono r q (by simpa using hl) (fun i hi hb => h (i + 1) (by simpa using hi) hb)
    have h0' : y = 0 → x = 0 := h0
    rw [nz, nz]
    by_cases c : y = 0
    · rw [if_pos c, if_pos (h0' c)]; omega
    · rw [if_neg c]; split <;> omega
theorem keep_get (e : List Int) : ∀ (ps o : List Int) (i : Nat), o.length = e.length → (∀ p ∈ ps, 0 ≤ p ∧ p < (e.length : Int)) → (keepFrom e o ps).getD i 0 = o.getD i 0 ∨ (keepFrom e o ps).getD i 0 = e.getD i 0
  | [], o, i, ho, hp => .inl rfl
  | p :: r, o, i, ho, hp => by
    show (keepFrom e (o.set p.toNat (e.getD p.toNat 0)) r).getD i 0 = _ ∨ (keepFrom e (o.set p.toNat (e.getD p.toNat 0)) r).getD i 0 = _
    have hpp := hp p List.mem_cons_self
    rcases keep_get e r (o.set p.toNat (e.getD p.toNat 0)) i (by rw [List.length_set]; exact ho) (fun q hq => hp q (List.mem_cons_of_mem _ hq)) with h | h
    · rw [h, getD_set _ _ _ _ (by omega)]
      by_cases c : p.toNat = i
      · rw [if_pos c, c]; exact .inr rfl
      · rw [if_neg c]; exact .inl rfl
    · exact .inr h
theorem kept_zero (e ps : List Int) (hp : ∀ p ∈ ps, 0 ≤ p ∧ p < (e.length : Int)) (i : Nat) (h : e.getD i 0 = 0) : (keptL e ps).getD i 0 = 0 := by
  unfold keptL
  rcases keep_get e ps (List.replicate e.length 0) i List.length_replicate hp with c | c
  · rw [c]
    simp [List.getD_eq_getElem?_getD, List.getElem?_replicate]
    split <;> rfl
  · rw [c, h]
theorem outH_get (may : Nat → Bool) (num den m : Int) : ∀ (l : List Int) (i j : Nat), j < l.length → (outH may num den m l i).getD j 0 = if may (i + j) = true then outV num den m (l.getD j 0) else 0
  | [], i, j, h => by simp at h
  | x :: r, i, 0, h => rfl
  | x :: r, i, j + 1, h => by
    show (outH may num den m r (i + 1)).getD j 0 = if may (i + (j + 1)) = true then outV num den m (r.getD j 0) else 0
    rw [outH_get may num den m r (i + 1) j (by simpa using h), show i + 1 + j = i + (j + 1) by omega]
/-- weights that came out. -/
theorem weights_facts {l : List Int} {mask : List Bool} {a0 a1 a2 a3 a4 : Int} {b : List (Int × Int)} (he : (weightsL l mask a0 a1 a2 a3 a4 b).2 = 0) :
    let w := (weightsL l mask a0 a1 a2 a3 a4 b).1
    w.length = l.length ∧ 1 ≤ l.length ∧ l.length ≤ 512 ∧ (∀ i, i < l.length → 0 ≤ w.getD i 0 ∧ (mayL mask i = false → w.getD i 0 = 0)) ∧ w.sum = totL a4 ∧ 1 ≤ totL a4 ∧ totL a4 ≤ 4294967296 ∧ (a2 ≠ 0 → (nz w : Int) ≤ a2) ∧ (mask.length = 0 ∨ mask.length = l.length) ∧ l.any wrongS = false ∧ checkL a0 a1 a2 a3 l.length (totL a4) b = 0 ∧ ¬ (mask.length ≠ 0 ∧ mask.any id = false) := by
  intro w
  have hw : w = (weightsL l mask a0 a1 a2 a3 a4 b).1 := rfl
  unfold weightsL at he hw
  by_cases c1 : ¬ (1 ≤ l.length ∧ l.length ≤ 512) ∨ l.any wrongS = true
  · rw [if_pos c1] at he; cases he
  rw [if_neg c1] at he hw
  by_cases c2 : checkL a0 a1 a2 a3 l.length (totL a4) b ≠ 0
  · rw [if_pos c2] at he; cases he
  rw [if_neg c2] at he hw
  by_cases c3 : mask.length ≠ 0 ∧ mask.length ≠ l.length
  · rw [if_pos c3] at he; cases he
  rw [if_neg c3] at he hw
  by_cases c4 : mask.length ≠ 0 ∧ mask.any id = false
  · rw [if_pos c4] at he; cases he
  rw [if_neg c4] at he hw
  have hc : checkL a0 a1 a2 a3 l.length (totL a4) b = 0 := Decidable.byContradiction c2
  obtain ⟨⟨_, _, r1, r2, r3⟩, hT, hbl, hbi⟩ := check_ok hc
  obtain ⟨s, hs⟩ := addB_some b l hbi
  have hsl := addB_length _ _ _ hs
  have c1' : 1 ≤ l.length ∧ l.length ≤ 512 := Decidable.byContradiction fun h => c1 (Or.inl h)
  have hany : l.any wrongS = false := by
    cases e : l.any wrongS with
    | true => exact (c1 (Or.inr e)).elim
    | false => rfl
  unfold summed at he hw
  rw [hs] at he hw
  have he' : (finL (heats mask a0 a1 s) a2 a3 (totL a4)).2 = 0 := he
  have hw' : w = (finL (heats mask a0 a1 s) a2 a3 (totL a4)).1 := hw
  have hel : (heats mask a0 a1 s).length = l.length := by rw [heats_len]; exact hsl
  have hez : ∀ i, i < l.length → mayL mask i = false → (heats mask a0 a1 s).getD i 0 = 0 := by
    intro i hi hm
    unfold heats
    rw [outH_get _ _ _ _ _ _ _ (by omega), Nat.zero_add, hm]
    rfl
  generalize heats mask a0 a1 s = e at he' hw' hel hez
  unfold finL endL at he' hw'
  have hcl := cutL_len e a2
  have hcz : ∀ i, e.getD i 0 = 0 → (cutL e a2).getD i 0 = 0 := by
    intro i h
    unfold cutL
    split
    · exact kept_zero e _ (topL_in e a2) i h
    · exact h
  have hcn : a2 ≠ 0 → (nz (cutL e a2) : Int) ≤ a2 := by
    intro h
    have hp : a2 > 0 := by omega
    unfold cutL
    rw [if_pos hp]
    by_cases c : a2 < (e.length : Int)
    · have := nz_kept e (topL e a2)
      have ht : (topL e a2).length ≤ a2.toNat := by
        unfold topL
        rw [if_pos ⟨hp, c⟩, List.length_take]
        omega
      omega
    · have := nz_le_len (keptL e (topL e a2))
      rw [keptL_len] at this
      omega
  generalize cutL e a2 = e1 at he' hw' hcl hcz hcn
  obtain ⟨f1, f2, f3, f4, f5⟩ := share_facts he'
  rw [← hw'] at f1 f2 f3
  rw [keptL_len] at f1 f2
  refine ⟨by omega, c1'.1, c1'.2, fun i hi => ?_, f3, f4, f5, fun h => ?_, by omega, hany, hc, c4⟩
  · obtain ⟨g1, g2⟩ := f2 i (by omega)
    exact ⟨g1, fun hm => g2 (kept_zero e1 _ (nucL_in e1 a3) i (hcz i (hez i hi hm)))⟩
  · have h1 := hcn h
    have h2 := nz_mono w (keptL e1 (nucL e1 a3).1) (by rw [f1, keptL_len]) (fun i hi hb => (f2 i (by omega)).2 hb)
    have h3 := nz_mono (keptL e1 (nucL e1 a3).1) e1 (keptL_len _ _) (fun i hi hb => kept_zero e1 _ (nucL_in e1 a3) i hb)
    omega
theorem weights_err {l : List Int} {mask : List Bool} {a0 a1 a2 a3 a4 : Int} {b : List (Int × Int)} (he : (weightsL l mask a0 a1 a2 a3 a4 b).2 ≠ 0) : (weightsL l mask a0 a1 a2 a3 a4 b).1 = [] := by
  unfold weightsL at he ⊢
  split
  · rfl
  rename_i c1
  rw [if_neg c1] at he
  split
  · rfl
  rename_i c2
  rw [if_neg c2] at he
  split
  · rfl
  rename_i c3
  rw [if_neg c3] at he
  split
  · rfl
  rename_i c4
  rw [if_neg c4] at he
  exact share_err he
theorem right_ev (l : List Int) (mask : List Bool) (a0 a1 a2 a3 a4 : Int) (b : List S46) (hl : l.length < 17592186044416) (hb : b.length < 8796093022208) : Ev (fun k => w22_right.f k l mask a0 a1 a2 a3 a4 b) ((weightsL l mask a0 a1 a2 a3 a4 (b.map pr)).2 == 0) := by
  unfold w22_right.f
  exact Ev.bind (plain_ev b hb a0 a1 a2 a3 a4) (Ev.bind (ref_weights l mask a0 a1 a2 a3 a4 b hl) (Ev.now _))
end Go.Proofs.Ythmckhfjaleomaa.Pure
