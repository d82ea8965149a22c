/- Several texts in one (Dw1, Dw2, Dw3, Dw4). -/
import Derived.Test.YthmckhfjaleomaaMRank
import Derived.Test.YthmckhfjaleomaaT7
import Derived.Test.YthmckhfjaleomaaT8
import Derived.Test.YthmckhfjaleomaaT10
import Derived.Test.YthmckhfjaleomaaT13
import Derived.Test.YthmckhfjaleomaaT6
import Derived.Test.YthmckhfjaleomaaT14
/- dist and its reference: parameters, totals, checks. -/
namespace Go.Proofs.Ythmckhfjaleomaa.Pure
set_option linter.unusedSimpArgs false
set_option linter.unusedVariables false
set_option linter.unusedSectionVars false
open Go.RowKit Go.Proofs.YthmckhfjaleomaaW.PrintWords Go.Proofs.YthmckhfjaleomaaW.PrintLast Go.Proofs.YthmckhfjaleomaaW.PrintMore Go.Proofs.Ythmckhfjaleomaa.T Go.Proofs.Ythmckhfjaleomaa.St

theorem ev_pos {α : Type} {c : Prop} [Decidable c] {A B : Nat → Option α} {r : α} (h : c) (e : Ev A r) : Ev (fun k => if c then A k else B k) r := by
 refine Ev.congr (fun k => ?_) e
 rw [if_pos h]
theorem ev_neg {α : Type} {c : Prop} [Decidable c] {A B : Nat → Option α} {r : α} (h : ¬ c) (e : Ev B r) : Ev (fun k => if c then A k else B k) r := by
 refine Ev.congr (fun k => ?_) e
 rw [if_neg h]
theorem ev_some {α β : Type} {a : α} {f : Nat → α → Option β} {r : β} (e : Ev (fun k => f k a) r) : Ev (fun k => (some a).bind fun y => f k y) r := e
theorem ev_is {α β : Type} {o : Option α} {a : α} {f : Nat → α → Option β} {r : β} (h : o = some a) (e : Ev (fun k => f k a) r) : Ev (fun k => o.bind fun y => f k y) r := by
 subst h; exact e
theorem ev_rounds {α : Type} {g : Nat → Option α} {r : α} (h : Ev g r) : ∃ k, g k = some r := by
 obtain ⟨K, h⟩ := h
 exact ⟨K, h K (Nat.le_refl _)⟩
theorem w1 (i : Nat) (h : i < 4611686018427387904) : wrap64 ((i : Int) + 1) = ((i + 1 : Nat) : Int) := by rw [w64 (by omega) (by omega)]; omega

/-! ### parameters as the reference has them -/
def cv (y : S46) : S74 := ⟨y.f0, y.f1⟩
def pr (y : S46) : Int × Int := (y.f0, y.f1)
theorem rd46 (l : List S46) (i : Nat) (h : i < l.length) : rd_T46 l (i : Int) = l[i] := by
 unfold rd_T46
 rw [Int.toNat_natCast, List.getD_eq_getElem?_getD, List.getElem?_eq_getElem h]; rfl
theorem rd74 (l : List S74) (i : Nat) (h : i < l.length) : rd_T74 l (i : Int) = l[i] := by
 unfold rd_T74
 rw [Int.toNat_natCast, List.getD_eq_getElem?_getD, List.getElem?_eq_getElem h]; rfl
theorem plain_l (l : List S46) (hl : l.length < 8796093022208) (a0 a1 a2 a3 a4 : Int) : ∀ (d i : Nat), l.length - i = d → i ≤ l.length →
  Ev (fun k => w22_plain.l0 k l (l.length : Int) (i : Int) a0 a1 a2 a3 a4 ((l.take i).map cv)) (a0, a1, a2, a3, a4, l.map cv)
 | d, i, hd, hi => by
  refine Ev.step (fun k => by rw [w22_plain.l0]) ?_
  by_cases c : i < l.length
  ·obtain ⟨d, rfl⟩ : ∃ e, d = e + 1 := ⟨d - 1, by omega⟩
   have hm : ((l.take i).map cv).length = i := by rw [List.length_map, List.length_take]; omega
   refine ev_pos (by omega) (ev_pos (by omega) (ev_pos (by omega) (ev_pos (by rw [hm]; omega) ?_)))
   have h := plain_l l hl a0 a1 a2 a3 a4 d (i + 1) (by omega) (by omega)
   rw [w1 i (by omega), rd46 l i c]
   rw [List.take_succ_eq_append_getElem c, List.map_append] at h
   exact h
  ·obtain rfl : i = l.length := by omega
   refine ev_neg (by omega) ?_
   rw [List.take_length]
   exact Ev.now _
theorem plain_ev (l : List S46) (hl : l.length < 8796093022208) (a0 a1 a2 a3 a4 : Int) : Ev (fun k => w22_plain.f k a0 a1 a2 a3 a4 l) (a0, a1, a2, a3, a4, l.map cv) :=
 plain_l l hl a0 a1 a2 a3 a4 _ 0 rfl (Nat.zero_le _)

/-! ### totals -/
def totL (b : Int) : Int := if b = 1 then 2 else if b = 2 then 4 else if b = 4 then 16 else if b = 8 then 256 else if b = 16 then 65536 else if b = 32 then 4294967296 else 0
theorem index6 (b : Int) : ∃ j : Int, -1 ≤ j ∧ (0 ≤ j ↔ (b = 1 ∨ b = 2 ∨ b = 4 ∨ b = 8 ∨ b = 16 ∨ b = 32)) ∧ Ev (fun k => slices_Index_int_int.l0 k [1, 2, 4, 8, 16, 32] b 6 0) j := by
 by_cases c1 : b = 1
 ·exact ⟨0, by omega, by omega, Ev.step (fun k => by rw [slices_Index_int_int.l0]) (ev_pos (by omega) (ev_pos (by omega) (ev_pos (by decide) (ev_pos (by rw [c1]; rfl) (Ev.now _)))))⟩
 by_cases c2 : b = 2
 ·subst c2; exact ⟨1, by omega, by omega, 10, fun k hk => by obtain ⟨k, rfl⟩ : ∃ q, k = q + 10 := ⟨k - 10, by omega⟩; simp [slices_Index_int_int.l0, rd, wrap64]⟩
 by_cases c3 : b = 4
 ·subst c3; exact ⟨2, by omega, by omega, 10, fun k hk => by obtain ⟨k, rfl⟩ : ∃ q, k = q + 10 := ⟨k - 10, by omega⟩; simp [slices_Index_int_int.l0, rd, wrap64]⟩
 by_cases c4 : b = 8
 ·subst c4; exact ⟨3, by omega, by omega, 10, fun k hk => by obtain ⟨k, rfl⟩ : ∃ q, k = q + 10 := ⟨k - 10, by omega⟩; simp [slices_Index_int_int.l0, rd, wrap64]⟩
 by_cases c5 : b = 16
 ·subst c5; exact ⟨4, by omega, by omega, 10, fun k hk => by obtain ⟨k, rfl⟩ : ∃ q, k = q + 10 := ⟨k - 10, by omega⟩; simp [slices_Index_int_int.l0, rd, wrap64]⟩
 by_cases c6 : b = 32
 ·subst c6; exact ⟨5, by omega, by omega, 10, fun k hk => by obtain ⟨k, rfl⟩ : ∃ q, k = q + 10 := ⟨k - 10, by omega⟩; simp [slices_Index_int_int.l0, rd, wrap64]⟩
 exact ⟨-1, by omega, by omega, 10, fun k hk => by obtain ⟨k, rfl⟩ : ∃ q, k = q + 10 := ⟨k - 10, by omega⟩; simp [slices_Index_int_int.l0, rd, wrap64, c1, c2, c3, c4, c5, c6]⟩
theorem shl1 (b : Int) (h : b = 1 ∨ b = 2 ∨ b = 4 ∨ b = 8 ∨ b = 16 ∨ b = 32) : shl .i64 1 b = totL b := by
 rcases h with rfl | rfl | rfl | rfl | rfl | rfl <;> decide
theorem total_ev (l : List S46) (a0 a1 a2 a3 a4 : Int) : Ev (fun k => dist_Total.f k a0 a1 a2 a3 a4 l) (totL a4) := by
 obtain ⟨j, h1, h2, h3⟩ := index6 a4
 unfold dist_Total.f slices_Contains_int_int.f slices_Index_int_int.f
 refine Ev.bind (a := decide (0 ≤ j)) (Ev.bind (a := j) h3 (Ev.now _)) ?_
 by_cases c : 0 ≤ j
 ·have h := h2.1 c
  rw [decide_eq_true c]
  refine ev_pos rfl (ev_pos (by omega) ?_)
  rw [shl1 a4 h]
  exact Ev.now _
 ·rw [decide_eq_false c]
  refine ev_neg (by decide) ?_
  have : totL a4 = 0 := by
   have h : ¬ (a4 = 1 ∨ a4 = 2 ∨ a4 = 4 ∨ a4 = 8 ∨ a4 = 16 ∨ a4 = 32) := fun h => c (h2.2 h)
   unfold totL
   rw [if_neg (by omega), if_neg (by omega), if_neg (by omega), if_neg (by omega), if_neg (by omega), if_neg (by omega)]
  rw [this]
  exact Ev.now _
theorem ref_total (l : List S74) (a0 a1 a2 a3 a4 : Int) : r22_Total.f a0 a1 a2 a3 a4 l = some (totL a4) := by
 unfold r22_Total.f totL
 by_cases c1 : a4 = 1
 ·subst c1; decide
 by_cases c2 : a4 = 2
 ·subst c2; decide
 by_cases c3 : a4 = 4
 ·subst c3; decide
 by_cases c4 : a4 = 8
 ·subst c4; decide
 by_cases c5 : a4 = 16
 ·subst c5; decide
 by_cases c6 : a4 = 32
 ·subst c6; decide
 rw [if_neg c1, if_neg c1, if_neg c2, if_neg c2, if_neg c3, if_neg c3, if_neg c4, if_neg c4, if_neg c5, if_neg c5, if_neg c6, if_neg c6]
theorem totL_cases (b : Int) : totL b = 0 ∨ totL b = 2 ∨ totL b = 4 ∨ totL b = 16 ∨ totL b = 256 ∨ totL b = 65536 ∨ totL b = 4294967296 := by
 unfold totL
 split; simp
 split; simp
 split; simp
 split; simp
 split; simp
 split; simp
 simp

/-! ### checks -/
theorem check_ev (l : List S46) (hl : l.length ≤ 17592186044416) (a0 a1 a2 a3 a4 t : Int) : Ev (fun k => dist_Check.f k a0 a1 a2 a3 a4 l t) (checkL a0 a1 a2 a3 t (totL a4) (l.map pr)) := by
 unfold dist_Check.f
 refine ev_pos hl (Ev.bind (total_ev l a0 a1 a2 a3 a4) (Ev.now _))
theorem twice_l (x1 : Int) (L x66 : List S74) (x67 : Int) (p : Nat) (y0 y1 y2 y3 y4 b0 b1 : Int) (R : Int) (x95 : List S74) (h95 : x95.length ≤ 64)
  (hno : x95.any (fun a => a.f0 == b0) = false → Ev (fun k => r22_Check.l0 k x1 x66 x67 (wrap64 ((p : Int) + 1)) y0 y1 y2 y3 y4 L) R) (hyes : x95.any (fun a => a.f0 == b0) = true → R = 220) : ∀ (d i : Nat), x95.length - i = d → i ≤ x95.length → (x95.take i).any (fun a => a.f0 == b0) = false →
  Ev (fun k => r22_Check.l1 k x1 x66 x67 (p : Int) x95 (x95.length : Int) (i : Int) y0 y1 y2 y3 y4 L b0 b1) R
 | d, i, hd, hi, ht => by
  refine Ev.step (fun k => by rw [r22_Check.l1]) ?_
  by_cases c : i < x95.length
  ·obtain ⟨d, rfl⟩ : ∃ e, d = e + 1 := ⟨d - 1, by omega⟩
   refine ev_pos (by omega) (ev_pos (by omega) (ev_pos (by omega) ?_))
   rw [rd74 x95 i c, w1 i (by omega)]
   by_cases e : x95[i].f0 = b0
   ·refine ev_pos e ?_
    rw [hyes (List.any_eq_true.2 ⟨x95[i], List.getElem_mem _, by rw [e]; simp⟩)]
    exact Ev.now _
   ·refine ev_neg e (twice_l x1 L x66 x67 p y0 y1 y2 y3 y4 b0 b1 R x95 h95 hno hyes d (i + 1) (by omega) (by omega) ?_)
    rw [List.take_succ_eq_append_getElem c, List.any_append, ht]
    simp [e]
  ·obtain rfl : i = x95.length := by omega
   rw [List.take_length] at ht
   exact ev_neg (by omega) (hno ht)
theorem badB_cv (t : Int) (before : List S46) (b : S46) : badB t (before.map pr) (pr b) = (decide (b.f0 < 0) || decide (b.f0 ≥ t) || decide (b.f1 < -1048576) || decide (b.f1 > 1048576) || (before.map cv).any (fun a => a.f0 == b.f0)) := by
 unfold badB pr cv
 rw [List.any_map, List.any_map]
 have e : (!(decide (0 ≤ b.f0) && decide (b.f0 ≤ t - 1))) = (decide (b.f0 < 0) || decide (b.f0 ≥ t)) := by
  by_cases c1 : b.f0 < 0
  ·rw [decide_eq_true c1, decide_eq_false (by omega)]; rfl
  ·rw [decide_eq_false c1, decide_eq_true (by omega)]
   by_cases c2 : b.f0 ≥ t
   ·rw [decide_eq_true c2, decide_eq_false (by omega)]; rfl
   ·rw [decide_eq_false c2, decide_eq_true (by omega)]; rfl
 rw [e]
 rfl
theorem ref_good (t y0 y1 y2 y3 y4 : Int) (l : List S46) (hl : l.length ≤ 64) : ∀ (d i : Nat), l.length - i = d → i ≤ l.length →
  Ev (fun k => r22_Check.l0 k t (l.map cv) (l.length : Int) (i : Int) y0 y1 y2 y3 y4 (l.map cv)) (if goodBias t (l.map pr) d i = true then 0 else 220)
 | d, i, hd, hi => by
  refine Ev.step (fun k => by rw [r22_Check.l0]) ?_
  have hm : (l.map cv).length = l.length := List.length_map _
  by_cases c : i < l.length
  ·obtain ⟨d, rfl⟩ : ∃ e, d = e + 1 := ⟨d - 1, by omega⟩
   refine ev_pos (by omega) (ev_pos (by omega) (ev_pos (by omega) ?_))
   have hg : (l.map pr).getD i (0, 0) = pr l[i] := by simp [List.getD_eq_getElem?_getD, List.getElem?_eq_getElem c]
   have hr : rd_T74 (l.map cv) (i : Int) = cv l[i] := by rw [rd74 _ i (by omega), List.getElem_map]
   rw [hr, goodBias, hg, ← List.map_take, badB_cv]
   have fin : ∀ (B : Bool), Ev (fun k => r22_Check.j3 k t (i : Int) (l.map cv) (l.length : Int) (i : Int) B y0 y1 y2 y3 y4 (l.map cv) (cv l[i]).f0 (cv l[i]).f1) (if (if (B || ((l.take i).map cv).any (fun a => a.f0 == l[i].f0)) = true then false else goodBias t (l.map pr) d (i + 1)) = true then 0 else 220) := by
    intro B
    refine Ev.step (fun k => by rw [r22_Check.j3]) ?_
    cases B with
    | true => exact ev_pos rfl (by rw [Bool.true_or, if_pos rfl, if_neg (by decide)]; exact Ev.now _)
    | false =>
     refine ev_neg (by decide) (ev_pos (by omega) (ev_pos (by omega) (ev_some ?_)))
     rw [Int.toNat_natCast, ← List.map_take, Bool.false_or]
     have hk : ((l.take i).map cv).length ≤ 64 := by rw [List.length_map, List.length_take]; omega
     refine twice_l t (l.map cv) (l.map cv) (l.length : Int) i y0 y1 y2 y3 y4 _ _ _ ((l.take i).map cv) hk ?_ ?_ _ 0 rfl (Nat.zero_le _) rfl
     ·intro hno
      have hno' : ((l.take i).map cv).any (fun a => a.f0 == l[i].f0) = false := hno
      rw [hno', if_neg (show ¬ (false = true) by decide), w1 i (by omega)]
      exact ref_good t y0 y1 y2 y3 y4 l hl d (i + 1) (by omega) (by omega)
     ·intro hy
      have hy' : ((l.take i).map cv).any (fun a => a.f0 == l[i].f0) = true := hy
      rw [hy', if_pos rfl, if_neg (by decide)]
   have f0 : (cv l[i]).f0 = l[i].f0 := rfl
   have f1 : (cv l[i]).f1 = l[i].f1 := rfl
   rw [f0, f1] at fin ⊢
   by_cases c1 : l[i].f0 < 0
   ·rw [decide_eq_true c1]
    exact ev_pos c1 (fin true)
   refine ev_neg c1 ?_
   by_cases c2 : l[i].f0 ≥ t
   ·rw [decide_eq_false c1, decide_eq_true c2]
    exact ev_pos c2 (fin true)
   refine ev_neg c2 ?_
   by_cases c3 : l[i].f1 < -1048576
   ·rw [decide_eq_false c1, decide_eq_false c2, decide_eq_true c3]
    exact ev_pos c3 (fin true)
   refine ev_neg c3 ?_
   rw [decide_eq_false c1, decide_eq_false c2, decide_eq_false c3]
   exact fin (decide (l[i].f1 > 1048576))
  ·obtain rfl : i = l.length := by omega
   obtain rfl : d = 0 := by omega
   exact ev_neg (by omega) (Ev.now _)
theorem ref_check_j (t y0 y1 y2 y3 y4 : Int) (l : List S46) (B : Bool) (hB : B = false → rangeOk y0 y1 0 1 t ∨ True) : Ev (fun k => r22_Check.j0 k t B y0 y1 y2 y3 y4 (l.map cv)) (if B = true ∨ ¬ (0 ≤ y2 ∧ y2 ≤ t) ∨ ¬ (1 ≤ y3 ∧ y3 ≤ 65536) ∨ totL y4 = 0 ∨ 64 < l.length then 220 else if goodBias t (l.map pr) l.length 0 = true then 0 else 220) := by
 have hm : (l.map cv).length = l.length := List.length_map _
 have j1 : ∀ C : Bool, (C = false → l.length ≤ 64) → Ev (fun k => r22_Check.j1 k t C y0 y1 y2 y3 y4 (l.map cv)) (if C = true then 220 else if goodBias t (l.map pr) l.length 0 = true then 0 else 220) := by
  intro C hC
  refine Ev.step (fun k => by rw [r22_Check.j1]) ?_
  cases C with
  | true => exact ev_pos rfl (by rw [if_pos rfl]; exact Ev.now _)
  | false =>
   refine ev_neg (by decide) ?_
   rw [if_neg (by decide), hm]
   exact ref_good t y0 y1 y2 y3 y4 l (hC rfl) _ 0 rfl (Nat.zero_le _)
 refine Ev.step (fun k => by rw [r22_Check.j0]) ?_
 cases B with
 | true => exact ev_pos rfl (by rw [if_pos (Or.inl rfl)]; exact Ev.now _)
 | false =>
  refine ev_neg (by decide) ?_
  have t1 := j1 true (by intro h; cases h)
  rw [if_pos rfl] at t1
  by_cases c1 : y2 < 0
  ·rw [if_pos (by omega)]; exact ev_pos c1 t1
  refine ev_neg c1 ?_
  by_cases c2 : y2 > t
  ·rw [if_pos (by omega)]; exact ev_pos c2 t1
  refine ev_neg c2 ?_
  by_cases c3 : y3 < 1
  ·rw [if_pos (by omega)]; exact ev_pos c3 t1
  refine ev_neg c3 ?_
  by_cases c4 : y3 > 65536
  ·rw [if_pos (by omega)]; exact ev_pos c4 t1
  refine ev_neg c4 (ev_is (ref_total _ y0 y1 y2 y3 y4) ?_)
  by_cases c5 : totL y4 = 0
  ·rw [if_pos (by omega)]; exact ev_pos c5 t1
  refine ev_neg c5 ?_
  have t2 := j1 (decide (((l.map cv).length : Int) > 64)) (by intro h; have := of_decide_eq_false h; omega)
  by_cases c6 : 64 < l.length
  ·rw [if_pos (Or.inr (Or.inr (Or.inr (Or.inr c6))))]
   rw [decide_eq_true (by omega), if_pos rfl] at t2
   rw [decide_eq_true (by omega)]
   exact t2
  ·rw [if_neg (by rintro (h | h | h | h | h); cases h; exact h ⟨by omega, by omega⟩; exact h ⟨by omega, by omega⟩; exact c5 h; exact c6 h)]
   rw [decide_eq_false (by omega), if_neg (by decide)] at t2
   rw [decide_eq_false (by omega)]
   exact t2
theorem ref_check (t y0 y1 y2 y3 y4 : Int) (l : List S46) : Ev (fun k => r22_Check.f k y0 y1 y2 y3 y4 (l.map cv) t) (checkL y0 y1 y2 y3 t (totL y4) (l.map pr)) := by
 have hj : ∀ k, r22_Check.f k y0 y1 y2 y3 y4 (l.map cv) t = r22_Check.j0 k t (decide (¬ ((1 ≤ t ∧ t ≤ 512) ∧ (0 ≤ y0 ∧ y0 ≤ 65536) ∧ (1 ≤ y1 ∧ y1 ≤ 65536)))) y0 y1 y2 y3 y4 (l.map cv) := by
  intro k
  unfold r22_Check.f
  by_cases c1 : t < 1
  ·rw [if_pos c1, decide_eq_true (by omega)]
  rw [if_neg c1]
  by_cases c2 : t > 512
  ·rw [if_pos c2, decide_eq_true (by omega)]
  rw [if_neg c2]
  by_cases c3 : y0 < 0
  ·rw [if_pos c3, decide_eq_true (by omega)]
  rw [if_neg c3]
  by_cases c4 : y0 > 65536
  ·rw [if_pos c4, decide_eq_true (by omega)]
  rw [if_neg c4]
  by_cases c5 : y1 < 1
  ·rw [if_pos c5, decide_eq_true (by omega)]
  rw [if_neg c5]
  congr 1
  by_cases c6 : y1 > 65536
  ·rw [decide_eq_true c6, decide_eq_true (by omega)]
  ·rw [decide_eq_false c6, decide_eq_false (by omega)]
 refine Ev.congr hj ?_
 have h := ref_check_j t y0 y1 y2 y3 y4 l (decide (¬ ((1 ≤ t ∧ t ≤ 512) ∧ (0 ≤ y0 ∧ y0 ≤ 65536) ∧ (1 ≤ y1 ∧ y1 ≤ 65536)))) (fun _ => .inr trivial)
 have e : (if decide (¬ ((1 ≤ t ∧ t ≤ 512) ∧ (0 ≤ y0 ∧ y0 ≤ 65536) ∧ (1 ≤ y1 ∧ y1 ≤ 65536))) = true ∨ ¬ (0 ≤ y2 ∧ y2 ≤ t) ∨ ¬ (1 ≤ y3 ∧ y3 ≤ 65536) ∨ totL y4 = 0 ∨ 64 < l.length then (220 : Int) else if goodBias t (l.map pr) l.length 0 = true then 0 else 220) = checkL y0 y1 y2 y3 t (totL y4) (l.map pr) := by
  unfold checkL rangeOk
  rw [List.length_map]
  simp only [decide_eq_true_eq]
  exact ite_congr (propext ⟨fun h => by omega, fun h => by omega⟩) (fun _ => rfl) (fun _ => rfl)
 rw [e] at h
 exact h
end Go.Proofs.Ythmckhfjaleomaa.Pure
/- dist and its reference: weights. -/
namespace Go.Proofs.Ythmckhfjaleomaa.Pure
set_option linter.unusedSimpArgs false
set_option linter.unusedVariables false
set_option linter.unusedSectionVars false
open Go.RowKit Go.Proofs.YthmckhfjaleomaaW.PrintWords Go.Proofs.YthmckhfjaleomaaW.PrintLast Go.Proofs.YthmckhfjaleomaaW.PrintMore Go.Proofs.Ythmckhfjaleomaa.T Go.Proofs.Ythmckhfjaleomaa.St

/-! ### what is kept -/
def keepFrom (e : List Int) (o ps : List Int) : List Int := ps.foldl (fun o i => o.set i.toNat (e.getD i.toNat 0)) o
def keptL (e ps : List Int) : List Int := keepFrom e (List.replicate e.length 0) ps
theorem keepFrom_len (e : List Int) : ∀ (ps o : List Int), (keepFrom e o ps).length = o.length
 | [], o => rfl
 | p :: r, o => by
  show (keepFrom e (o.set p.toNat (e.getD p.toNat 0)) r).length = _
  rw [keepFrom_len e r, List.length_set]
theorem keptL_len (e ps : List Int) : (keptL e ps).length = e.length := by
 unfold keptL
 rw [keepFrom_len, List.length_replicate]
theorem kept_l (e ps : List Int) (hp : ∀ p ∈ ps, 0 ≤ p ∧ p < (e.length : Int)) (hl : ps.length < 4611686018427387904) : ∀ (d i : Nat) (o : List Int), ps.length - i = d → i ≤ ps.length → o.length = e.length →
  Ev (fun k => dist_kept.l0 k e o ps (ps.length : Int) (i : Int)) (keepFrom e o (ps.drop i))
 | d, i, o, hd, hi, ho => by
  refine Ev.step (fun k => by rw [dist_kept.l0]) ?_
  by_cases c : i < ps.length
  ·obtain ⟨d, rfl⟩ : ∃ e, d = e + 1 := ⟨d - 1, by omega⟩
   have hv := hp _ (getD_mem ps i c)
   rw [rd_nat, drop_get ps i c, w1 i (by omega)]
   refine ev_pos (by omega) (ev_pos (by omega) (ev_pos (by omega) (ev_pos hv.1 (ev_pos hv.2 (ev_pos (by rw [ho]; exact hv.2) ?_)))))
   exact kept_l e ps hp hl d (i + 1) _ (by omega) (by omega) (by rw [List.length_set]; exact ho)
  ·obtain rfl : i = ps.length := by omega
   refine ev_neg (by omega) ?_
   rw [List.drop_eq_nil_of_le (Nat.le_refl _)]
   exact Ev.now _
theorem only_l (e ps : List Int) (hp : ∀ p ∈ ps, 0 ≤ p ∧ p < (e.length : Int)) (hl : ps.length < 4611686018427387904) : ∀ (d i : Nat) (o : List Int), ps.length - i = d → i ≤ ps.length → o.length = e.length →
  Ev (fun k => r22_only.l0 k e o ps (ps.length : Int) (i : Int)) (keepFrom e o (ps.drop i))
 | d, i, o, hd, hi, ho => by
  refine Ev.step (fun k => by rw [r22_only.l0]) ?_
  by_cases c : i < ps.length
  ·obtain ⟨d, rfl⟩ : ∃ e, d = e + 1 := ⟨d - 1, by omega⟩
   have hv := hp _ (getD_mem ps i c)
   rw [rd_nat, drop_get ps i c, w1 i (by omega)]
   refine ev_pos (by omega) (ev_pos (by omega) (ev_pos (by omega) (ev_pos hv.1 (ev_pos hv.2 (ev_pos (by rw [ho]; exact hv.2) ?_)))))
   exact only_l e ps hp hl d (i + 1) _ (by omega) (by omega) (by rw [List.length_set]; exact ho)
  ·obtain rfl : i = ps.length := by omega
   refine ev_neg (by omega) ?_
   rw [List.drop_eq_nil_of_le (Nat.le_refl _)]
   exact Ev.now _
theorem kept_ev (e ps : List Int) (he : e.length ≤ 4096) (hp : ∀ p ∈ ps, 0 ≤ p ∧ p < (e.length : Int)) (hl : ps.length < 4611686018427387904) : Ev (fun k => dist_kept.f k e ps) (keptL e ps) := by
 unfold dist_kept.f
 refine ev_pos (by omega) (ev_pos (by omega) ?_)
 rw [Int.toNat_natCast]
 exact kept_l e ps hp hl _ 0 _ rfl (Nat.zero_le _) List.length_replicate
theorem only_ev (e ps : List Int) (he : e.length ≤ 4096) (hp : ∀ p ∈ ps, 0 ≤ p ∧ p < (e.length : Int)) (hl : ps.length < 4611686018427387904) : Ev (fun k => r22_only.f k e ps) (keptL e ps) := by
 unfold r22_only.f
 refine ev_pos (by omega) (ev_pos (by omega) ?_)
 rw [Int.toNat_natCast]
 exact only_l e ps hp hl _ 0 _ rfl (Nat.zero_le _) List.length_replicate

/-! ### from the heats on -/
theorem orderL_in (l : List Int) : ∀ p ∈ orderL l, 0 ≤ p ∧ p < (l.length : Int) := by
 intro v hv
 rw [orderL_eq] at hv
 obtain ⟨x, hx, rfl⟩ := List.mem_map.1 hv
 have := (orderN_mem _ _).1 hx
 omega
theorem topL_in (l : List Int) (a : Int) : ∀ p ∈ topL l a, 0 ≤ p ∧ p < (l.length : Int) := by
 intro v hv
 unfold topL at hv
 split at hv
 ·exact orderL_in l v (List.mem_of_mem_take hv)
 ·exact orderL_in l v hv
theorem nucL_in (l : List Int) (a : Int) : ∀ p ∈ (nucL l a).1, 0 ≤ p ∧ p < (l.length : Int) := by
 intro v hv
 unfold nucL at hv
 split at hv
 ·cases hv
 ·split at hv
  ·cases hv
  ·exact orderL_in l v (List.mem_of_mem_take hv)
def cutL (e : List Int) (a2 : Int) : List Int := if a2 > 0 then keptL e (topL e a2) else e
theorem cutL_len (e : List Int) (a2 : Int) : (cutL e a2).length = e.length := by
 unfold cutL
 split
 ·exact keptL_len _ _
 ·rfl
def endL (e : List Int) (a3 t : Int) : List Int × Int := shareL (keptL e (nucL e a3).1) t
def finL (e : List Int) (a2 a3 t : Int) : List Int × Int := endL (cutL e a2) a3 t
theorem ev_nuc (l : List Int) (hl : l.length ≤ 4096) (a : Int) : Ev (fun k => rank_Nucleus.f k l a) (nucL l a) := ⟨10000, fun k hk => own_nuc l (by omega) a k hk⟩
theorem ev_share (l : List Int) (t : Int) : Ev (fun k => rank_Share.f k l t) (shareL l t) := ⟨10000, fun k hk => own_share l t k hk⟩
theorem ev_rnuc (l : List Int) (hl : l.length ≤ 4096) (a : Int) : Ev (fun k => r07_Nucleus.f k l a) (nucL l a) := ref_nuc l (by omega) a
theorem ev_rshare (l : List Int) (hl : l.length ≤ 4096) (t : Int) : Ev (fun k => r07_Share.f k l t) (shareL l t) := ref_share l t (by omega)
theorem ev_rtop (l : List Int) (hl : l.length ≤ 4096) (a : Int) : Ev (fun k => r07_Top.f k l a) (topL l a) := by
 obtain ⟨K, hK⟩ := ref_order l (by omega)
 exact ⟨K, fun k hk => ref_top l a k (hK k hk)⟩
theorem own_j3 (e : List Int) (he : e.length ≤ 512) (a0 a1 a2 a3 a4 : Int) (l : List S46) : Ev (fun k => dist_Weights.j3 k e a0 a1 a2 a3 a4 l) (endL e a3 (totL a4)) := by
 refine Ev.step (fun k => by rw [dist_Weights.j3]) ?_
 have hl := nucL_len e a3
 refine Ev.bind (ev_nuc e (by omega) a3) (Ev.bind (kept_ev e _ (by omega) (nucL_in e a3) (by omega)) (Ev.bind (total_ev l a0 a1 a2 a3 a4) (Ev.bind (ev_share _ _) ?_)))
 exact Ev.now _
theorem ref_j3 (e : List Int) (he : e.length ≤ 512) (a0 a1 a2 a3 a4 : Int) (l : List S74) : Ev (fun k => r22_Weights.j3 k e a0 a1 a2 a3 a4 l) (endL e a3 (totL a4)) := by
 refine Ev.step (fun k => by rw [r22_Weights.j3]) ?_
 have hl := nucL_len e a3
 refine Ev.bind (ev_rnuc e (by omega) a3) (Ev.bind (only_ev e _ (by omega) (nucL_in e a3) (by omega)) (ev_is (ref_total l a0 a1 a2 a3 a4) (Ev.bind (ev_rshare _ (by rw [keptL_len]; omega) _) ?_)))
 exact Ev.now _

/-! ### the heats -/
theorem addB_some : ∀ (b : List (Int × Int)) (l : List Int), (∀ x ∈ b, 0 ≤ x.1 ∧ x.1 < (l.length : Int)) → ∃ s, addB l b = some s
 | [], l, h => ⟨l, rfl⟩
 | x :: r, l, h => by
  rw [addB, if_pos (h x List.mem_cons_self)]
  exact addB_some r _ (fun y hy => by rw [List.length_set]; exact h y (List.mem_cons_of_mem _ hy))
theorem good_in (t : Int) (l : List (Int × Int)) : ∀ (d i : Nat), goodBias t l d i = true → ∀ j, i ≤ j → j < i + d → 0 ≤ (l.getD j (0, 0)).1 ∧ (l.getD j (0, 0)).1 ≤ t - 1
 | 0, i, h, j, h1, h2 => by omega
 | d + 1, i, h, j, h1, h2 => by
  rw [goodBias] at h
  split at h
  ·cases h
  ·rename_i hb
   by_cases e : j = i
   ·subst e
    unfold badB at hb
    by_cases c : 0 ≤ (l.getD j (0, 0)).1 ∧ (l.getD j (0, 0)).1 ≤ t - 1
    ·exact c
    ·exfalso
     apply hb
     have : (decide (0 ≤ (l.getD j (0, 0)).1) && decide ((l.getD j (0, 0)).1 ≤ t - 1)) = false := by rw [← Bool.decide_and]; exact decide_eq_false c
     rw [this]
     rfl
   ·exact good_in t l d (i + 1) h j (by omega) (by omega)
theorem check_ok {a0 a1 a2 a3 t T : Int} {l : List (Int × Int)} (h : checkL a0 a1 a2 a3 t T l = 0) : rangeOk a0 a1 a2 a3 t ∧ T ≠ 0 ∧ l.length ≤ 64 ∧ ∀ x ∈ l, 0 ≤ x.1 ∧ x.1 < t := by
 unfold checkL at h
 split at h
 ·cases h
 ·rename_i hc
  split at h
  ·rename_i hg
   refine ⟨Decidable.byContradiction fun c => hc (Or.inl c), fun c => hc (Or.inr (Or.inl c)), by omega, ?_⟩
   intro x hx
   obtain ⟨j, hj, rfl⟩ := List.getElem_of_mem hx
   have := good_in t l _ 0 hg j (Nat.zero_le _) (by omega)
   rw [List.getD_eq_getElem?_getD, List.getElem?_eq_getElem hj] at this
   have h2 : 0 ≤ (l[j]).1 ∧ (l[j]).1 ≤ t - 1 := this
   omega
  ·cases h
theorem check_01 (a0 a1 a2 a3 t T : Int) (l : List (Int × Int)) : checkL a0 a1 a2 a3 t T l = 0 ∨ checkL a0 a1 a2 a3 t T l = 220 := by
 unfold checkL
 split
 ·exact .inr rfl
 ·split
  ·exact .inl rfl
  ·exact .inr rfl
def summed (l : List Int) (b : List (Int × Int)) : List Int := (addB l b).getD []
def heats (mask : List Bool) (a0 a1 : Int) (s : List Int) : List Int := outH (mayL mask) a0 a1 (maxM (mayL mask) s 0 true 0) s 0
theorem heats_len (mask : List Bool) (a0 a1 : Int) (s : List Int) : (heats mask a0 a1 s).length = s.length := outH_length _ _ _ _ _ _
/-- the weights. -/
def weightsL (l : List Int) (mask : List Bool) (a0 a1 a2 a3 a4 : Int) (b : List (Int × Int)) : List Int × Int :=
 if ¬ (1 ≤ l.length ∧ l.length ≤ 512) ∨ l.any wrongS = true then ([], 221)
 else if checkL a0 a1 a2 a3 l.length (totL a4) b ≠ 0 then ([], 220)
 else if mask.length ≠ 0 ∧ mask.length ≠ l.length then ([], 222)
 else if mask.length ≠ 0 ∧ mask.any id = false then ([], 223)
 else finL (heats mask a0 a1 (summed l b)) a2 a3 (totL a4)

theorem has_l (l : List Bool) (hl : l.length < 4611686018427387904) : ∀ (d i : Nat), l.length - i = d → i ≤ l.length → ∃ j : Int, decide (0 ≤ j) = (l.drop i).any id ∧ Ev (fun k => slices_Index_bool_bool.l0 k l true (l.length : Int) (i : Int)) j
 | d, i, hd, hi => by
  by_cases c : i < l.length
  ·obtain ⟨d, rfl⟩ : ∃ e, d = e + 1 := ⟨d - 1, by omega⟩
   have hr : rdOf false l (i : Int) = l[i] := by
    unfold rdOf
    rw [Int.toNat_natCast, List.getD_eq_getElem?_getD, List.getElem?_eq_getElem c]; rfl
   have hdr : l.drop i = l[i] :: l.drop (i + 1) := List.drop_eq_getElem_cons c
   by_cases e : l[i] = true
   ·refine ⟨i, ?_, Ev.step (fun k => by rw [slices_Index_bool_bool.l0]) ?_⟩
    ·rw [hdr, List.any_cons, e, decide_eq_true (by omega)]; rfl
    ·rw [hr, e]
     exact ev_pos (by omega) (ev_pos (by omega) (ev_pos (by omega) (ev_pos rfl (Ev.now _))))
   ·have e' : l[i] = false := by cases h : l[i] with | true => exact absurd h e | false => rfl
    obtain ⟨j, h1, h2⟩ := has_l l hl d (i + 1) (by omega) (by omega)
    refine ⟨j, ?_, Ev.step (fun k => by rw [slices_Index_bool_bool.l0]) ?_⟩
    ·rw [hdr, List.any_cons, e', h1]; rfl
    ·rw [hr, e', w1 i (by omega)]
     exact ev_pos (by omega) (ev_pos (by omega) (ev_pos (by omega) (ev_neg (by decide) h2)))
  ·obtain rfl : i = l.length := by omega
   refine ⟨-1, ?_, Ev.step (fun k => by rw [slices_Index_bool_bool.l0]) (ev_neg (by omega) (Ev.now _))⟩
   rw [List.drop_eq_nil_of_le (Nat.le_refl _)]
   rfl
theorem has_ev (l : List Bool) (hl : l.length < 4611686018427387904) : Ev (fun k => slices_Contains_bool_bool.f k l true) (l.any id) := by
 obtain ⟨j, h1, h2⟩ := has_l l hl _ 0 rfl (Nat.zero_le _)
 unfold slices_Contains_bool_bool.f slices_Index_bool_bool.f
 refine Ev.bind (a := j) h2 ?_
 have h1' : decide (j ≥ 0) = l.any id := by rw [← show l.drop 0 = l from rfl]; exact h1
 rw [h1']
 exact Ev.now _

theorem own_weights (l : List Int) (mask : List Bool) (a0 a1 a2 a3 a4 : Int) (b : List S46) (hl : l.length ≤ 17592186044416) (hm : mask.length ≤ 140737488355328) (hb : b.length ≤ 17592186044416) :
  Ev (fun k => dist_Weights.f k l mask a0 a1 a2 a3 a4 b) (weightsL l mask a0 a1 a2 a3 a4 (b.map pr)) := by
 have bad : Ev (fun k => dist_Weights.j0 k l true mask a0 a1 a2 a3 a4 b) (([] : List Int), (221 : Int)) := Ev.step (fun k => by rw [dist_Weights.j0]) (ev_pos rfl (Ev.now _))
 unfold dist_Weights.f
 have hbt : dist_between.f (l.length : Int) 1 512 = some (decide (1 ≤ l.length ∧ l.length ≤ 512)) := by
  unfold dist_between.f
  by_cases c : (l.length : Int) ≥ 1
  ·rw [if_pos c]
   congr 1
   by_cases c2 : (l.length : Int) ≤ 512
   ·rw [decide_eq_true c2, decide_eq_true (by omega)]
   ·rw [decide_eq_false c2, decide_eq_false (by omega)]
  ·rw [if_neg c, decide_eq_false (by omega)]
 refine ev_is hbt ?_
 unfold weightsL
 by_cases c : 1 ≤ l.length ∧ l.length ≤ 512
 rotate_left
 ·rw [decide_eq_false c, if_pos (Or.inl c)]
  exact ev_neg (by decide) bad
 rw [decide_eq_true c]
 refine ev_pos rfl (ev_is (show slices_ContainsFunc_int64_int64.f l = some (l.any wrongS) by unfold slices_ContainsFunc_int64_int64.f; rw [if_pos hl]) ?_)
 by_cases cw : l.any wrongS = true
 ·rw [cw, if_pos (Or.inr rfl)]
  exact bad
 have cw' : l.any wrongS = false := by cases h : l.any wrongS with | true => exact absurd h cw | false => rfl
 rw [cw', if_neg (by rintro (h | h); exact h c; cases h)]
 refine Ev.step (fun k => by rw [dist_Weights.j0]) (ev_neg (by decide) (Ev.bind (check_ev b hb a0 a1 a2 a3 a4 (l.length : Int)) ?_))
 rcases check_01 a0 a1 a2 a3 (l.length : Int) (totL a4) (b.map pr) with hc | hc
 rotate_left
 ·rw [hc, if_pos (by decide)]
  exact ev_neg (by decide) (Ev.now _)
 rw [hc, if_neg (by simp)]
 obtain ⟨⟨_, _, r1, r2, r3⟩, hT, hbl, hbi⟩ := check_ok hc
 refine ev_pos rfl ?_
 have go : (mask.length = 0 ∨ l.length ≤ mask.length) → Ev (fun k => dist_Weights.j2 k l mask a0 a1 a2 a3 a4 b) (finL (heats mask a0 a1 (summed l (b.map pr))) a2 a3 (totL a4)) := by
  intro hml
  obtain ⟨s, hs⟩ := addB_some (b.map pr) l hbi
  have hsl := addB_length _ _ _ hs
  have hh : dist_heat.f l mask a0 a1 a2 a3 a4 b = some (heats mask a0 a1 (summed l (b.map pr))) := by
   unfold dist_heat.f
   rw [if_pos ⟨by omega, hl, hb, hml, r1.1, r1.2⟩]
   unfold heatL summed heats
   rw [show (b.map fun y => (y.f0, y.f1)) = b.map pr from rfl, hs]
   rfl
  have hel : (heats mask a0 a1 (summed l (b.map pr))).length = l.length := by
   rw [heats_len]; unfold summed; rw [hs]; exact hsl
  refine Ev.step (fun k => by rw [dist_Weights.j2]) (ev_is hh ?_)
  generalize heats mask a0 a1 (summed l (b.map pr)) = e at hel
  unfold finL cutL
  by_cases c2 : a2 > 0
  ·rw [if_pos c2]
   have ht := topL_len e a2
   refine ev_pos c2 (ev_is (own_top e (by omega) a2) (Ev.bind (kept_ev e _ (by omega) (topL_in e a2) (by omega)) ?_))
   exact own_j3 _ (by rw [keptL_len]; omega) a0 a1 a2 a3 a4 b
  ·rw [if_neg c2]
   exact ev_neg c2 (own_j3 e (by omega) a0 a1 a2 a3 a4 b)
 by_cases m0 : mask.length = 0
 ·rw [if_neg (by omega), if_neg (by omega)]
  refine ev_neg (by omega) (Ev.step (fun k => by rw [dist_Weights.j1]) (ev_neg (by decide) (ev_neg (by omega) (go (Or.inl m0)))))
 refine ev_pos (by omega) (Ev.step (fun k => by rw [dist_Weights.j1]) ?_)
 by_cases m1 : mask.length = l.length
 ·rw [if_neg (by omega)]
  refine ev_neg (by rw [m1]; simp) (ev_pos (by omega) (Ev.bind (has_ev mask (by omega)) ?_))
  by_cases m2 : mask.any id = true
  ·rw [m2, if_neg (by rintro ⟨_, h⟩; cases h)]
   exact ev_pos rfl (go (Or.inr (by omega)))
  ·have m2' : mask.any id = false := by cases h : mask.any id with | true => exact absurd h m2 | false => rfl
   rw [m2', if_pos ⟨m0, rfl⟩]
   exact ev_neg (by decide) (Ev.now _)
 ·rw [if_pos ⟨m0, m1⟩]
  exact ev_pos (by rw [bne_iff_ne]; omega) (Ev.now _)
end Go.Proofs.Ythmckhfjaleomaa.Pure
/- dist's reference: weights. -/
namespace Go.Proofs.Ythmckhfjaleomaa.Pure
set_option linter.unusedSimpArgs false
set_option linter.unusedVariables false
set_option linter.unusedSectionVars false
open Go.RowKit Go.Proofs.YthmckhfjaleomaaW.PrintWords Go.Proofs.YthmckhfjaleomaaW.PrintLast Go.Proofs.YthmckhfjaleomaaW.PrintMore Go.Proofs.Ythmckhfjaleomaa.T Go.Proofs.Ythmckhfjaleomaa.St

/-! ### what is wrong -/
theorem may_ok (mask : List Bool) (i : Nat) (h : mask.length = 0 ∨ i < mask.length) : r22_may.f mask (i : Int) = some (mayL mask i) := by
 unfold r22_may.f mayL
 by_cases c : mask.length = 0
 ·rw [if_pos (by omega), decide_eq_true c]; rfl
 ·rw [if_neg (by omega), if_pos (by omega), if_pos (by omega), decide_eq_false c]
  unfold rdOf
  rw [Int.toNat_natCast]
  rfl
theorem may_l (mask : List Bool) (n : Nat) (h : mask.length = 0 ∨ n ≤ mask.length) (hn : n ≤ 512) : ∀ (d i : Nat), n - i = d → i ≤ n → (∀ j, j < i → mayL mask j = false) →
  Ev (fun k => r22_wrong.l1 k mask (n : Int) (i : Int)) (if ∃ j, j < n ∧ mayL mask j = true then 0 else 223)
 | d, i, hd, hi, hno => by
  refine Ev.step (fun k => by rw [r22_wrong.l1]) ?_
  by_cases c : i < n
  ·obtain ⟨d, rfl⟩ : ∃ e, d = e + 1 := ⟨d - 1, by omega⟩
   refine ev_pos (by omega) (ev_is (may_ok mask i (by omega)) ?_)
   cases e : mayL mask i with
   | true =>
    rw [if_pos ⟨i, c, e⟩]
    exact ev_pos rfl (Ev.now _)
   | false =>
    rw [w1 i (by omega)]
    refine ev_neg (by decide) (may_l mask n h hn d (i + 1) (by omega) (by omega) (fun j hj => ?_))
    by_cases e2 : j = i
    ·subst e2; exact e
    ·exact hno j (by omega)
  ·obtain rfl : i = n := by omega
   rw [if_neg (by rintro ⟨j, h1, h2⟩; rw [hno j h1] at h2; cases h2)]
   exact ev_neg (by omega) (Ev.now _)
def wrongL (l : List Int) (mask : List Bool) (a0 a1 a2 a3 a4 : Int) (b : List (Int × Int)) : Int :=
 if ¬ (1 ≤ l.length ∧ l.length ≤ 512) ∨ l.any wrongS = true then 221
 else if checkL a0 a1 a2 a3 l.length (totL a4) b ≠ 0 then 220
 else if mask.length ≠ 0 ∧ mask.length ≠ l.length then 222
 else if mask.length ≠ 0 ∧ mask.any id = false then 223
 else 0
theorem any_may (mask : List Bool) (n : Nat) (hn : 1 ≤ n) (h : mask.length = 0 ∨ mask.length = n) : (∃ j, j < n ∧ mayL mask j = true) ↔ ¬ (mask.length ≠ 0 ∧ mask.any id = false) := by
 unfold mayL
 by_cases c : mask.length = 0
 ·constructor
  ·intro _ h2; exact h2.1 c
  ·intro _; exact ⟨0, by omega, by rw [decide_eq_true c]; rfl⟩
 ·constructor
  ·rintro ⟨j, h1, h2⟩ ⟨_, h3⟩
   rw [decide_eq_false c, Bool.false_or] at h2
   have hj : j < mask.length := by omega
   rw [List.getD_eq_getElem?_getD, List.getElem?_eq_getElem hj] at h2
   have h2' : mask[j] = true := h2
   have := List.any_eq_false.1 h3 mask[j] (List.getElem_mem _)
   rw [h2'] at this
   exact this rfl
  ·intro h2
   have h3 : mask.any id = true := by
    cases e : mask.any id with
    | true => rfl
    | false => exact (h2 ⟨c, e⟩).elim
   obtain ⟨x, hx, hx2⟩ := List.any_eq_true.1 h3
   obtain ⟨j, hj, rfl⟩ := List.getElem_of_mem hx
   refine ⟨j, by omega, ?_⟩
   rw [List.getD_eq_getElem?_getD, List.getElem?_eq_getElem hj]
   have : mask[j] = true := hx2
   simp [this]
theorem wrong_l (l : List Int) (mask : List Bool) (a0 a1 a2 a3 a4 : Int) (b : List S46) (h1 : 1 ≤ l.length) (h2 : l.length ≤ 512) : ∀ (d i : Nat), l.length - i = d → i ≤ l.length → (∀ j, j < i → wrongS (l.getD j 0) = false) →
  Ev (fun k => r22_wrong.l0 k l mask l (l.length : Int) (i : Int) a0 a1 a2 a3 a4 (b.map cv)) (wrongL l mask a0 a1 a2 a3 a4 (b.map pr))
 | d, i, hd, hi, hno => by
  refine Ev.step (fun k => by rw [r22_wrong.l0]) ?_
  by_cases c : i < l.length
  ·obtain ⟨d, rfl⟩ : ∃ e, d = e + 1 := ⟨d - 1, by omega⟩
   have hgi : l.getD i 0 = l[i] := by rw [List.getD_eq_getElem?_getD, List.getElem?_eq_getElem c]; rfl
   have bad : wrongS (l.getD i 0) = true → wrongL l mask a0 a1 a2 a3 a4 (b.map pr) = 221 := by
    intro h
    unfold wrongL
    rw [if_pos (Or.inr (List.any_eq_true.2 ⟨l[i], List.getElem_mem _, by rw [← hgi]; exact h⟩))]
   refine ev_pos (by omega) (ev_pos (by omega) (ev_pos (by omega) ?_))
   rw [rd_nat]
   by_cases c1 : l.getD i 0 < -1073741824
   ·rw [bad (by unfold wrongS; rw [decide_eq_true c1]; rfl)]
    exact ev_pos c1 (Ev.now _)
   by_cases c2 : l.getD i 0 > 1073741824
   ·rw [bad (by unfold wrongS; rw [decide_eq_true c2]; simp)]
    exact ev_neg c1 (ev_pos c2 (Ev.now _))
   rw [w1 i (by omega)]
   refine ev_neg c1 (ev_neg c2 (wrong_l l mask a0 a1 a2 a3 a4 b h1 h2 d (i + 1) (by omega) (by omega) (fun j hj => ?_)))
   by_cases e2 : j = i
   ·subst e2; unfold wrongS; rw [decide_eq_false c1, decide_eq_false c2]; rfl
   ·exact hno j (by omega)
  ·obtain rfl : i = l.length := by omega
   have hany : l.any wrongS = false := by
    rw [List.any_eq_false]
    intro x hx
    obtain ⟨j, hj, rfl⟩ := List.getElem_of_mem hx
    have := hno j hj
    rw [List.getD_eq_getElem?_getD, List.getElem?_eq_getElem hj] at this
    have h3 : wrongS l[j] = false := this
    rw [h3]; decide
   unfold wrongL
   rw [if_neg (by rintro (h | h); exact h ⟨h1, h2⟩; rw [hany] at h; cases h)]
   refine ev_neg (by omega) (Ev.bind (ref_check (l.length : Int) a0 a1 a2 a3 a4 b) ?_)
   rcases check_01 a0 a1 a2 a3 (l.length : Int) (totL a4) (b.map pr) with hc | hc
   rotate_left
   ·rw [hc, if_pos (by decide)]
    exact ev_neg (by decide) (Ev.now _)
   rw [hc, if_neg (by simp)]
   refine ev_pos rfl ?_
   have go : (mask.length = 0 ∨ mask.length = l.length) → Ev (fun k => r22_wrong.j2 k l mask false) (if mask.length ≠ 0 ∧ mask.any id = false then 223 else 0) := by
    intro hm
    refine Ev.step (fun k => by rw [r22_wrong.j2]) (ev_neg (by decide) ?_)
    have h := may_l mask l.length (by omega) h2 _ 0 rfl (Nat.zero_le _) (fun j hj => by omega)
    have hi := any_may mask l.length h1 hm
    by_cases c : mask.length ≠ 0 ∧ mask.any id = false
    ·rw [if_neg (fun h => hi.1 h c)] at h
     rw [if_pos c]
     exact h
    ·rw [if_pos (hi.2 c)] at h
     rw [if_neg c]
     exact h
   by_cases m0 : mask.length = 0
   ·rw [if_neg (by omega)]
    exact ev_pos (by omega) (go (Or.inl m0))
   refine ev_neg (by omega) ?_
   by_cases m1 : mask.length = l.length
   ·rw [if_neg (by omega)]
    rw [show ((mask.length : Int) != (l.length : Int)) = false by rw [m1]; simp]
    exact go (Or.inr m1)
   ·rw [if_pos ⟨m0, m1⟩]
    rw [show ((mask.length : Int) != (l.length : Int)) = true by rw [bne_iff_ne]; omega]
    exact Ev.step (fun k => by rw [r22_wrong.j2]) (ev_pos rfl (Ev.now _))
theorem wrong_ev (l : List Int) (mask : List Bool) (a0 a1 a2 a3 a4 : Int) (b : List S46) : Ev (fun k => r22_wrong.f k l mask a0 a1 a2 a3 a4 (b.map cv)) (wrongL l mask a0 a1 a2 a3 a4 (b.map pr)) := by
 have hj : ∀ k, r22_wrong.f k l mask a0 a1 a2 a3 a4 (b.map cv) = r22_wrong.j0 k l mask (decide (¬ (1 ≤ l.length ∧ l.length ≤ 512))) a0 a1 a2 a3 a4 (b.map cv) := by
  intro k
  unfold r22_wrong.f
  by_cases c : (l.length : Int) = 0
  ·rw [if_pos c, decide_eq_true (by omega)]
  ·rw [if_neg c]
   congr 1
   by_cases c2 : (l.length : Int) > 512
   ·rw [decide_eq_true c2, decide_eq_true (by omega)]
   ·rw [decide_eq_false c2, decide_eq_false (by omega)]
 refine Ev.congr hj (Ev.step (fun k => by rw [r22_wrong.j0]) ?_)
 by_cases c : 1 ≤ l.length ∧ l.length ≤ 512
 ·rw [decide_eq_false (by omega)]
  exact ev_neg (by decide) (wrong_l l mask a0 a1 a2 a3 a4 b c.1 c.2 _ 0 rfl (Nat.zero_le _) (fun j hj => by omega))
 ·rw [decide_eq_true c]
  unfold wrongL
  rw [if_pos (Or.inl c)]
  exact ev_pos rfl (Ev.now _)

/-! ### powers of two -/
theorem floor_r (x d : Int) (h1 : -9223372036854775808 ≤ x) (h2 : x ≤ 9223372036854775807) (hd : 1 ≤ d) (hd2 : d ≤ 65536) : r02_Floor.f x d = some (x / d, x % d, 0) := dist_heat.floor x d h1 h2 hd hd2
theorem halves : ∀ (d i : Nat) (n c : Int), n - (i : Int) = d → 0 ≤ c → c ≤ 9223372036854775807 → i ≤ 100 → n ≤ 100 → Ev (fun k => r02_Exp2.l0 k n c (i : Int)) (c / 2 ^ d)
 | 0, i, n, c, hd, h0, h1, hi, hn => by
  refine Ev.step (fun k => by rw [r02_Exp2.l0]) (ev_neg (by omega) ?_)
  rw [Int.pow_zero, Int.ediv_one]
  exact Ev.now _
 | d + 1, i, n, c, hd, h0, h1, hi, hn => by
  refine Ev.step (fun k => by rw [r02_Exp2.l0]) (ev_pos (by omega) ?_)
  rw [Int.tdiv_eq_ediv_of_nonneg h0, w64 (by omega) (by omega), w1 i (by omega)]
  have h := halves d (i + 1) n (c / 2) (by omega) (by omega) (by omega) (by omega) hn
  have e : c / 2 ^ (d + 1) = c / 2 / 2 ^ d := by
   rw [Int.pow_succ, Int.mul_comm, Int.ediv_ediv_of_nonneg (by omega)]
  rw [e]
  exact h
theorem exp_ev (x : Int) (h1 : -9223372036854775808 ≤ x) (h2 : x ≤ 9223372036854775807) : Ev (fun k => r02_Exp2.f k x) (expF x) := by
 have hj : ∀ k, r02_Exp2.f k x = r02_Exp2.j0 k (min x 0) := by
  intro k
  unfold r02_Exp2.f
  by_cases c : x > 0
  ·rw [if_pos c, Int.min_eq_right (by omega)]
  ·rw [if_neg c, Int.min_eq_left (by omega)]
 refine Ev.congr hj (Ev.step (fun k => by rw [r02_Exp2.j0]) (ev_is (floor_r (min x 0) 65536 (by omega) (by omega) (by omega) (by omega)) ?_))
 unfold expF
 generalize hm : min x 0 = m
 have hm0 : m ≤ 0 := by omega
 have hm1 : -9223372036854775808 ≤ m := by omega
 have hn : wrap64 (-(m / 65536)) = -(m / 65536) := w64 (by omega) (by omega)
 show Ev (fun k => if wrap64 (-(m / 65536)) ≥ 31 then some 0 else r02_Exp2.l0 k (wrap64 (-(m / 65536))) (wrap64 (1073741824 + wrap64 (Int.tdiv (wrap64 (wrap64 (747400624 + wrap64 (Int.tdiv (wrap64 (wrap64 (241400000 + wrap64 (Int.tdiv (wrap64 (84941200 * (m % 65536))) 65536)) * (m % 65536))) 65536)) * (m % 65536))) 65536))) 0) _
 rw [hn]
 by_cases c : m / 65536 ≤ -31
 ·rw [if_pos c]
  exact ev_pos (by omega) (Ev.now _)
 ·rw [if_neg c]
  refine ev_neg (by omega) ?_
  have ht : 0 ≤ m % 65536 ∧ m % 65536 < 65536 := by omega
  have s1 := step_bounds 241400000 84941200 (m % 65536) 84941200 (by omega) ht
  have s2 := step_bounds 747400624 (stepF 241400000 84941200 (m % 65536)) (m % 65536) 326341200 (by omega) ht
  have s3 := step_bounds 1073741824 (stepF 747400624 (stepF 241400000 84941200 (m % 65536)) (m % 65536)) (m % 65536) 1073741824 (by omega) ht
  have e1 : wrap64 (241400000 + wrap64 (Int.tdiv (wrap64 (84941200 * (m % 65536))) 65536)) = stepF 241400000 84941200 (m % 65536) := by
   have q := s1.2.2
   unfold stepF at q ⊢
   rw [w64 (x := 84941200 * (m % 65536)) (by omega) (by omega), w64 (x := Int.tdiv (84941200 * (m % 65536)) 65536) (by omega) (by omega), w64 (by omega) (by omega)]
  rw [e1]
  have e2 : wrap64 (747400624 + wrap64 (Int.tdiv (wrap64 (stepF 241400000 84941200 (m % 65536) * (m % 65536))) 65536)) = stepF 747400624 (stepF 241400000 84941200 (m % 65536)) (m % 65536) := by
   have q := s2.2.2
   generalize stepF 241400000 84941200 (m % 65536) = y at *
   unfold stepF at q ⊢
   rw [w64 (x := y * (m % 65536)) (by omega) (by omega), w64 (x := Int.tdiv (y * (m % 65536)) 65536) (by omega) (by omega), w64 (by omega) (by omega)]
  rw [e2]
  have e3 : wrap64 (1073741824 + wrap64 (Int.tdiv (wrap64 (stepF 747400624 (stepF 241400000 84941200 (m % 65536)) (m % 65536) * (m % 65536))) 65536)) = expY (m % 65536) := by
   have q := s3.2.2
   unfold expY
   generalize stepF 747400624 (stepF 241400000 84941200 (m % 65536)) (m % 65536) = y at *
   unfold stepF at q ⊢
   rw [w64 (x := y * (m % 65536)) (by omega) (by omega), w64 (x := Int.tdiv (y * (m % 65536)) 65536) (by omega) (by omega), w64 (by omega) (by omega)]
  rw [e3]
  have hy : 1073741824 ≤ expY (m % 65536) ∧ expY (m % 65536) ≤ 2147483648 := by
   have q := s3.2.2
   show _ ≤ stepF _ _ _ ∧ stepF _ _ _ ≤ _
   omega
  obtain ⟨d, hd⟩ : ∃ d : Nat, -(m / 65536) = (d : Int) := ⟨(-(m / 65536)).toNat, by omega⟩
  rw [hd, Int.toNat_natCast]
  exact halves d 0 (d : Int) _ (by omega) (by omega) (by omega) (by omega) (by omega)

/-! ### the loops -/
section
variable (mask : List Bool) (n : Nat) (hn : n ≤ 512) (hm : mask.length = 0 ∨ n ≤ mask.length) (a0 a1 a2 a3 a4 : Int) (ha : 1 ≤ a1 ∧ a1 ≤ 65536) (B : List S74)
include hn hm ha
theorem ref_l2_ev (m : Int) (s : List Int) (hs : s.length = n) : ∀ (d i : Nat) (o : List Int), n - i = d → i ≤ n → o.length = n → (∀ j, i ≤ j → o.getD j 0 = 0) → o.take i ++ outH (mayL mask) a0 a1 m (s.drop i) i = outH (mayL mask) a0 a1 m s 0 →
  Ev (fun k => r22_Weights.l2 k mask m o s (n : Int) (i : Int) a0 a1 a2 a3 a4 B) (finL (outH (mayL mask) a0 a1 m s 0) a2 a3 (totL a4))
 | d, i, o, hd, hi, ho, hz, he => by
  refine Ev.step (fun k => by rw [r22_Weights.l2]) ?_
  by_cases c : i < n
  ·obtain ⟨d, rfl⟩ : ∃ e, d = e + 1 := ⟨d - 1, by omega⟩
   have hio : i < o.length := by omega
   rw [drop_get s i (by omega), outH] at he
   rw [rd_nat, w1 i (by omega)]
   refine ev_pos (by omega) (ev_pos (by omega) (ev_pos (by omega) (ev_is (may_ok mask i (by omega)) ?_)))
   cases e : mayL mask i with
   | false =>
    refine ev_neg (by decide) (ref_l2_ev m s hs d (i + 1) o (by omega) (by omega) ho (fun j hj => hz j (by omega)) ?_)
    rw [e, if_neg (by decide)] at he
    rw [List.take_succ_eq_append_getElem hio]
    have hz' := hz i (Nat.le_refl _)
    rw [List.getD_eq_getElem?_getD, List.getElem?_eq_getElem hio] at hz'
    have hz2 : o[i] = 0 := hz'
    rw [hz2, List.append_assoc]
    exact he
   | true =>
    have hr : ∀ v : Int, -9223372036854775808 ≤ wrap64 v ∧ wrap64 v ≤ 9223372036854775807 := fun v => by unfold wrap64; omega
    refine ev_pos rfl (ev_is (floor_r _ a1 (hr _).1 (hr _).2 ha.1 ha.2) (Ev.bind (exp_ev _ (hr _).1 (hr _).2) (ev_pos (by omega) ?_)))
    rw [e, if_pos rfl] at he
    refine ref_l2_ev m s hs d (i + 1) _ (by omega) (by omega) (by rw [List.length_set]; exact ho) (fun j hj => ?_) ?_
    ·rw [List.getD_eq_getElem?_getD, Int.toNat_natCast, List.getElem?_set_ne (by omega)]
     have := hz j (by omega)
     rw [List.getD_eq_getElem?_getD] at this
     exact this
    ·rw [Int.toNat_natCast, List.take_succ_eq_append_getElem (by rw [List.length_set]; exact hio), List.getElem_set_self, List.take_set_of_le (Nat.le_refl _), List.append_assoc]
     exact he
  ·obtain rfl : i = n := by omega
   rw [List.drop_eq_nil_of_le (by omega), outH, List.append_nil, List.take_of_length_le (by omega)] at he
   rw [← he]
   refine ev_neg (by omega) ?_
   unfold finL cutL
   by_cases c2 : a2 > 0
   ·rw [if_pos c2]
    have ht := topL_len o a2
    refine ev_pos c2 (Ev.bind (ev_rtop o (by omega) a2) (Ev.bind (only_ev o _ (by omega) (topL_in o a2) (by omega)) ?_))
    exact ref_j3 _ (by rw [keptL_len]; omega) a0 a1 a2 a3 a4 B
   ·rw [if_neg c2]
    exact ev_neg c2 (ref_j3 o (by omega) a0 a1 a2 a3 a4 B)
theorem ref_l1_ev (s : List Int) (hs : s.length = n) : ∀ (d i : Nat) (f : Bool) (m : Int), n - i = d → i ≤ n → maxM (mayL mask) (s.drop i) i (!f) m = maxM (mayL mask) s 0 true 0 →
  Ev (fun k => r22_Weights.l1 k mask s m f s (n : Int) (i : Int) a0 a1 a2 a3 a4 B) (finL (heats mask a0 a1 s) a2 a3 (totL a4))
 | d, i, f, m, hd, hi, he => by
  refine Ev.step (fun k => by rw [r22_Weights.l1]) ?_
  by_cases c : i < n
  ·obtain ⟨d, rfl⟩ : ∃ e, d = e + 1 := ⟨d - 1, by omega⟩
   rw [drop_get s i (by omega), maxM] at he
   rw [rd_nat, w1 i (by omega)]
   refine ev_pos (by omega) (ev_pos (by omega) (ev_pos (by omega) (ev_is (may_ok mask i (by omega)) ?_)))
   cases e : mayL mask i with
   | false =>
    rw [if_neg (by rw [e]; simp)] at he
    exact ev_neg (by decide) (ref_l1_ev s hs d (i + 1) f m (by omega) (by omega) he)
   | true =>
    refine ev_pos rfl ?_
    cases f with
    | false =>
     rw [if_pos ⟨e, Or.inl rfl⟩] at he
     exact ev_neg (by decide) (ref_l1_ev s hs d (i + 1) true _ (by omega) (by omega) he)
    | true =>
     refine ev_pos rfl ?_
     by_cases g : s.getD i 0 > m
     ·rw [if_pos ⟨e, Or.inr g⟩] at he
      exact ev_pos g (ref_l1_ev s hs d (i + 1) true _ (by omega) (by omega) he)
     ·rw [if_neg (by rintro ⟨_, h | h⟩; cases h; exact g h)] at he
      exact ev_neg g (ref_l1_ev s hs d (i + 1) true m (by omega) (by omega) he)
  ·obtain rfl : i = n := by omega
   rw [List.drop_eq_nil_of_le (by omega), maxM] at he
   subst he
   rw [hs]
   refine ev_neg (by omega) (ev_pos (by omega) (ev_pos (by omega) ?_))
   rw [Int.toNat_natCast]
   exact ref_l2_ev mask i hn hm a0 a1 a2 a3 a4 ha B _ s hs _ 0 _ rfl (Nat.zero_le _) List.length_replicate (by intro j _; simp [List.getD_eq_getElem?_getD, List.getElem?_replicate]; split <;> rfl) rfl
theorem ref_l0_ev (b : List S46) (hb : b.length ≤ 64) (s0 : List Int) : ∀ (d i : Nat) (s : List Int), b.length - i = d → i ≤ b.length → s.length = n → addB s ((b.drop i).map pr) = some s0 →
  Ev (fun k => r22_Weights.l0 k mask s (b.map cv) (b.length : Int) (i : Int) a0 a1 a2 a3 a4 B) (finL (heats mask a0 a1 s0) a2 a3 (totL a4))
 | d, i, s, hd, hi, hs, he => by
  refine Ev.step (fun k => by rw [r22_Weights.l0]) ?_
  have hml : (b.map cv).length = b.length := List.length_map _
  by_cases c : i < b.length
  ·obtain ⟨d, rfl⟩ : ∃ e, d = e + 1 := ⟨d - 1, by omega⟩
   rw [List.drop_eq_getElem_cons c, List.map_cons, addB] at he
   split at he
   ·rename_i hin
    have hr : rd_T74 (b.map cv) (i : Int) = cv b[i] := by rw [rd74 _ i (by omega), List.getElem_map]
    rw [hr, w1 i (by omega)]
    exact ev_pos (by omega) (ev_pos (by omega) (ev_pos (by omega) (ev_pos hin.1 (ev_pos hin.2 (ref_l0_ev b hb s0 d (i + 1) _ (by omega) (by omega) (by rw [List.length_set]; exact hs) he)))))
   ·cases he
  ·obtain rfl : i = b.length := by omega
   rw [List.drop_eq_nil_of_le (Nat.le_refl _), List.map_nil, addB] at he
   injection he with he
   subst he
   refine ev_neg (by omega) ?_
   rw [hs]
   exact ref_l1_ev mask n hn hm a0 a1 a2 a3 a4 ha B s hs _ 0 false 0 rfl (Nat.zero_le _) rfl
end
theorem ref_weights (l : List Int) (mask : List Bool) (a0 a1 a2 a3 a4 : Int) (b : List S46) (hl : l.length < 17592186044416) : Ev (fun k => r22_Weights.f k l mask a0 a1 a2 a3 a4 (b.map cv)) (weightsL l mask a0 a1 a2 a3 a4 (b.map pr)) := by
 unfold r22_Weights.f
 refine Ev.bind (wrong_ev l mask a0 a1 a2 a3 a4 b) ?_
 unfold wrongL weightsL
 by_cases c1 : ¬ (1 ≤ l.length ∧ l.length ≤ 512) ∨ l.any wrongS = true
 ·rw [if_pos c1, if_pos c1]; exact ev_neg (by decide) (Ev.now _)
 rw [if_neg c1, if_neg c1]
 by_cases c2 : checkL a0 a1 a2 a3 l.length (totL a4) (b.map pr) ≠ 0
 ·rw [if_pos c2, if_pos c2]; exact ev_neg (by decide) (Ev.now _)
 rw [if_neg c2, if_neg c2]
 by_cases c3 : mask.length ≠ 0 ∧ mask.length ≠ l.length
 ·rw [if_pos c3, if_pos c3]; exact ev_neg (by decide) (Ev.now _)
 rw [if_neg c3, if_neg c3]
 by_cases c4 : mask.length ≠ 0 ∧ mask.any id = false
 ·rw [if_pos c4, if_pos c4]; exact ev_neg (by decide) (Ev.now _)
 rw [if_neg c4, if_neg c4]
 have hc : checkL a0 a1 a2 a3 l.length (totL a4) (b.map pr) = 0 := Decidable.byContradiction c2
 obtain ⟨⟨_, _, r1, r2, r3⟩, hT, hbl, hbi⟩ := check_ok hc
 obtain ⟨s, hs⟩ := addB_some (b.map pr) l hbi
 have hsl := addB_length _ _ _ hs
 have hbl' : b.length ≤ 64 := by rw [List.length_map] at hbl; exact hbl
 have c1' : 1 ≤ l.length ∧ l.length ≤ 512 := Decidable.byContradiction fun h => c1 (Or.inl h)
 refine ev_pos rfl (ev_some (ev_pos (by simp; omega) ?_))
 rw [List.nil_append]
 unfold summed
 rw [hs, show ((b.map cv).length : Int) = (b.length : Int) by rw [List.length_map]]
 exact ref_l0_ev mask l.length c1'.2 (by omega) a0 a1 a2 a3 a4 r1 (b.map cv) b hbl' s _ 0 l rfl (Nat.zero_le _) rfl hs
end Go.Proofs.Ythmckhfjaleomaa.Pure
/- dist: what the laws begin with; two lists compared. -/
namespace Go.Proofs.Ythmckhfjaleomaa.Pure
set_option linter.unusedSimpArgs false
set_option linter.unusedVariables false
open Go.RowKit Go.Proofs.YthmckhfjaleomaaW.PrintWords Go.Proofs.YthmckhfjaleomaaW.PrintLast Go.Proofs.YthmckhfjaleomaaW.PrintMore Go.Proofs.Ythmckhfjaleomaa.T Go.Proofs.Ythmckhfjaleomaa.St

instance (l : List Int) : DecidableRel (Ahead l) := fun a b => by unfold Ahead; infer_instance
theorem order_a : orderL [1073741824, 536870912] = [0, 1] := by
 have h : orderN [1073741824, 536870912] = [0, 1] := order_unique [1073741824, 536870912] _ _ ((orderN_spec [1073741824, 536870912]).1.trans (by decide)) (orderN_spec [1073741824, 536870912]).2 (by decide)
 rw [orderL_eq, h]
 rfl
theorem share_a : shareL [1073741824, 536870912] 4 = ([3, 1], 0) := by
 have hs : sumL [1073741824, 536870912] = (1610612736, 0) := by decide +kernel
 have hr : rests [1073741824, 536870912] 4 1610612736 = [1073741824, 536870912] := by decide +kernel
 unfold shareL
 rw [hs]
 show (if (4 : Int) < 1 ∨ 4 > 4294967296 then ([], 1) else if (0 : Int) ≠ 0 then ([], 0) else (bump (quos [1073741824, 536870912] 4 1610612736) ((orderL (rests [1073741824, 536870912] 4 1610612736)).take (missing [1073741824, 536870912] 4 1610612736).toNat), 0)) = _
 rw [hr, order_a]
 decide +kernel
theorem nuc_a : nucL [1073741824, 536870912] 65536 = ([0, 1], 0) := by
 have hs : sumL [1073741824, 536870912] = (1610612736, 0) := by decide +kernel
 unfold nucL
 rw [hs, order_a]
 decide +kernel
theorem weights_a : weightsL [256, 0] [] 1 1 0 65536 2 [] = ([3, 1], 0) := by
 have h1 : heats [] 1 1 (summed [256, 0] []) = [1073741824, 536870912] := by decide +kernel
 have h2 : checkL 1 1 0 65536 (([256, 0] : List Int).length : Int) (totL 2) [] = 0 := by decide +kernel
 have h3 : ([256, 0] : List Int).any wrongS = false := by decide +kernel
 unfold weightsL
 rw [h3, h2, h1, if_neg (by simp), if_neg (by simp), if_neg (by simp), if_neg (by simp)]
 unfold finL endL
 rw [show cutL [1073741824, 536870912] 0 = [1073741824, 536870912] by unfold cutL; rw [if_neg (by omega)], nuc_a, show keptL [1073741824, 536870912] [0, 1] = [1073741824, 536870912] by decide +kernel, show totL 2 = 4 by decide, share_a]
theorem awake : Ev (fun k => w22_awake.f k) true := by
 unfold w22_awake.f
 have h := own_weights [256, 0] [] 1 1 0 65536 2 [] (by decide) (by decide) (by decide)
 rw [show ([] : List S46).map pr = [] from rfl, weights_a] at h
 refine Ev.bind h ?_
 exact ev_pos rfl (ev_pos (by decide) (ev_pos (by decide) (ev_pos (by decide) (ev_pos (by decide) (by
  rw [show (rd ([3, 1] : List Int) 1 == 1) = true by decide]
  exact Ev.now _)))))
theorem same_l (l : List Int) (hl : l.length < 4611686018427387904) : ∀ (d i : Nat), l.length - i = d → i ≤ l.length → Ev (fun k => w22_same.l0 k l l (l.length : Int) (i : Int)) true
 | d, i, hd, hi => by
  refine Ev.step (fun k => by rw [w22_same.l0]) ?_
  by_cases c : i < l.length
  ·obtain ⟨d, rfl⟩ : ∃ e, d = e + 1 := ⟨d - 1, by omega⟩
   rw [w1 i (by omega)]
   exact ev_pos (by omega) (ev_pos (by omega) (ev_pos (by omega) (ev_pos (by omega) (ev_pos rfl (same_l l hl d (i + 1) (by omega) (by omega))))))
  ·exact ev_neg (by omega) (Ev.now _)
theorem same_ev (l : List Int) (hl : l.length < 4611686018427387904) : Ev (fun k => w22_same.f k l l) true := by
 unfold w22_same.f
 exact ev_pos rfl (same_l l hl _ 0 rfl (Nat.zero_le _))
theorem length_share' (l : List Int) (t : Int) : (shareL l t).1.length ≤ l.length := length_share l t
theorem weightsL_len (l : List Int) (mask : List Bool) (a0 a1 a2 a3 a4 : Int) (b : List (Int × Int)) : (weightsL l mask a0 a1 a2 a3 a4 b).1.length ≤ 512 := by
 unfold weightsL
 split
 ·exact Nat.zero_le _
 ·rename_i c1
  split
  ·exact Nat.zero_le _
  ·rename_i c2
   split
   ·exact Nat.zero_le _
   ·split
    ·exact Nat.zero_le _
    ·have hc : checkL a0 a1 a2 a3 l.length (totL a4) b = 0 := Decidable.byContradiction c2
     obtain ⟨_, _, _, hbi⟩ := check_ok hc
     obtain ⟨s, hs⟩ := addB_some b l hbi
     have hsl := addB_length _ _ _ hs
     unfold finL endL
     have h := length_share (keptL (cutL (heats mask a0 a1 (summed l b)) a2) (nucL (cutL (heats mask a0 a1 (summed l b)) a2) a3).1) (totL a4)
     rw [keptL_len, cutL_len, heats_len] at h
     unfold summed at h ⊢
     rw [hs] at h ⊢
     have h' : (shareL (keptL (cutL (heats mask a0 a1 s) a2) (nucL (cutL (heats mask a0 a1 s) a2) a3).1) (totL a4)).1.length ≤ s.length := h
     have : 1 ≤ l.length ∧ l.length ≤ 512 := Decidable.byContradiction fun h => c1 (Or.inl h)
     show (shareL (keptL (cutL (heats mask a0 a1 s) a2) (nucL (cutL (heats mask a0 a1 s) a2) a3).1) (totL a4)).1.length ≤ 512
     omega
end Go.Proofs.Ythmckhfjaleomaa.Pure
