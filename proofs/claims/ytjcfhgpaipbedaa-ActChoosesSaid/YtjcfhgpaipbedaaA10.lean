-- Printed by this session's own driver (wip/tools/xprint.py) over the kit's printer; given functions are this session's own.
import Derived.Test.YtjcfhgpaipbedaaA0
import Derived.Test.YtjcfhgpaipbedaaA4
namespace Go.Proofs.Ytjcfhgpaipbedaa.A
open Go.RowKit Go.Proofs.YtjcfhgpaipbedaaW.PrintWords Go.Proofs.YtjcfhgpaipbedaaW.PrintLast Go.Proofs.YtjcfhgpaipbedaaW.PrintMore
attribute [local go_sem] max2_int min2_int max_two min_two max_three min_three max_four min_four   -- for this text's walks alone
set_option linter.unusedVariables false
set_option linter.unusedSimpArgs false

/-! ### r08_Matrix: function 56 -/
def r08_Matrix.f (l0 : List Int) (a1 : Int) : Option (Int) := if (l0.length : Int) > 1048576 then (some 81) else (if a1 < 1 then (some 80) else (if a1 = 0 then (none) else (if ((l0.length : Int) % a1) = 0 then (some 0) else (some 80))))
set_option maxHeartbeats 8000000 in
set_option maxRecDepth 100000 in
theorem r08_Matrix.calls (A0 : Option Addr) (c0 : Nat) (l0 : List Int) (a1 : Int) (r : Int) (w : World) (hr0 : Kd.C (Kd.int .i8) w A0 l0.length l0) (hc0 : l0.length ≤ c0) (h : r08_Matrix.f l0 a1 = some r) :
  Calls Try.prog 56 #[.slice A0 l0.length c0, .int .i64 a1] w fun e w' => e = .returned (.int .i64 r) ∧ Drawn0 w w' := by
 have HR0 := zK hr0
 have HC0 := zK hc0
 clear hr0 hc0
 have H : (if (l0.length : Int) > 1048576 then (some 81) else (if a1 < 1 then (some 80) else (if a1 = 0 then (none) else (if ((l0.length : Int) % a1) = 0 then (some 0) else (some 80))))) = some r := h
 clear h
 by_cases c3 : (l0.length : Int) > 1048576
 ·rw [if_pos c3] at H
  have c3b0 : decide (1048576 < (l0.length : Int)) = true := yC c3
  have c3b1 : decide (1048576 < l0.length) = true := yC (by omega)
  clear c3
  obtain rfl := yY H
  go_enter Try.func56, Try.ntmps56
  go_wp2
  go_ret
  exact ⟨by first | rfl | (simp; done) | (simp [*]; done), by repeat (first | exact Drawn0.refl _ | apply Drawn0.step)⟩
 ·rw [if_neg c3] at H
  have c3b0 : decide (1048576 < (l0.length : Int)) = false := yD c3
  have c3b1 : decide (1048576 < l0.length) = false := yD (by omega)
  clear c3
  by_cases c4 : a1 < 1
  ·rw [if_pos c4] at H
   have c4b0 : decide (a1 < 1) = true := yC c4
   clear c4
   obtain rfl := yY H
   go_enter Try.func56, Try.ntmps56
   go_wp2
   go_ret
   exact ⟨by first | rfl | (simp; done) | (simp [*]; done), by repeat (first | exact Drawn0.refl _ | apply Drawn0.step)⟩
  ·rw [if_neg c4] at H
   have c4b0 : decide (a1 < 1) = false := yD c4
   clear c4
   by_cases c5 : a1 = 0
   ·rw [if_pos c5] at H
    exact absurd H (by simp)
   ·rw [if_neg c5] at H
    have c5b0 : (a1 == 0) = false := beq_eq_false_iff_ne.mpr c5
    have c5b1 : (a1 != 0) = true := bne_iff_ne.mpr c5
    by_cases c6 : ((l0.length : Int) % a1) = 0
    ·rw [if_pos c6] at H
     have c6b0 : (((l0.length : Int) % a1) == 0) = true := beq_iff_eq.mpr c6
     have c6b1 : (((l0.length : Int) % a1) != 0) = false := bne_eq_false_iff_eq.mpr c6
     clear c6
     obtain rfl := yY H
     go_enter Try.func56, Try.ntmps56
     go_wp2
     go_ret
     exact ⟨by first | rfl | (simp; done) | (simp [*]; done), by repeat (first | exact Drawn0.refl _ | apply Drawn0.step)⟩
    ·rw [if_neg c6] at H
     have c6b0 : (((l0.length : Int) % a1) == 0) = false := beq_eq_false_iff_ne.mpr c6
     have c6b1 : (((l0.length : Int) % a1) != 0) = true := bne_iff_ne.mpr c6
     obtain rfl := yY H
     go_enter Try.func56, Try.ntmps56
     go_wp2
     go_ret
     exact ⟨by first | rfl | (simp; done) | (simp [*]; done), by repeat (first | exact Drawn0.refl _ | apply Drawn0.step)⟩

/-! ### r08_Dot: function 57 -/
mutual
def r08_Dot.j0 : Nat → List Int → List Int → Bool → Option (Int × Int)
 | 0, _, _, _ => none
 | k + 1, x0, x1, x15 => if x15 = true then (some (0, 81)) else (if (x0.length : Int) = (x1.length : Int) then (r08_Dot.l0 k x0 x1 0 (x0.length : Int) 0) else (some (0, 80)))
def r08_Dot.l0 : Nat → List Int → List Int → Int → Int → Int → Option (Int × Int)
 | 0, _, _, _, _, _ => none
 | k + 1, x0, x1, x6, x22, x23 => if x23 < x22 then (if 0 ≤ x23 then (if x23 < (x0.length : Int) then (if x23 < (x1.length : Int) then (r08_Dot.l0 k x0 x1 (wrap64 (x6 + (wrap64 ((wrap64 (rd x0 x23)) * (wrap64 (rd x1 x23)))))) x22 (wrap64 (x23 + 1))) else (none)) else (none)) else (none)) else (some (x6, 0))
end
def r08_Dot.f (k : Nat) (l0 : List Int) (l1 : List Int) : Option (Int × Int) := if (l0.length : Int) > 1048576 then (r08_Dot.j0 k l0 l1 true) else (r08_Dot.j0 k l0 l1 (decide ((l1.length : Int) > 1048576)))
theorem r08_Dot.mono_l : ∀ k, (∀ y0 y1 y2, LeO (r08_Dot.j0 k y0 y1 y2) (r08_Dot.j0 (k + 1) y0 y1 y2)) ∧ (∀ y0 y1 y2 y3 y4, LeO (r08_Dot.l0 k y0 y1 y2 y3 y4) (r08_Dot.l0 (k + 1) y0 y1 y2 y3 y4))
 | 0 => ⟨fun _ _ _ r h => by simp [r08_Dot.j0] at h, fun _ _ _ _ _ r h => by simp [r08_Dot.l0] at h⟩
 | k + 1 => by
  obtain ⟨ih0, ih1⟩ := r08_Dot.mono_l k
  refine ⟨?_, ?_⟩ <;> (intros; first | unfold r08_Dot.j0 | unfold r08_Dot.l0)
  all_goals repeat' first
   | (with_reducible exact ih0 _ _ _)
   | (with_reducible exact ih1 _ _ _ _ _)
   | (with_reducible exact yR _)
   | (with_reducible exact yO _)
   | (with_reducible refine yQ ?_ ?_)
   | (with_reducible refine yP ?_ (fun _ => ?_))
   | exact ih0 _ _ _
   | exact ih1 _ _ _ _ _
   | exact yO _
   | refine yQ ?_ ?_
   | refine yP ?_ (fun _ => ?_)
theorem r08_Dot.mono : ∀ a0 a1 k, LeO (r08_Dot.f k a0 a1) (r08_Dot.f (k + 1) a0 a1) := by
 intro a0 a1 k
 obtain ⟨ih0, ih1⟩ := r08_Dot.mono_l k
 unfold r08_Dot.f
 repeat' first
   | (with_reducible exact ih0 _ _ _)
   | (with_reducible exact ih1 _ _ _ _ _)
   | (with_reducible exact yR _)
   | (with_reducible exact yO _)
   | (with_reducible refine yQ ?_ ?_)
   | (with_reducible refine yP ?_ (fun _ => ?_))
   | exact ih0 _ _ _
   | exact ih1 _ _ _ _ _
   | exact yO _
   | refine yQ ?_ ?_
   | refine yP ?_ (fun _ => ?_)
set_option maxHeartbeats 8000000 in
set_option maxRecDepth 100000 in
theorem r08_Dot.calls (k : Nat) (A0 : Option Addr) (c0 : Nat) (l0 : List Int) (A1 : Option Addr) (c1 : Nat) (l1 : List Int) (r1 : Int) (r2 : Int) (w : World) (hr0 : Kd.C (Kd.int .i8) w A0 l0.length l0) (hc0 : l0.length ≤ c0) (hr1 : Kd.C (Kd.int .i8) w A1 l1.length l1) (hc1 : l1.length ≤ c1) (h : r08_Dot.f k l0 l1 = some (r1, r2)) :
  Calls Try.prog 57 #[.slice A0 l0.length c0, .slice A1 l1.length c1] w fun e w' => e = .returned (.tuple #[.int .i64 r1, .int .i64 r2]) ∧ Drawn0 w w' := by
 have HR0 := zK hr0
 have HC0 := zK hc0
 clear hr0 hc0
 have HR1 := zK hr1
 have HC1 := zK hc1
 clear hr1 hc1
 have H : (if (l0.length : Int) > 1048576 then (r08_Dot.j0 k l0 l1 true) else (r08_Dot.j0 k l0 l1 (decide ((l1.length : Int) > 1048576)))) = some (r1, r2) := h
 clear h
 have HC3 := zK H
 clear H
 go_enter Try.func57, Try.ntmps57
 go_upto_region 1 with (fail)
 repeat (go_quiet (fail); go_upto_region 1 with (fail))
 go_cut [15] (fun v15 wc => ∃ (kq : Nat) (x15_2 : Bool), v15 = .bool x15_2 ∧ Aside0 (r08_Dot.j0 kq l0 l1 x15_2 = some (r1, r2)) ∧ Aside0 (kq ≤ k) ∧ Drawn0 w wc)
 case first =>
  have H := HC3.out
  clear HC3
  by_cases c4 : (l0.length : Int) > 1048576
  ·rw [if_pos c4] at H
   have c4b0 : decide (1048576 < (l0.length : Int)) = true := yC c4
   have c4b1 : decide (1048576 < l0.length) = true := yC (by omega)
   clear c4
   (first | rw [c4b0] | (simp only [i64_w, i32_w]; rw [c4b0]) | skip)
   have H' := zK H
   clear H
   go_wp2
   repeat (go_quiet (fail); try go_wp2)
   go_meet
   case rel => exact ⟨_, (true), (by first | rfl | (simp; done) | (simp [*]; done)), H', ⟨by first | omega | exact yN _⟩, by repeat (first | exact Drawn0.refl _ | apply Drawn0.step)⟩
  ·rw [if_neg c4] at H
   have c4b0 : decide (1048576 < (l0.length : Int)) = false := yD c4
   have c4b1 : decide (1048576 < l0.length) = false := yD (by omega)
   clear c4
   (first | rw [c4b0] | (simp only [i64_w, i32_w]; rw [c4b0]) | skip)
   have H' := zK H
   clear H
   go_wp2
   repeat (go_quiet (fail); try go_wp2)
   go_meet
   case rel => exact ⟨_, (decide ((l1.length : Int) > 1048576)), (by first | rfl | (simp; done) | (simp [*]; done)), H', ⟨by first | omega | exact yN _⟩, by repeat (first | exact Drawn0.refl _ | apply Drawn0.step)⟩
 case rest =>
  clear HC3
  try clear c1
  try clear p2
  try clear c4
  try clear c4b0
  try clear c4b1
  obtain ⟨kq, x15_2, rfl, HA, HJ2, ⟨mc2, rfl⟩⟩ := hcut
  cases kq with
  | zero => exact absurd HA.out (by simp [r08_Dot.j0])
  | succ kj2 =>
   have H := HA.out
   clear HA
   simp only [r08_Dot.j0] at H
   by_cases c5 : x15_2 = true
   ·subst c5
    have H1 : (some (0, 81)) = some (r1, r2) := by rw [if_pos rfl] at H; exact H
    clear H
    have H := H1
    clear H1
    simp only [yZ, ya] at H
    obtain ⟨rfl, rfl⟩ := H
    go_wp2
    repeat (go_quiet (fail); try go_wp2)
    go_ret2
    exact ⟨by first | rfl | (simp; done) | (simp [*]; done), by repeat (first | exact Drawn0.refl _ | apply Drawn0.step)⟩
   ·replace c5 := yh.mpr c5
    subst c5
    have H1 : (if (l0.length : Int) = (l1.length : Int) then (r08_Dot.l0 kj2 l0 l1 0 (l0.length : Int) 0) else (some (0, 80))) = some (r1, r2) := by rw [if_neg (show ¬ (false = true) by decide)] at H; exact H
    clear H
    have H := H1
    clear H1
    by_cases c6 : (l0.length : Int) = (l1.length : Int)
    ·rw [if_pos c6] at H
     have c6b0 : ((l0.length : Int) == (l1.length : Int)) = true := beq_iff_eq.mpr c6
     have c6b1 : ((l0.length : Int) != (l1.length : Int)) = false := bne_eq_false_iff_eq.mpr c6
     have c6b2 : (l0.length == l1.length) = true := by first | simpa using c6 | (simp at c6 ⊢; omega)
     clear c6
     have H' := zK H
     clear H
     go_wp2
     repeat (go_quiet (fail); try go_wp2)
     go_loopg [6, 23] kj2 (fun kq v6 v23 w' => ∃ (x6_2 : Int) (x23_2 : Int), v6 = .int .i64 x6_2 ∧ v23 = .int .i64 x23_2 ∧ Aside0 (r08_Dot.l0 kq l0 l1 x6_2 (l0.length : Int) x23_2 = some (r1, r2)) ∧ Aside0 (kq ≤ kj2) ∧ Drawn0 w w')
     case atStart => exact ⟨(0), (0), (by first | rfl | (simp; done) | (simp [*]; done)), (by first | rfl | (simp; done) | (simp [*]; done)), H', ⟨yN _⟩, by repeat (first | exact Drawn0.refl _ | apply Drawn0.step)⟩
     case round =>
      clear H'
      try clear c1
      try clear c2
      try clear p2
      try clear c4
      try clear c4b0
      try clear c4b1
      try clear c5
      try clear c6
      try clear c6b0
      try clear c6b1
      try clear c6b2
      try clear p2
      obtain ⟨x6_2, x23_2, rfl, rfl, HA, HK2, ⟨m2, rfl⟩⟩ := hrel
      cases gk with
      | zero => exact absurd HA.out (by simp [r08_Dot.l0])
      | succ k2 =>
       have H := HA.out
       clear HA
       simp only [r08_Dot.l0] at H
       by_cases c7 : x23_2 < (l0.length : Int)
       ·rw [if_pos c7] at H
        have c7b0 : decide (x23_2 < (l0.length : Int)) = true := yC c7
        clear c7
        by_cases c8 : 0 ≤ x23_2
        ·rw [if_pos c8] at H
         have c8b0 : decide (0 ≤ x23_2) = true := yC c8
         clear c8
         by_cases c9 : x23_2 < (l0.length : Int)
         ·rw [if_pos c9] at H
          have c9b0 : decide (x23_2 < (l0.length : Int)) = true := yC c9
          clear c9
          by_cases c10 : x23_2 < (l1.length : Int)
          ·rw [if_pos c10] at H
           have c10b0 : decide (x23_2 < (l1.length : Int)) = true := yC c10
           clear c10
           have H' := zK H
           clear H
           have p323 : 0 ≤ (x23_2 : Int) := yB (by first | (with_reducible assumption) | assumption)
           have q323 : x23_2 < (l0.length : Int) := yB (by first | (with_reducible assumption) | assumption)
           obtain ⟨ad323, e323, hx323_0⟩ := Kd.at_int HR0.out x23_2 p323 q323
           cases e323
           replace p323 := yg p323
           replace q323 := yg q323
           have p324 : 0 ≤ (x23_2 : Int) := yB (by first | (with_reducible assumption) | assumption)
           have q324 : x23_2 < (l1.length : Int) := yB (by first | (with_reducible assumption) | assumption)
           obtain ⟨ad324, e324, hx324_0⟩ := Kd.at_int HR1.out x23_2 p324 q324
           cases e324
           replace p324 := yg p324
           replace q324 := yg q324
           go_wp2
           repeat (go_quiet (fail); try go_wp2)
           go_roundg k2
           case measure => have := HJ2.out; have := HK2.out; omega
           case rel => exact ⟨(wrap64 (x6_2 + (wrap64 ((wrap64 (rd l0 x23_2)) * (wrap64 (rd l1 x23_2)))))), (wrap64 (x23_2 + 1)), (by first | rfl | (simp; done) | (simp [*]; done)), (by first | rfl | (simp; done) | (simp [*]; done)), H', ⟨by have := HJ2.out; have := HK2.out; omega⟩, by repeat (first | exact Drawn0.refl _ | apply Drawn0.step)⟩
          ·rw [if_neg c10] at H
           exact absurd H (by simp)
         ·rw [if_neg c9] at H
          exact absurd H (by simp)
        ·rw [if_neg c8] at H
         exact absurd H (by simp)
       ·rw [if_neg c7] at H
        have c7b0 : decide (x23_2 < (l0.length : Int)) = false := yD c7
        clear c7
        simp only [yZ, ya] at H
        obtain ⟨rfl, rfl⟩ := H
        go_wp2
        repeat (go_quiet (fail); try go_wp2)
        go_ret2
        exact ⟨by first | rfl | (simp; done) | (simp [*]; done), by repeat (first | exact Drawn0.refl _ | apply Drawn0.step)⟩
    ·rw [if_neg c6] at H
     have c6b0 : ((l0.length : Int) == (l1.length : Int)) = false := beq_eq_false_iff_ne.mpr c6
     have c6b1 : ((l0.length : Int) != (l1.length : Int)) = true := bne_iff_ne.mpr c6
     have c6b2 : (l0.length == l1.length) = false := by first | simpa using c6 | (simp at c6 ⊢; omega)
     simp only [yZ, ya] at H
     obtain ⟨rfl, rfl⟩ := H
     go_wp2
     repeat (go_quiet (fail); try go_wp2)
     go_ret2
     exact ⟨by first | rfl | (simp; done) | (simp [*]; done), by repeat (first | exact Drawn0.refl _ | apply Drawn0.step)⟩

/-! ### r08_Times: function 34 -/
def r08_Times.l0 : Nat → List Int → Int → List Int → List Int → Int → Option (List Int × Int)
 | 0, _, _, _, _, _ => none
 | k + 1, x0, x1, x2, x9, x10 => if x10 < (x0.length : Int) then (if 0 ≤ x10 then (if x10 ≤ (wrap64 (x10 + x1)) then (if (wrap64 (x10 + x1)) ≤ (x0.length : Int) then ((r08_Dot.f k ((x0.take ((wrap64 (x10 + x1)) : Int).toNat).drop (x10 : Int).toNat) x2).bind fun bt330 => (if x9.length < 17592186044416 then (r08_Times.l0 k x0 x1 x2 (x9 ++ [bt330.1]) (wrap64 (x10 + x1))) else (none))) else (none)) else (none)) else (none)) else (some (x9, 0))
def r08_Times.f (k : Nat) (l0 : List Int) (a1 : Int) (l2 : List Int) : Option (List Int × Int) := (r08_Matrix.f l0 a1).bind fun t325 => (if t325 = 0 then (if (l2.length : Int) = a1 then (r08_Times.l0 k l0 a1 l2 (([] : List Int)) 0) else (some (([] : List Int), 80))) else (some (([] : List Int), t325)))
theorem r08_Times.mono_l : ∀ k, (∀ y0 y1 y2 y3 y4, LeO (r08_Times.l0 k y0 y1 y2 y3 y4) (r08_Times.l0 (k + 1) y0 y1 y2 y3 y4))
 | 0 => fun _ _ _ _ _ r h => by simp [r08_Times.l0] at h
 | k + 1 => by
  have ih0 := r08_Times.mono_l k
  intros
  unfold r08_Times.l0
  all_goals repeat' first
   | (with_reducible exact ih0 _ _ _ _ _)
   | (with_reducible exact r08_Dot.mono _ _ _)
   | (with_reducible exact yR _)
   | (with_reducible exact yO _)
   | (with_reducible refine yQ ?_ ?_)
   | (with_reducible refine yP ?_ (fun _ => ?_))
   | exact ih0 _ _ _ _ _
   | exact r08_Dot.mono _ _ _
   | exact yO _
   | refine yQ ?_ ?_
   | refine yP ?_ (fun _ => ?_)
theorem r08_Times.mono : ∀ a0 a1 a2 k, LeO (r08_Times.f k a0 a1 a2) (r08_Times.f (k + 1) a0 a1 a2) := by
 intro a0 a1 a2 k
 have ih0 := r08_Times.mono_l k
 unfold r08_Times.f
 repeat' first
   | (with_reducible exact ih0 _ _ _ _ _)
   | (with_reducible exact r08_Dot.mono _ _ _)
   | (with_reducible exact yR _)
   | (with_reducible exact yO _)
   | (with_reducible refine yQ ?_ ?_)
   | (with_reducible refine yP ?_ (fun _ => ?_))
   | exact ih0 _ _ _ _ _
   | exact r08_Dot.mono _ _ _
   | exact yO _
   | refine yQ ?_ ?_
   | refine yP ?_ (fun _ => ?_)
set_option maxHeartbeats 8000000 in
set_option maxRecDepth 100000 in
theorem r08_Times.calls (k : Nat) (A0 : Option Addr) (c0 : Nat) (l0 : List Int) (a1 : Int) (A2 : Option Addr) (c2 : Nat) (l2 : List Int) (r1 : List Int) (r2 : Int) (w : World) (hr0 : Kd.C (Kd.int .i8) w A0 l0.length l0) (hc0 : l0.length ≤ c0) (hr2 : Kd.C (Kd.int .i8) w A2 l2.length l2) (hc2 : l2.length ≤ c2) (h : r08_Times.f k l0 a1 l2 = some (r1, r2)) :
  Calls Try.prog 34 #[.slice A0 l0.length c0, .int .i64 a1, .slice A2 l2.length c2] w fun e w' => ∃ v0_ : Value, e = .returned (.tuple #[v0_, .int .i64 r2]) ∧ Kd.R (Kd.int .i64) 2 w' w.heap.size (fun _ => True) v0_ r1 ∧ Below w.heap.size w w' := by
 have HR0 := zK hr0
 have HC0 := zK hc0
 clear hr0 hc0
 have HR2 := zK hr2
 have HC2 := zK hc2
 clear hr2 hc2
 have HB := zK (Below.refl w.heap.size w)
 have H : ((r08_Matrix.f l0 a1).bind fun t325 => (if t325 = 0 then (if (l2.length : Int) = a1 then (r08_Times.l0 k l0 a1 l2 (([] : List Int)) 0) else (some (([] : List Int), 80))) else (some (([] : List Int), t325)))) = some (r1, r2) := h
 clear h
 replace H := yA.mp H
 obtain ⟨t325, A40, H⟩ := H
 replace H : (if t325 = 0 then (if (l2.length : Int) = a1 then (r08_Times.l0 k l0 a1 l2 (([] : List Int)) 0) else (some (([] : List Int), 80))) else (some (([] : List Int), t325))) = some (r1, r2) := H
 have A4 := zK A40
 clear A40
 by_cases c5 : t325 = 0
 ·rw [if_pos c5] at H
  have c5b0 : (t325 == 0) = true := beq_iff_eq.mpr c5
  have c5b1 : (t325 != 0) = false := bne_eq_false_iff_eq.mpr c5
  clear c5
  by_cases c6 : (l2.length : Int) = a1
  ·rw [if_pos c6] at H
   have c6b0 : ((l2.length : Int) == a1) = true := beq_iff_eq.mpr c6
   have c6b1 : ((l2.length : Int) != a1) = false := bne_eq_false_iff_eq.mpr c6
   clear c6
   obtain ⟨y326, hy326⟩ : ∃ y_ : List Int, y_ = (([] : List Int)) := ⟨_, rfl⟩
   replace H : (r08_Times.l0 k l0 a1 l2 y326 0) = some (r1, r2) := by first | (rw [hy326]; with_reducible exact H) | (have H2_ := (yV _ _).symm.trans H; rw [hy326]; with_reducible exact H2_) | (have H2_ := (yV _ _).symm.trans H; with_reducible exact H2_) | with_reducible exact H | (rw [hy326]; exact H) | exact H
   have Ny326 := zK hy326
   clear hy326
   have H' := zK H
   clear H
   go_enter Try.func34, Try.ntmps34
   go_wp2_with (first | ((with_reducible refine gate_callee (f := 56) rfl ?_); refine goesL_ (some 15) rfl rfl Try.func56 (by kernel_rfl) rfl #[.slice A0 l0.length c0, .int .i64 a1] rfl (by (try simp only [yH, yI, yJ]); first | done | rfl | (simp only [yG, yF]; rfl)) ?_; (with_reducible refine (r08_Matrix.calls _ _ l0 a1 t325 _ ?side1 ?side2 A4.out).mono ?_); (case side1 => repeat (first | exact HR0.out | (with_reducible refine yS ?_ _) | (with_reducible refine yT ?_ _) | (with_reducible refine yU ?_))); (case side2 => exact HC0.out); rintro e w' ⟨rfl, ⟨nd, rfl⟩⟩; refine ⟨_, rfl, ?_⟩) | ((with_reducible refine gate_dst (N := 23) rfl ?_); refine Kd.R_lit (Kd.int .i64) _ 2 ?hg (N := 23) ?hd (xs := ([] : List Int)) (inner := []) (ok := fun _ => True) (okp := fun _ => True) ?hr ?hp (fun _ hk => hk) trivial (Below.refl _ _) (yN _) (by simp) ?_; (case hd => rfl); (case hg => rfl); (case hr => first | (go_simp; done) | (go_simp; rfl)); (case hp => exact (Reps.none _ _)); intro v327 w7 ho8 hb hg_ hnew_; clear hg_ hnew_; (first | rw [← Ny326.out] at ho8 | (simp only [Int.reduceToNat] at ho8; rw [← Ny326.out] at ho8)); have n0_ := zK (Kd.R_lower ho8 (yK (by repeat (first | (with_reducible first | exact HB.out | apply zJ | apply zD | apply zE) | exact HB.out)))); have n1_ := zK (yL (by repeat (first | (with_reducible first | exact HB.out | apply zJ | apply zD | apply zE) | exact HB.out)) hb); clear HB; have HO328 := n0_; have HB := n1_; clear n0_ n1_ hb ho8))
   go_loopg [9, 10] k (fun kq v9 v10 w' => ∃ (x9_1 : List Int) (x10_1 : Int), v10 = .int .i64 x10_1 ∧ Aside0 (r08_Times.l0 kq l0 a1 l2 x9_1 x10_1 = some (r1, r2)) ∧ Aside0 (kq ≤ k) ∧ Aside0 (Kd.R (Kd.int .i64) 2 w' w.heap.size (fun _ => True) v9 x9_1) ∧ Aside0 (Below w.heap.size w w'))
   case atStart => exact ⟨(y326), (0), (by first | rfl | (simp; done) | (simp [*]; done)), H', ⟨yN _⟩, ⟨by (with_reducible repeat (first | apply zL | apply zM | apply zN)); exact HO328.out⟩, ⟨by repeat (first | (with_reducible first | exact HB.out | apply zJ | apply zD | apply zE) | exact HB.out)⟩⟩
   case round =>
    clear H'
    try clear c2
    try clear p2
    try clear c3
    try clear c5
    try clear c5b0
    try clear c5b1
    try clear c6
    try clear c6b0
    try clear c6b1
    obtain ⟨x9_1, x10_1, rfl, HA, HK1, HO_9, HB⟩ := hrel
    cases gk with
    | zero => exact absurd HA.out (by simp [r08_Times.l0])
    | succ k1 =>
     have H := HA.out
     clear HA
     simp only [r08_Times.l0] at H
     by_cases c9 : x10_1 < (l0.length : Int)
     ·rw [if_pos c9] at H
      have c9b0 : decide (x10_1 < (l0.length : Int)) = true := yC c9
      clear c9
      by_cases c10 : 0 ≤ x10_1
      ·rw [if_pos c10] at H
       have c10b0 := yg c10
       have c10b1 : decide (0 ≤ x10_1) = true := yC c10
       clear c10
       by_cases c11 : x10_1 ≤ (wrap64 (x10_1 + a1))
       ·rw [if_pos c11] at H
        have c11b0 := yg c11
        have c11b1 : decide (x10_1 ≤ (wrap64 (x10_1 + a1))) = true := yC c11
        by_cases c12 : (wrap64 (x10_1 + a1)) ≤ (l0.length : Int)
        ·rw [if_pos c12] at H
         have c12b0 := yg c12
         have c12b1 : decide ((wrap64 (x10_1 + a1)) ≤ (l0.length : Int)) = true := yC c12
         replace H := yA.mp H
         obtain ⟨⟨t330, t331⟩, A130, H⟩ := H
         replace H : (if x9_1.length < 17592186044416 then (r08_Times.l0 k1 l0 a1 l2 (x9_1 ++ [t330]) (wrap64 (x10_1 + a1))) else (none)) = some (r1, r2) := H
         have A13 := zK A130
         clear A130
         by_cases c14 : x9_1.length < 17592186044416
         ·rw [if_pos c14] at H
          have LMc14 := zK c14
          clear c14
          obtain ⟨y332, hy332⟩ : ∃ y_ : List Int, y_ = (x9_1 ++ [t330]) := ⟨_, rfl⟩
          replace H : (r08_Times.l0 k1 l0 a1 l2 y332 (wrap64 (x10_1 + a1))) = some (r1, r2) := by first | (rw [hy332]; with_reducible exact H) | (have H2_ := (yV _ _).symm.trans H; rw [hy332]; with_reducible exact H2_) | (have H2_ := (yV _ _).symm.trans H; with_reducible exact H2_) | with_reducible exact H | (rw [hy332]; exact H) | exact H
          have Ny332 := zK hy332
          clear hy332
          have H' := zK H
          clear H
          obtain ⟨i015, hi015, _, hsz15, _⟩ := yj info30
          obtain ⟨A15, hcut15, hA15, hC15⟩ := print_mid_of (P := Try.prog) (Value.int .i8) 0 23 30 .i64 .i64 Try.underlying23 hi015 hsz15 A0 c0 l0 x10_1 (wrap64 (x10_1 + a1)) (yB (by first | (with_reducible assumption) | assumption)) (by first | omega | exact yB (by first | (with_reducible assumption) | assumption)) (yB (by first | (with_reducible assumption) | assumption)) HC0.out
          have HR329 := zK (Kd.C_of_reads (h1 := fun _ => rfl) (hA15 _ (Kd.reads_of_C HR0.out)))
          have HC329 := zK hC15
          clear hA15 hC15 hi015 hsz15
          go_wp2_with (first | ((with_reducible refine gate_callee (f := 57) rfl ?_); refine goesL_ (some 39) rfl rfl Try.func57 (by kernel_rfl) rfl #[.slice A15 ((l0.take ((wrap64 (x10_1 + a1)) : Int).toNat).drop (x10_1 : Int).toNat).length (c0 - x10_1.toNat), .slice A2 l2.length c2] rfl (by (try simp only [yH, yI, yJ]); first | done | (rw [show ((l0.take ((wrap64 (x10_1 + a1)) : Int).toNat).drop (x10_1 : Int).toNat).length = ((wrap64 (x10_1 + a1)).toNat - x10_1.toNat) from (by rw [yG, yF]; have h_ : ((wrap64 (x10_1 + a1)) : Int) ≤ (l0.length : Int) := yB (by first | (with_reducible assumption) | assumption); omega)] <;> rfl) | rfl | (simp only [yG, yF]; rfl)) ?_; (with_reducible refine (r08_Dot.calls k1 _ _ ((l0.take ((wrap64 (x10_1 + a1)) : Int).toNat).drop (x10_1 : Int).toNat) _ _ l2 t330 t331 _ ?side1 ?side2 ?side3 ?side4 A13.out).mono ?_); (case side1 => repeat (first | exact (yc HR329.out HB.out) | (with_reducible refine yS ?_ _) | (with_reducible refine yT ?_ _) | (with_reducible refine yU ?_))); (case side2 => exact HC329.out); (case side3 => repeat (first | exact (yc HR2.out HB.out) | (with_reducible refine yS ?_ _) | (with_reducible refine yT ?_ _) | (with_reducible refine yU ?_))); (case side4 => exact HC2.out); rintro e w' ⟨rfl, ⟨nd, rfl⟩⟩; refine ⟨_, rfl, ?_⟩) | ((with_reducible refine gate_builtin (b := .append) (xs := #[.tmp 42, .tmp 44]) rfl ?_); at_builtin; refine Kd.R_append (Kd.int .i64) (w0 := w) w.heap.size rfl (.tmp 42) (.tmp 44) 38 2 (.int .i64 0) 8 rfl Try.underlying38 info2 rfl (by decide) (by omega) u9 x9_1 t330 [.int .i64 t330] (fun _ => True) (fun _ => False) rfl rfl ?aP (fun _ hk => hk.elim) ?aF ?aO ?aB ?aS ?aL ?_; (case aP => exact rfl); (case aB => exact (by repeat (first | (with_reducible first | exact HB.out | apply zJ | apply zD | apply zE) | exact HB.out))); (case aF => exact (fun _ _ => trivial)); (case aO => exact (by (with_reducible repeat (first | apply zL | apply zM | apply zN)); exact HO_9.out)); (case aS => exact (yK (by repeat (first | (with_reducible first | exact HB.out | apply zJ | apply zD | apply zE) | exact HB.out)))); (case aL => have := LMc14.out; omega); intro v333 w16 ho hb hg hat; rw [← Ny332.out] at ho; have n0_ := zK (hb); have n1_ := zK (ho); clear HB HO_9; have HB := n0_; have HO334 := n1_; clear n0_ n1_ ho hb hg hat))
          go_roundg k1
          case measure => have := HK1.out; omega
          case rel => exact ⟨(y332), (wrap64 (x10_1 + a1)), (by first | rfl | (simp; done) | (simp [*]; done)), H', ⟨by have := HK1.out; omega⟩, ⟨by (with_reducible repeat (first | apply zL | apply zM | apply zN)); exact HO334.out⟩, ⟨by repeat (first | (with_reducible first | exact HB.out | apply zJ | apply zD | apply zE) | exact HB.out)⟩⟩
         ·rw [if_neg c14] at H
          exact absurd H (by simp)
        ·rw [if_neg c12] at H
         exact absurd H (by simp)
       ·rw [if_neg c11] at H
        exact absurd H (by simp)
      ·rw [if_neg c10] at H
       exact absurd H (by simp)
     ·rw [if_neg c9] at H
      have c9b0 : decide (x10_1 < (l0.length : Int)) = false := yD c9
      clear c9
      simp only [yZ, ya] at H
      obtain ⟨rfl, rfl⟩ := H
      go_wp2
      go_ret2
      exact ⟨_, by first | rfl | (simp [errW_none, errW_some] <;> rfl) | (simp [*, errW_none, errW_some] <;> rfl), by (with_reducible repeat (first | apply zL | apply zM | apply zN)); exact HO_9.out, by repeat (first | (with_reducible first | exact HB.out | apply zJ | apply zD | apply zE) | exact HB.out)⟩
  ·rw [if_neg c6] at H
   have c6b0 : ((l2.length : Int) == a1) = false := beq_eq_false_iff_ne.mpr c6
   have c6b1 : ((l2.length : Int) != a1) = true := bne_iff_ne.mpr c6
   simp only [yZ, ya] at H
   obtain ⟨rfl, rfl⟩ := H
   go_enter Try.func34, Try.ntmps34
   go_wp2_with (first | ((with_reducible refine gate_callee (f := 56) rfl ?_); refine goesL_ (some 15) rfl rfl Try.func56 (by kernel_rfl) rfl #[.slice A0 l0.length c0, .int .i64 a1] rfl (by (try simp only [yH, yI, yJ]); first | done | rfl | (simp only [yG, yF]; rfl)) ?_; (with_reducible refine (r08_Matrix.calls _ _ l0 a1 t325 _ ?side1 ?side2 A4.out).mono ?_); (case side1 => repeat (first | exact HR0.out | (with_reducible refine yS ?_ _) | (with_reducible refine yT ?_ _) | (with_reducible refine yU ?_))); (case side2 => exact HC0.out); rintro e w' ⟨rfl, ⟨nd, rfl⟩⟩; refine ⟨_, rfl, ?_⟩))
   go_ret2
   exact ⟨_, by first | rfl | (simp [errW_none, errW_some] <;> rfl) | (simp [*, errW_none, errW_some] <;> rfl), by first | exact Kd.R_nil _ _ _ _ _ | exact Kd.N_nil _ _ _ _ _ | exact Kd.V_nil _ _ _ _ _ | exact Kd.Q_nil _ _ _ _ _ | exact Kd.S_nil _ _ _ _ _, by repeat (first | (with_reducible first | exact HB.out | apply zJ | apply zD | apply zE) | exact HB.out)⟩
 ·rw [if_neg c5] at H
  have c5b0 : (t325 == 0) = false := beq_eq_false_iff_ne.mpr c5
  have c5b1 : (t325 != 0) = true := bne_iff_ne.mpr c5
  simp only [yZ, ya] at H
  obtain ⟨rfl, rfl⟩ := H
  go_enter Try.func34, Try.ntmps34
  go_wp2_with (first | ((with_reducible refine gate_callee (f := 56) rfl ?_); refine goesL_ (some 15) rfl rfl Try.func56 (by kernel_rfl) rfl #[.slice A0 l0.length c0, .int .i64 a1] rfl (by (try simp only [yH, yI, yJ]); first | done | rfl | (simp only [yG, yF]; rfl)) ?_; (with_reducible refine (r08_Matrix.calls _ _ l0 a1 t325 _ ?side1 ?side2 A4.out).mono ?_); (case side1 => repeat (first | exact HR0.out | (with_reducible refine yS ?_ _) | (with_reducible refine yT ?_ _) | (with_reducible refine yU ?_))); (case side2 => exact HC0.out); rintro e w' ⟨rfl, ⟨nd, rfl⟩⟩; refine ⟨_, rfl, ?_⟩))
  go_ret2
  exact ⟨_, by first | rfl | (simp [errW_none, errW_some] <;> rfl) | (simp [*, errW_none, errW_some] <;> rfl), by first | exact Kd.R_nil _ _ _ _ _ | exact Kd.N_nil _ _ _ _ _ | exact Kd.V_nil _ _ _ _ _ | exact Kd.Q_nil _ _ _ _ _ | exact Kd.S_nil _ _ _ _ _, by repeat (first | (with_reducible first | exact HB.out | apply zJ | apply zD | apply zE) | exact HB.out)⟩

/-! ### r08_Scale: function 35 -/
mutual
def r08_Scale.j0 : Nat → List Int → Int → Bool → Option (List Int × Int)
 | 0, _, _, _ => none
 | k + 1, x0, x1, x19 => if x19 = true then (some (([] : List Int), 20)) else (r08_Scale.l0 k x1 (([] : List Int)) x0 (x0.length : Int) 0)
def r08_Scale.l0 : Nat → Int → List Int → List Int → Int → Int → Option (List Int × Int)
 | 0, _, _, _, _, _ => none
 | k + 1, x1, x6, x21, x22, x23 => if x23 < x22 then (if 0 ≤ x23 then (if x23 < (x21.length : Int) then ((r02_Round.f k (rd x21 x23) x1).bind fun bt339 => (if x6.length < 17592186044416 then (r08_Scale.l0 k x1 (x6 ++ [bt339.1]) x21 x22 (wrap64 (x23 + 1))) else (none))) else (none)) else (none)) else (some (x6, 0))
end
def r08_Scale.f (k : Nat) (l0 : List Int) (a1 : Int) : Option (List Int × Int) := if (l0.length : Int) > 1048576 then (some (([] : List Int), 81)) else (if a1 < 0 then (r08_Scale.j0 k l0 a1 true) else (r08_Scale.j0 k l0 a1 (decide (a1 > 62))))
theorem r08_Scale.mono_l : ∀ k, (∀ y0 y1 y2, LeO (r08_Scale.j0 k y0 y1 y2) (r08_Scale.j0 (k + 1) y0 y1 y2)) ∧ (∀ y0 y1 y2 y3 y4, LeO (r08_Scale.l0 k y0 y1 y2 y3 y4) (r08_Scale.l0 (k + 1) y0 y1 y2 y3 y4))
 | 0 => ⟨fun _ _ _ r h => by simp [r08_Scale.j0] at h, fun _ _ _ _ _ r h => by simp [r08_Scale.l0] at h⟩
 | k + 1 => by
  obtain ⟨ih0, ih1⟩ := r08_Scale.mono_l k
  refine ⟨?_, ?_⟩ <;> (intros; first | unfold r08_Scale.j0 | unfold r08_Scale.l0)
  all_goals repeat' first
   | (with_reducible exact ih0 _ _ _)
   | (with_reducible exact ih1 _ _ _ _ _)
   | (with_reducible exact r02_Round.mono _ _ _)
   | (with_reducible exact yR _)
   | (with_reducible exact yO _)
   | (with_reducible refine yQ ?_ ?_)
   | (with_reducible refine yP ?_ (fun _ => ?_))
   | exact ih0 _ _ _
   | exact ih1 _ _ _ _ _
   | exact r02_Round.mono _ _ _
   | exact yO _
   | refine yQ ?_ ?_
   | refine yP ?_ (fun _ => ?_)
theorem r08_Scale.mono : ∀ a0 a1 k, LeO (r08_Scale.f k a0 a1) (r08_Scale.f (k + 1) a0 a1) := by
 intro a0 a1 k
 obtain ⟨ih0, ih1⟩ := r08_Scale.mono_l k
 unfold r08_Scale.f
 repeat' first
   | (with_reducible exact ih0 _ _ _)
   | (with_reducible exact ih1 _ _ _ _ _)
   | (with_reducible exact r02_Round.mono _ _ _)
   | (with_reducible exact yR _)
   | (with_reducible exact yO _)
   | (with_reducible refine yQ ?_ ?_)
   | (with_reducible refine yP ?_ (fun _ => ?_))
   | exact ih0 _ _ _
   | exact ih1 _ _ _ _ _
   | exact r02_Round.mono _ _ _
   | exact yO _
   | refine yQ ?_ ?_
   | refine yP ?_ (fun _ => ?_)
set_option maxHeartbeats 8000000 in
set_option maxRecDepth 100000 in
theorem r08_Scale.calls (k : Nat) (A0 : Option Addr) (c0 : Nat) (l0 : List Int) (a1 : Int) (r1 : List Int) (r2 : Int) (w : World) (hr0 : Kd.C (Kd.int .i64) w A0 l0.length l0) (hc0 : l0.length ≤ c0) (h : r08_Scale.f k l0 a1 = some (r1, r2)) :
  Calls Try.prog 35 #[.slice A0 l0.length c0, .int .i64 a1] w fun e w' => ∃ v0_ : Value, e = .returned (.tuple #[v0_, .int .i64 r2]) ∧ Kd.R (Kd.int .i64) 2 w' w.heap.size (fun _ => True) v0_ r1 ∧ Below w.heap.size w w' := by
 have HR0 := zK hr0
 have HC0 := zK hc0
 clear hr0 hc0
 have HB := zK (Below.refl w.heap.size w)
 have H : (if (l0.length : Int) > 1048576 then (some (([] : List Int), 81)) else (if a1 < 0 then (r08_Scale.j0 k l0 a1 true) else (r08_Scale.j0 k l0 a1 (decide (a1 > 62))))) = some (r1, r2) := h
 clear h
 by_cases c3 : (l0.length : Int) > 1048576
 ·rw [if_pos c3] at H
  have c3b0 : decide (1048576 < (l0.length : Int)) = true := yC c3
  have c3b1 : decide (1048576 < l0.length) = true := yC (by omega)
  clear c3
  simp only [yZ, ya] at H
  obtain ⟨rfl, rfl⟩ := H
  go_enter Try.func35, Try.ntmps35
  go_wp2
  go_ret2
  exact ⟨_, by first | rfl | (simp [errW_none, errW_some] <;> rfl) | (simp [*, errW_none, errW_some] <;> rfl), by first | exact Kd.R_nil _ _ _ _ _ | exact Kd.N_nil _ _ _ _ _ | exact Kd.V_nil _ _ _ _ _ | exact Kd.Q_nil _ _ _ _ _ | exact Kd.S_nil _ _ _ _ _, by repeat (first | (with_reducible first | exact HB.out | apply zJ | apply zD | apply zE) | exact HB.out)⟩
 ·rw [if_neg c3] at H
  have c3b0 : decide (1048576 < (l0.length : Int)) = false := yD c3
  have c3b1 : decide (1048576 < l0.length) = false := yD (by omega)
  clear c3
  have HC4 := zK H
  clear H
  go_enter Try.func35, Try.ntmps35
  go_upto_region 3 with (fail)
  go_cut [19] (fun v19 wc => ∃ (kq : Nat) (x19_3 : Bool), v19 = .bool x19_3 ∧ Aside0 (r08_Scale.j0 kq l0 a1 x19_3 = some (r1, r2)) ∧ Aside0 (kq ≤ k) ∧ Aside0 (Below w.heap.size w wc))
  case first =>
   have H := HC4.out
   clear HC4
   by_cases c5 : a1 < 0
   ·rw [if_pos c5] at H
    have c5b0 : decide (a1 < 0) = true := yC c5
    clear c5
    (first | rw [c5b0] | (simp only [i64_w, i32_w]; rw [c5b0]) | skip)
    have H' := zK H
    clear H
    go_wp2
    go_meet
    case rel => exact ⟨_, (true), (by first | rfl | (simp; done) | (simp [*]; done)), H', ⟨by first | omega | exact yN _⟩, ⟨by repeat (first | (with_reducible first | exact HB.out | apply zJ | apply zD | apply zE) | exact HB.out)⟩⟩
   ·rw [if_neg c5] at H
    have c5b0 : decide (a1 < 0) = false := yD c5
    clear c5
    (first | rw [c5b0] | (simp only [i64_w, i32_w]; rw [c5b0]) | skip)
    have H' := zK H
    clear H
    go_wp2
    go_meet
    case rel => exact ⟨_, (decide (a1 > 62)), (by first | rfl | (simp; done) | (simp [*]; done)), H', ⟨by first | omega | exact yN _⟩, ⟨by repeat (first | (with_reducible first | exact HB.out | apply zJ | apply zD | apply zE) | exact HB.out)⟩⟩
  case rest =>
   clear HC4
   try clear p2
   try clear c3
   try clear c3b0
   try clear c3b1
   try clear c5
   try clear c5b0
   obtain ⟨kq, x19_3, rfl, HA, HJ3, HB⟩ := hcut
   cases kq with
   | zero => exact absurd HA.out (by simp [r08_Scale.j0])
   | succ kj3 =>
    have H := HA.out
    clear HA
    simp only [r08_Scale.j0] at H
    by_cases c6 : x19_3 = true
    ·subst c6
     have H1 : (some (([] : List Int), 20)) = some (r1, r2) := by rw [if_pos rfl] at H; exact H
     clear H
     have H := H1
     clear H1
     simp only [yZ, ya] at H
     obtain ⟨rfl, rfl⟩ := H
     go_wp2
     go_ret2
     exact ⟨_, by first | rfl | (simp [errW_none, errW_some] <;> rfl) | (simp [*, errW_none, errW_some] <;> rfl), by first | exact Kd.R_nil _ _ _ _ _ | exact Kd.N_nil _ _ _ _ _ | exact Kd.V_nil _ _ _ _ _ | exact Kd.Q_nil _ _ _ _ _ | exact Kd.S_nil _ _ _ _ _, by repeat (first | (with_reducible first | exact HB.out | apply zJ | apply zD | apply zE) | exact HB.out)⟩
    ·replace c6 := yh.mpr c6
     subst c6
     have H1 : (r08_Scale.l0 kj3 a1 (([] : List Int)) l0 (l0.length : Int) 0) = some (r1, r2) := by rw [if_neg (show ¬ (false = true) by decide)] at H; exact H
     clear H
     have H := H1
     clear H1
     obtain ⟨y335, hy335⟩ : ∃ y_ : List Int, y_ = (([] : List Int)) := ⟨_, rfl⟩
     replace H : (r08_Scale.l0 kj3 a1 y335 l0 (l0.length : Int) 0) = some (r1, r2) := by first | (rw [hy335]; with_reducible exact H) | (have H2_ := (yV _ _).symm.trans H; rw [hy335]; with_reducible exact H2_) | (have H2_ := (yV _ _).symm.trans H; with_reducible exact H2_) | with_reducible exact H | (rw [hy335]; exact H) | exact H
     have Ny335 := zK hy335
     clear hy335
     have H' := zK H
     clear H
     go_wp2_with (first | ((with_reducible refine gate_dst (N := 20) rfl ?_); refine Kd.R_lit (Kd.int .i64) _ 2 ?hg (N := 20) ?hd (xs := ([] : List Int)) (inner := []) (ok := fun _ => True) (okp := fun _ => True) ?hr ?hp (fun _ hk => hk) trivial (Below.refl _ _) (yN _) (by simp) ?_; (case hd => rfl); (case hg => rfl); (case hr => first | (go_simp; done) | (go_simp; rfl)); (case hp => exact (Reps.none _ _)); intro v336 w7 ho8 hb hg_ hnew_; clear hg_ hnew_; (first | rw [← Ny335.out] at ho8 | (simp only [Int.reduceToNat] at ho8; rw [← Ny335.out] at ho8)); have n0_ := zK (Kd.R_lower ho8 (yK (by repeat (first | (with_reducible first | exact HB.out | apply zJ | apply zD | apply zE) | exact HB.out)))); have n1_ := zK (yL (by repeat (first | (with_reducible first | exact HB.out | apply zJ | apply zD | apply zE) | exact HB.out)) hb); clear HB; have HO337 := n0_; have HB := n1_; clear n0_ n1_ hb ho8))
     go_loopg [6, 23] kj3 (fun kq v6 v23 w' => ∃ (x6_2 : List Int) (x23_2 : Int), v23 = .int .i64 x23_2 ∧ Aside0 (r08_Scale.l0 kq a1 x6_2 l0 (l0.length : Int) x23_2 = some (r1, r2)) ∧ Aside0 (kq ≤ kj3) ∧ Aside0 (Kd.R (Kd.int .i64) 2 w' w.heap.size (fun _ => True) v6 x6_2) ∧ Aside0 (Below w.heap.size w w'))
     case atStart => exact ⟨(y335), (0), (by first | rfl | (simp; done) | (simp [*]; done)), H', ⟨yN _⟩, ⟨by (with_reducible repeat (first | apply zL | apply zM | apply zN)); exact HO337.out⟩, ⟨by repeat (first | (with_reducible first | exact HB.out | apply zJ | apply zD | apply zE) | exact HB.out)⟩⟩
     case round =>
      clear H'
      try clear p2
      try clear c3
      try clear c3b0
      try clear c3b1
      try clear c5
      try clear c5b0
      try clear c6
      try clear p2
      obtain ⟨x6_2, x23_2, rfl, HA, HK2, HO_6, HB⟩ := hrel
      cases gk with
      | zero => exact absurd HA.out (by simp [r08_Scale.l0])
      | succ k2 =>
       have H := HA.out
       clear HA
       simp only [r08_Scale.l0] at H
       by_cases c9 : x23_2 < (l0.length : Int)
       ·rw [if_pos c9] at H
        have c9b0 : decide (x23_2 < (l0.length : Int)) = true := yC c9
        clear c9
        by_cases c10 : 0 ≤ x23_2
        ·rw [if_pos c10] at H
         have c10b0 : decide (0 ≤ x23_2) = true := yC c10
         clear c10
         by_cases c11 : x23_2 < (l0.length : Int)
         ·rw [if_pos c11] at H
          have c11b0 : decide (x23_2 < (l0.length : Int)) = true := yC c11
          clear c11
          replace H := yA.mp H
          obtain ⟨⟨t339, t340⟩, A120, H⟩ := H
          replace H : (if x6_2.length < 17592186044416 then (r08_Scale.l0 k2 a1 (x6_2 ++ [t339]) l0 (l0.length : Int) (wrap64 (x23_2 + 1))) else (none)) = some (r1, r2) := H
          have A12 := zK A120
          clear A120
          by_cases c13 : x6_2.length < 17592186044416
          ·rw [if_pos c13] at H
           have LMc13 := zK c13
           clear c13
           obtain ⟨y341, hy341⟩ : ∃ y_ : List Int, y_ = (x6_2 ++ [t339]) := ⟨_, rfl⟩
           replace H : (r08_Scale.l0 k2 a1 y341 l0 (l0.length : Int) (wrap64 (x23_2 + 1))) = some (r1, r2) := by first | (rw [hy341]; with_reducible exact H) | (have H2_ := (yV _ _).symm.trans H; rw [hy341]; with_reducible exact H2_) | (have H2_ := (yV _ _).symm.trans H; with_reducible exact H2_) | with_reducible exact H | (rw [hy341]; exact H) | exact H
           have Ny341 := zK hy341
           clear hy341
           have H' := zK H
           clear H
           have p338 : 0 ≤ (x23_2 : Int) := yB (by first | (with_reducible assumption) | assumption)
           have q338 : x23_2 < (l0.length : Int) := yB (by first | (with_reducible assumption) | assumption)
           obtain ⟨ad338, e338, hx338_0⟩ := Kd.at_int HR0.out x23_2 p338 q338
           cases e338
           replace hx338_0 := (HB.out.cell (World.block_lt_of_cell? w _ hx338_0)).trans hx338_0
           replace p338 := yg p338
           replace q338 := yg q338
           go_wp2_with (first | ((with_reducible refine gate_callee (f := 28) rfl ?_); refine goesL_ (some 30) rfl rfl Try.func28 (by kernel_rfl) rfl #[.int .i64 (rd l0 x23_2), .int .i64 a1] rfl (by (try simp only [yH, yI, yJ]); first | done | rfl | (simp only [yG, yF]; rfl)) ?_; (with_reducible refine (r02_Round.calls k2 (rd l0 x23_2) a1 t339 t340 _ A12.out).mono ?_); rintro e w' ⟨rfl, ⟨nd, rfl⟩⟩; refine ⟨_, rfl, ?_⟩) | ((with_reducible refine gate_builtin (b := .append) (xs := #[.tmp 33, .tmp 35]) rfl ?_); at_builtin; refine Kd.R_append (Kd.int .i64) (w0 := w) w.heap.size rfl (.tmp 33) (.tmp 35) 38 2 (.int .i64 0) 8 rfl Try.underlying38 info2 rfl (by decide) (by omega) u6 x6_2 t339 [.int .i64 t339] (fun _ => True) (fun _ => False) rfl rfl ?aP (fun _ hk => hk.elim) ?aF ?aO ?aB ?aS ?aL ?_; (case aP => exact rfl); (case aB => exact (by repeat (first | (with_reducible first | exact HB.out | apply zJ | apply zD | apply zE) | exact HB.out))); (case aF => exact (fun _ _ => trivial)); (case aO => exact (by (with_reducible repeat (first | apply zL | apply zM | apply zN)); exact HO_6.out)); (case aS => exact (yK (by repeat (first | (with_reducible first | exact HB.out | apply zJ | apply zD | apply zE) | exact HB.out)))); (case aL => have := LMc13.out; omega); intro v342 w14 ho hb hg hat; rw [← Ny341.out] at ho; have n0_ := zK (hb); have n1_ := zK (ho); clear HB HO_6; have HB := n0_; have HO343 := n1_; clear n0_ n1_ ho hb hg hat))
           go_roundg k2
           case measure => have := HJ3.out; have := HK2.out; omega
           case rel => exact ⟨(y341), (wrap64 (x23_2 + 1)), (by first | rfl | (simp; done) | (simp [*]; done)), H', ⟨by have := HJ3.out; have := HK2.out; omega⟩, ⟨by (with_reducible repeat (first | apply zL | apply zM | apply zN)); exact HO343.out⟩, ⟨by repeat (first | (with_reducible first | exact HB.out | apply zJ | apply zD | apply zE) | exact HB.out)⟩⟩
          ·rw [if_neg c13] at H
           exact absurd H (by simp)
         ·rw [if_neg c11] at H
          exact absurd H (by simp)
        ·rw [if_neg c10] at H
         exact absurd H (by simp)
       ·rw [if_neg c9] at H
        have c9b0 : decide (x23_2 < (l0.length : Int)) = false := yD c9
        clear c9
        simp only [yZ, ya] at H
        obtain ⟨rfl, rfl⟩ := H
        go_wp2
        go_ret2
        exact ⟨_, by first | rfl | (simp [errW_none, errW_some] <;> rfl) | (simp [*, errW_none, errW_some] <;> rfl), by (with_reducible repeat (first | apply zL | apply zM | apply zN)); exact HO_6.out, by repeat (first | (with_reducible first | exact HB.out | apply zJ | apply zD | apply zE) | exact HB.out)⟩

/-! ### r08_Shrink: function 55 -/
def r08_Shrink.l0 : Nat → Int → List Int → List Int → Int → Int → Option (List Int × Int)
 | 0, _, _, _, _, _ => none
 | k + 1, x7, x8, x18, x19, x20 => if x20 < x19 then (if 0 ≤ x20 then (if x20 < (x18.length : Int) then ((r02_Narrow.f (rd x18 x20)).bind fun t352 => (if x8.length < 140737488355328 then (r08_Shrink.l0 k x7 (x8 ++ [t352]) x18 x19 (wrap64 (x20 + 1))) else (none))) else (none)) else (none)) else (some (x8, x7))
def r08_Shrink.f (k : Nat) (l0 : List Int) (a1 : Int) : Option (List Int × Int) := (r08_Scale.f k l0 a1).bind fun bt344 => (r08_Shrink.l0 k bt344.2 (([] : List Int)) bt344.1 (bt344.1.length : Int) 0)
theorem r08_Shrink.mono_l : ∀ k, (∀ y0 y1 y2 y3 y4, LeO (r08_Shrink.l0 k y0 y1 y2 y3 y4) (r08_Shrink.l0 (k + 1) y0 y1 y2 y3 y4))
 | 0 => fun _ _ _ _ _ r h => by simp [r08_Shrink.l0] at h
 | k + 1 => by
  have ih0 := r08_Shrink.mono_l k
  intros
  unfold r08_Shrink.l0
  all_goals repeat' first
   | (with_reducible exact ih0 _ _ _ _ _)
   | (with_reducible exact r08_Scale.mono _ _ _)
   | (with_reducible exact yR _)
   | (with_reducible exact yO _)
   | (with_reducible refine yQ ?_ ?_)
   | (with_reducible refine yP ?_ (fun _ => ?_))
   | exact ih0 _ _ _ _ _
   | exact r08_Scale.mono _ _ _
   | exact yO _
   | refine yQ ?_ ?_
   | refine yP ?_ (fun _ => ?_)
theorem r08_Shrink.mono : ∀ a0 a1 k, LeO (r08_Shrink.f k a0 a1) (r08_Shrink.f (k + 1) a0 a1) := by
 intro a0 a1 k
 have ih0 := r08_Shrink.mono_l k
 unfold r08_Shrink.f
 repeat' first
   | (with_reducible exact ih0 _ _ _ _ _)
   | (with_reducible exact r08_Scale.mono _ _ _)
   | (with_reducible exact yR _)
   | (with_reducible exact yO _)
   | (with_reducible refine yQ ?_ ?_)
   | (with_reducible refine yP ?_ (fun _ => ?_))
   | exact ih0 _ _ _ _ _
   | exact r08_Scale.mono _ _ _
   | exact yO _
   | refine yQ ?_ ?_
   | refine yP ?_ (fun _ => ?_)
set_option maxHeartbeats 8000000 in
set_option maxRecDepth 100000 in
theorem r08_Shrink.calls (k : Nat) (A0 : Option Addr) (c0 : Nat) (l0 : List Int) (a1 : Int) (r1 : List Int) (r2 : Int) (w : World) (hr0 : Kd.C (Kd.int .i64) w A0 l0.length l0) (hc0 : l0.length ≤ c0) (h : r08_Shrink.f k l0 a1 = some (r1, r2)) :
  Calls Try.prog 55 #[.slice A0 l0.length c0, .int .i64 a1] w fun e w' => ∃ v0_ : Value, e = .returned (.tuple #[v0_, .int .i64 r2]) ∧ Kd.R (Kd.int .i8) 30 w' w.heap.size (fun _ => True) v0_ r1 ∧ Below w.heap.size w w' := by
 have HR0 := zK hr0
 have HC0 := zK hc0
 clear hr0 hc0
 have HB := zK (Below.refl w.heap.size w)
 have H : ((r08_Scale.f k l0 a1).bind fun bt344 => (r08_Shrink.l0 k bt344.2 (([] : List Int)) bt344.1 (bt344.1.length : Int) 0)) = some (r1, r2) := h
 clear h
 replace H := yA.mp H
 obtain ⟨⟨t344, t345⟩, A30, H⟩ := H
 replace H : (r08_Shrink.l0 k t345 (([] : List Int)) t344 (t344.length : Int) 0) = some (r1, r2) := H
 have A3 := zK A30
 clear A30
 obtain ⟨y348, hy348⟩ : ∃ y_ : List Int, y_ = (([] : List Int)) := ⟨_, rfl⟩
 replace H : (r08_Shrink.l0 k t345 y348 t344 (t344.length : Int) 0) = some (r1, r2) := by first | (rw [hy348]; with_reducible exact H) | (have H2_ := (yV _ _).symm.trans H; rw [hy348]; with_reducible exact H2_) | (have H2_ := (yV _ _).symm.trans H; with_reducible exact H2_) | with_reducible exact H | (rw [hy348]; exact H) | exact H
 have Ny348 := zK hy348
 clear hy348
 have H' := zK H
 clear H
 go_enter Try.func55, Try.ntmps55
 go_wp2_with (first | ((with_reducible refine gate_callee (f := 35) rfl ?_); refine goesL_ (some 14) rfl rfl Try.func35 (by kernel_rfl) rfl #[.slice A0 l0.length c0, .int .i64 a1] rfl (by (try simp only [yH, yI, yJ]); first | done | rfl | (simp only [yG, yF]; rfl)) ?_; (with_reducible refine (r08_Scale.calls k _ _ l0 a1 t344 t345 _ ?side1 ?side2 A3.out).mono ?_); (case side1 => repeat (first | exact HR0.out | (with_reducible refine yS ?_ _) | (with_reducible refine yT ?_ _) | (with_reducible refine yU ?_))); (case side2 => exact HC0.out); rintro e w4 ⟨v346, rfl, ho0, hb⟩; refine ⟨_, rfl, ?_⟩; have n0_ := zK (Kd.R_lower ho0 (yK (by repeat (first | (with_reducible first | exact HB.out | apply zJ | apply zD | apply zE) | exact HB.out)))); have n1_ := zK (yL (by repeat (first | (with_reducible first | exact HB.out | apply zJ | apply zD | apply zE) | exact HB.out)) hb); clear HB; have HO347 := n0_; have HB := n1_; clear n0_ n1_; (try clear hb); (try clear hb2); (try clear hk); (try clear hi); (try clear ho0)) | ((with_reducible refine gate_dst (N := 17) rfl ?_); refine Kd.R_lit (Kd.int .i8) _ 30 ?hg (N := 17) ?hd (xs := ([] : List Int)) (inner := []) (ok := fun _ => True) (okp := fun _ => True) ?hr ?hp (fun _ hk => hk) trivial (Below.refl _ _) (yN _) (by simp) ?_; (case hd => rfl); (case hg => rfl); (case hr => first | (go_simp; done) | (go_simp; rfl)); (case hp => exact (Reps.none _ _)); intro v349 w5 ho6 hb hg_ hnew_; clear hg_ hnew_; (first | rw [← Ny348.out] at ho6 | (simp only [Int.reduceToNat] at ho6; rw [← Ny348.out] at ho6)); have n0_ := zK (yb (by (with_reducible repeat (first | apply zL | apply zM | apply zN)); exact HO347.out) hb); have n1_ := zK (Kd.R_lower ho6 (yK (by repeat (first | (with_reducible first | exact HB.out | apply zJ | apply zD | apply zE) | exact HB.out)))); have n2_ := zK (yL (by repeat (first | (with_reducible first | exact HB.out | apply zJ | apply zD | apply zE) | exact HB.out)) hb); clear HO347 HB; have HO347 := n0_; have HO350 := n1_; have HB := n2_; clear n0_ n1_ n2_ hb ho6; obtain ⟨Ao7, co7, eo7⟩ := Kd.R_slice HO347.out; subst eo7))
 go_loopg [8, 20] k (fun kq v8 v20 w' => ∃ (x8_1 : List Int) (x20_1 : Int), v20 = .int .i64 x20_1 ∧ Aside0 (r08_Shrink.l0 kq t345 x8_1 t344 (t344.length : Int) x20_1 = some (r1, r2)) ∧ Aside0 (kq ≤ k) ∧ Aside0 (Kd.R (Kd.int .i8) 30 w' w.heap.size (fun _ => True) v8 x8_1) ∧ Aside0 (Kd.R (Kd.int .i64) 2 w' w.heap.size (fun _ => True) (.slice Ao7 t344.length co7) t344) ∧ Aside0 (Below w.heap.size w w'))
 case atStart => exact ⟨(y348), (0), (by first | rfl | (simp; done) | (simp [*]; done)), H', ⟨yN _⟩, ⟨by (with_reducible repeat (first | apply zL | apply zM | apply zN)); exact HO350.out⟩, ⟨by (with_reducible repeat (first | apply zL | apply zM | apply zN)); exact HO347.out⟩, ⟨by repeat (first | (with_reducible first | exact HB.out | apply zJ | apply zD | apply zE) | exact HB.out)⟩⟩
 case round =>
  clear H'
  try clear p2
  try clear c3
  try clear c5
  obtain ⟨x8_1, x20_1, rfl, HA, HK1, HO_8, HO_18, HB⟩ := hrel
  cases gk with
  | zero => exact absurd HA.out (by simp [r08_Shrink.l0])
  | succ k1 =>
   have H := HA.out
   clear HA
   simp only [r08_Shrink.l0] at H
   by_cases c8 : x20_1 < (t344.length : Int)
   ·rw [if_pos c8] at H
    have c8b0 : decide (x20_1 < (t344.length : Int)) = true := yC c8
    clear c8
    by_cases c9 : 0 ≤ x20_1
    ·rw [if_pos c9] at H
     have c9b0 : decide (0 ≤ x20_1) = true := yC c9
     clear c9
     by_cases c10 : x20_1 < (t344.length : Int)
     ·rw [if_pos c10] at H
      have c10b0 : decide (x20_1 < (t344.length : Int)) = true := yC c10
      clear c10
      replace H := yA.mp H
      obtain ⟨t352, A110, H⟩ := H
      replace H : (if x8_1.length < 140737488355328 then (r08_Shrink.l0 k1 t345 (x8_1 ++ [t352]) t344 (t344.length : Int) (wrap64 (x20_1 + 1))) else (none)) = some (r1, r2) := H
      have A11 := zK A110
      clear A110
      by_cases c12 : x8_1.length < 140737488355328
      ·rw [if_pos c12] at H
       have LMc12 := zK c12
       clear c12
       obtain ⟨y353, hy353⟩ : ∃ y_ : List Int, y_ = (x8_1 ++ [t352]) := ⟨_, rfl⟩
       replace H : (r08_Shrink.l0 k1 t345 y353 t344 (t344.length : Int) (wrap64 (x20_1 + 1))) = some (r1, r2) := by first | (rw [hy353]; with_reducible exact H) | (have H2_ := (yV _ _).symm.trans H; rw [hy353]; with_reducible exact H2_) | (have H2_ := (yV _ _).symm.trans H; with_reducible exact H2_) | with_reducible exact H | (rw [hy353]; exact H) | exact H
       have Ny353 := zK hy353
       clear hy353
       have H' := zK H
       clear H
       have p351 : 0 ≤ (x20_1 : Int) := yB (by first | (with_reducible assumption) | assumption)
       have q351 : x20_1 < (t344.length : Int) := yB (by first | (with_reducible assumption) | assumption)
       (try (obtain ⟨Ai351, ci351, ei351⟩ := Kd.R_slice HO_18.out; subst ei351))
       obtain ⟨ad351, e351, hx351_0⟩ := Kd.at_int (yM HO_18.out).2.2 x20_1 p351 q351
       cases e351
       replace p351 := yg p351
       replace q351 := yg q351
       go_wp2_with (first | ((with_reducible refine gate_callee (f := 29) rfl ?_); refine goesL_ (some 26) rfl rfl Try.func29 (by kernel_rfl) rfl #[.int .i64 (rd t344 x20_1)] rfl (by (try simp only [yH, yI, yJ]); first | done | rfl | (simp only [yG, yF]; rfl)) ?_; (with_reducible refine (r02_Narrow.calls (rd t344 x20_1) t352 _ A11.out).mono ?_); rintro e w' ⟨rfl, ⟨nd, rfl⟩⟩; refine ⟨_, rfl, ?_⟩) | ((with_reducible refine gate_builtin (b := .append) (xs := #[.tmp 24, .tmp 27]) rfl ?_); at_builtin; refine Kd.R_append (Kd.int .i8) (w0 := w) w.heap.size rfl (.tmp 24) (.tmp 27) 23 30 (.int .i8 0) 1 rfl Try.underlying23 info30 rfl (by decide) (by omega) u8 x8_1 t352 [.int .i8 t352] (fun _ => True) (fun _ => False) rfl rfl ?aP (fun _ hk => hk.elim) ?aF ?aO ?aB ?aS ?aL ?_; (case aP => exact rfl); (case aB => exact (by repeat (first | (with_reducible first | exact HB.out | apply zJ | apply zD | apply zE) | exact HB.out))); (case aF => exact (fun _ _ => trivial)); (case aO => exact (by (with_reducible repeat (first | apply zL | apply zM | apply zN)); exact HO_8.out)); (case aS => exact (yK (by repeat (first | (with_reducible first | exact HB.out | apply zJ | apply zD | apply zE) | exact HB.out)))); (case aL => have := LMc12.out; omega); intro v354 w13 ho hb hg hat; rw [← Ny353.out] at ho; have n0_ := zK (Kd.R_over' (by (with_reducible repeat (first | apply zL | apply zM | apply zN)); exact HO_18.out) (Kd.R_typed (by (with_reducible repeat (first | apply zL | apply zM | apply zN)); exact HO_8.out)) (by decide) hg); have n1_ := zK (hb); have n2_ := zK (ho); clear HO_18 HB HO_8; have HO_18 := n0_; have HB := n1_; have HO355 := n2_; clear n0_ n1_ n2_ ho hb hg hat))
       go_roundg k1
       case measure => have := HK1.out; omega
       case rel => exact ⟨(y353), (wrap64 (x20_1 + 1)), (by first | rfl | (simp; done) | (simp [*]; done)), H', ⟨by have := HK1.out; omega⟩, ⟨by (with_reducible repeat (first | apply zL | apply zM | apply zN)); exact HO355.out⟩, ⟨by (with_reducible repeat (first | apply zL | apply zM | apply zN)); exact HO_18.out⟩, ⟨by repeat (first | (with_reducible first | exact HB.out | apply zJ | apply zD | apply zE) | exact HB.out)⟩⟩
      ·rw [if_neg c12] at H
       exact absurd H (by simp)
     ·rw [if_neg c10] at H
      exact absurd H (by simp)
    ·rw [if_neg c9] at H
     exact absurd H (by simp)
   ·rw [if_neg c8] at H
    have c8b0 : decide (x20_1 < (t344.length : Int)) = false := yD c8
    clear c8
    simp only [yZ, ya] at H
    obtain ⟨rfl, rfl⟩ := H
    go_wp2
    go_ret2
    exact ⟨_, by first | rfl | (simp [errW_none, errW_some] <;> rfl) | (simp [*, errW_none, errW_some] <;> rfl), by (with_reducible repeat (first | apply zL | apply zM | apply zN)); exact HO_8.out, by repeat (first | (with_reducible first | exact HB.out | apply zJ | apply zD | apply zE) | exact HB.out)⟩

/-! ### r12_shrunk: function 33 -/
def r12_shrunk.f (k : Nat) (l0 : List Int) (l1 : List Int) (a2 : Int) : Option (List Int × Int) := (r08_Times.f k l0 (l1.length : Int) l1).bind fun bt356 => (if bt356.2 = 0 then ((r08_Shrink.f k bt356.1 a2).bind fun bt360 => (some (bt360.1, bt360.2))) else (some (([] : List Int), bt356.2)))
theorem r12_shrunk.mono : ∀ a0 a1 a2 k, LeO (r12_shrunk.f k a0 a1 a2) (r12_shrunk.f (k + 1) a0 a1 a2) := by
 intro a0 a1 a2 k
 unfold r12_shrunk.f
 repeat' first
   | (with_reducible exact r08_Shrink.mono _ _ _)
   | (with_reducible exact r08_Times.mono _ _ _ _)
   | (with_reducible exact yR _)
   | (with_reducible exact yO _)
   | (with_reducible refine yQ ?_ ?_)
   | (with_reducible refine yP ?_ (fun _ => ?_))
   | exact r08_Shrink.mono _ _ _
   | exact r08_Times.mono _ _ _ _
   | exact yO _
   | refine yQ ?_ ?_
   | refine yP ?_ (fun _ => ?_)
set_option maxHeartbeats 8000000 in
set_option maxRecDepth 100000 in
theorem r12_shrunk.calls (k : Nat) (A0 : Option Addr) (c0 : Nat) (l0 : List Int) (A1 : Option Addr) (c1 : Nat) (l1 : List Int) (a2 : Int) (r1 : List Int) (r2 : Int) (w : World) (hr0 : Kd.C (Kd.int .i8) w A0 l0.length l0) (hc0 : l0.length ≤ c0) (hr1 : Kd.C (Kd.int .i8) w A1 l1.length l1) (hc1 : l1.length ≤ c1) (h : r12_shrunk.f k l0 l1 a2 = some (r1, r2)) :
  Calls Try.prog 33 #[.slice A0 l0.length c0, .slice A1 l1.length c1, .int .i64 a2] w fun e w' => ∃ v0_ : Value, e = .returned (.tuple #[v0_, .int .i64 r2]) ∧ Kd.R (Kd.int .i8) 30 w' w.heap.size (fun _ => True) v0_ r1 ∧ Below w.heap.size w w' := by
 have HR0 := zK hr0
 have HC0 := zK hc0
 clear hr0 hc0
 have HR1 := zK hr1
 have HC1 := zK hc1
 clear hr1 hc1
 have HB := zK (Below.refl w.heap.size w)
 have H : ((r08_Times.f k l0 (l1.length : Int) l1).bind fun bt356 => (if bt356.2 = 0 then ((r08_Shrink.f k bt356.1 a2).bind fun bt360 => (some (bt360.1, bt360.2))) else (some (([] : List Int), bt356.2)))) = some (r1, r2) := h
 clear h
 replace H := yA.mp H
 obtain ⟨⟨t356, t357⟩, A40, H⟩ := H
 replace H : (if t357 = 0 then ((r08_Shrink.f k t356 a2).bind fun bt360 => (some (bt360.1, bt360.2))) else (some (([] : List Int), t357))) = some (r1, r2) := H
 have A4 := zK A40
 clear A40
 by_cases c5 : t357 = 0
 ·rw [if_pos c5] at H
  have c5b0 : (t357 == 0) = true := beq_iff_eq.mpr c5
  have c5b1 : (t357 != 0) = false := bne_eq_false_iff_eq.mpr c5
  clear c5
  replace H := yA.mp H
  obtain ⟨⟨t360, t361⟩, A60, H⟩ := H
  replace H : (some (t360, t361)) = some (r1, r2) := H
  have A6 := zK A60
  clear A60
  simp only [yZ, ya] at H
  obtain ⟨rfl, rfl⟩ := H
  go_enter Try.func33, Try.ntmps33
  go_wp2_with (first | ((with_reducible refine gate_callee (f := 34) rfl ?_); refine goesL_ (some 15) rfl rfl Try.func34 (by kernel_rfl) rfl #[.slice A0 l0.length c0, .int .i64 (l1.length : Int), .slice A1 l1.length c1] rfl (by (try simp only [yH, yI, yJ]); first | done | rfl | (simp only [yG, yF]; rfl)) ?_; (with_reducible refine (r08_Times.calls k _ _ l0 (l1.length : Int) _ _ l1 t356 t357 _ ?side1 ?side2 ?side3 ?side4 A4.out).mono ?_); (case side1 => repeat (first | exact HR0.out | (with_reducible refine yS ?_ _) | (with_reducible refine yT ?_ _) | (with_reducible refine yU ?_))); (case side2 => exact HC0.out); (case side3 => repeat (first | exact HR1.out | (with_reducible refine yS ?_ _) | (with_reducible refine yT ?_ _) | (with_reducible refine yU ?_))); (case side4 => exact HC1.out); rintro e w7 ⟨v358, rfl, ho0, hb⟩; refine ⟨_, rfl, ?_⟩; have n0_ := zK (Kd.R_lower ho0 (yK (by repeat (first | (with_reducible first | exact HB.out | apply zJ | apply zD | apply zE) | exact HB.out)))); have n1_ := zK (yL (by repeat (first | (with_reducible first | exact HB.out | apply zJ | apply zD | apply zE) | exact HB.out)) hb); clear HB; have HO359 := n0_; have HB := n1_; clear n0_ n1_; (try clear hb); (try clear hb2); (try clear hk); (try clear hi); (try clear ho0); obtain ⟨Ao8, co8, eo8⟩ := Kd.R_slice HO359.out; subst eo8) | ((with_reducible refine gate_callee (f := 55) rfl ?_); refine goesL_ (some 23) rfl rfl Try.func55 (by kernel_rfl) rfl #[.slice Ao8 t356.length co8, .int .i64 a2] rfl (by (try simp only [yH, yI, yJ]); first | done | rfl | (simp only [yG, yF]; rfl)) ?_; (with_reducible refine (r08_Shrink.calls k _ _ t356 a2 t360 t361 _ ?side1 ?side2 A6.out).mono ?_); (case side1 => repeat (first | exact (yM HO359.out).2.2 | (with_reducible refine yS ?_ _) | (with_reducible refine yT ?_ _) | (with_reducible refine yU ?_))); (case side2 => exact (yM HO359.out).2.1); rintro e w9 ⟨v362, rfl, ho0, hb⟩; refine ⟨_, rfl, ?_⟩; have n0_ := zK (yb (by (with_reducible repeat (first | apply zL | apply zM | apply zN)); exact HO359.out) hb); have n1_ := zK (Kd.R_lower ho0 (yK (by repeat (first | (with_reducible first | exact HB.out | apply zJ | apply zD | apply zE) | exact HB.out)))); have n2_ := zK (yL (by repeat (first | (with_reducible first | exact HB.out | apply zJ | apply zD | apply zE) | exact HB.out)) hb); clear HO359 HB; have HO359 := n0_; have HO363 := n1_; have HB := n2_; clear n0_ n1_ n2_; (try clear hb); (try clear hb2); (try clear hk); (try clear hi); (try clear ho0)))
  go_ret2
  exact ⟨_, by first | rfl | (simp [errW_none, errW_some] <;> rfl) | (simp [*, errW_none, errW_some] <;> rfl), by (with_reducible repeat (first | apply zL | apply zM | apply zN)); exact HO363.out, by repeat (first | (with_reducible first | exact HB.out | apply zJ | apply zD | apply zE) | exact HB.out)⟩
 ·rw [if_neg c5] at H
  have c5b0 : (t357 == 0) = false := beq_eq_false_iff_ne.mpr c5
  have c5b1 : (t357 != 0) = true := bne_iff_ne.mpr c5
  simp only [yZ, ya] at H
  obtain ⟨rfl, rfl⟩ := H
  go_enter Try.func33, Try.ntmps33
  go_wp2_with (first | ((with_reducible refine gate_callee (f := 34) rfl ?_); refine goesL_ (some 15) rfl rfl Try.func34 (by kernel_rfl) rfl #[.slice A0 l0.length c0, .int .i64 (l1.length : Int), .slice A1 l1.length c1] rfl (by (try simp only [yH, yI, yJ]); first | done | rfl | (simp only [yG, yF]; rfl)) ?_; (with_reducible refine (r08_Times.calls k _ _ l0 (l1.length : Int) _ _ l1 t356 t357 _ ?side1 ?side2 ?side3 ?side4 A4.out).mono ?_); (case side1 => repeat (first | exact HR0.out | (with_reducible refine yS ?_ _) | (with_reducible refine yT ?_ _) | (with_reducible refine yU ?_))); (case side2 => exact HC0.out); (case side3 => repeat (first | exact HR1.out | (with_reducible refine yS ?_ _) | (with_reducible refine yT ?_ _) | (with_reducible refine yU ?_))); (case side4 => exact HC1.out); rintro e w10 ⟨v358, rfl, ho0, hb⟩; refine ⟨_, rfl, ?_⟩; have n0_ := zK (Kd.R_lower ho0 (yK (by repeat (first | (with_reducible first | exact HB.out | apply zJ | apply zD | apply zE) | exact HB.out)))); have n1_ := zK (yL (by repeat (first | (with_reducible first | exact HB.out | apply zJ | apply zD | apply zE) | exact HB.out)) hb); clear HB; have HO359 := n0_; have HB := n1_; clear n0_ n1_; (try clear hb); (try clear hb2); (try clear hk); (try clear hi); (try clear ho0)))
  go_ret2
  exact ⟨_, by first | rfl | (simp [errW_none, errW_some] <;> rfl) | (simp [*, errW_none, errW_some] <;> rfl), by first | exact Kd.R_nil _ _ _ _ _ | exact Kd.N_nil _ _ _ _ _ | exact Kd.V_nil _ _ _ _ _ | exact Kd.Q_nil _ _ _ _ _ | exact Kd.S_nil _ _ _ _ _, by repeat (first | (with_reducible first | exact HB.out | apply zJ | apply zD | apply zE) | exact HB.out)⟩

end Go.Proofs.Ytjcfhgpaipbedaa.A
