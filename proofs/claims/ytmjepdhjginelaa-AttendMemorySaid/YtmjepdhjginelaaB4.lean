-- Printed by this session's own driver (wip/tools/xprint.py) over the kit's printer; given functions are this session's own.
import Derived.Test.YtmjepdhjginelaaB0
import Derived.Test.YtmjepdhjginelaaB1
import Derived.Test.YtmjepdhjginelaaB2
import Derived.Test.YtmjepdhjginelaaB3
namespace Go.Proofs.Ytmjepdhjginelaa.B
open Go.RowKit Go.Proofs.YtmjepdhjginelaaW.PrintWords Go.Proofs.YtmjepdhjginelaaW.PrintLast Go.Proofs.YtmjepdhjginelaaW.PrintMore
attribute [local go_sem] max2_int min2_int max_two min_two max_three min_three max_four min_four   -- for this text's walks alone
set_option linter.unusedVariables false
set_option linter.unusedSimpArgs false

/-! ### soft_Mean: function 49 -/
mutual
def soft_Mean.j0 : Nat → List Int → List Int → Bool → Option (Int × Int)
 | 0, _, _, _ => none
 | k + 1, x0, x1, x23 => if x23 = true then (some (0, 1)) else ((soft_total.f k x0).bind fun bt159 => (if bt159.2 = 0 then (soft_Mean.l0 k x1 bt159.1 0 x0 (x0.length : Int) 0) else (some (0, bt159.2))))
def soft_Mean.l0 : Nat → List Int → Int → Int → List Int → Int → Int → Option (Int × Int)
 | 0, _, _, _, _, _, _ => none
 | k + 1, x1, x6, x8, x32, x33, x34 => if x34 < x33 then (if 0 ≤ x34 then (if x34 < (x32.length : Int) then (if x34 < (x1.length : Int) then (soft_Mean.l0 k x1 x6 (wrap64 (x8 + (wrap64 ((rd x32 x34) * (wrap64 (rd x1 x34)))))) x32 x33 (wrap64 (x34 + 1))) else (none)) else (none)) else (none)) else ((fixed_Floor.f (wrap64 ((wrap64 (2 * x8)) + x6)) (wrap64 (2 * x6))).bind fun bt163 => (some (IntKind.i8.wrap (bt163.1), 0)))
end
def soft_Mean.f (k : Nat) (l0 : List Int) (l1 : List Int) : Option (Int × Int) := if (l0.length : Int) = (l1.length : Int) then (soft_Mean.j0 k l0 l1 (decide ((l0.length : Int) > 512))) else (soft_Mean.j0 k l0 l1 true)
theorem soft_Mean.mono_l : ∀ k, (∀ y0 y1 y2, LeO (soft_Mean.j0 k y0 y1 y2) (soft_Mean.j0 (k + 1) y0 y1 y2)) ∧ (∀ y0 y1 y2 y3 y4 y5, LeO (soft_Mean.l0 k y0 y1 y2 y3 y4 y5) (soft_Mean.l0 (k + 1) y0 y1 y2 y3 y4 y5))
 | 0 => ⟨fun _ _ _ r h => by simp [soft_Mean.j0] at h, fun _ _ _ _ _ _ r h => by simp [soft_Mean.l0] at h⟩
 | k + 1 => by
  obtain ⟨ih0, ih1⟩ := soft_Mean.mono_l k
  refine ⟨?_, ?_⟩ <;> (intros; first | unfold soft_Mean.j0 | unfold soft_Mean.l0)
  all_goals repeat' first
   | (with_reducible exact ih0 _ _ _)
   | (with_reducible exact ih1 _ _ _ _ _ _)
   | (with_reducible exact soft_total.mono _ _)
   | (with_reducible exact yR _)
   | (with_reducible exact yO _)
   | (with_reducible refine yQ ?_ ?_)
   | (with_reducible refine yP ?_ (fun _ => ?_))
   | exact ih0 _ _ _
   | exact ih1 _ _ _ _ _ _
   | exact soft_total.mono _ _
   | exact yO _
   | refine yQ ?_ ?_
   | refine yP ?_ (fun _ => ?_)
theorem soft_Mean.mono : ∀ a0 a1 k, LeO (soft_Mean.f k a0 a1) (soft_Mean.f (k + 1) a0 a1) := by
 intro a0 a1 k
 obtain ⟨ih0, ih1⟩ := soft_Mean.mono_l k
 unfold soft_Mean.f
 repeat' first
   | (with_reducible exact ih0 _ _ _)
   | (with_reducible exact ih1 _ _ _ _ _ _)
   | (with_reducible exact soft_total.mono _ _)
   | (with_reducible exact yR _)
   | (with_reducible exact yO _)
   | (with_reducible refine yQ ?_ ?_)
   | (with_reducible refine yP ?_ (fun _ => ?_))
   | exact ih0 _ _ _
   | exact ih1 _ _ _ _ _ _
   | exact soft_total.mono _ _
   | exact yO _
   | refine yQ ?_ ?_
   | refine yP ?_ (fun _ => ?_)
set_option maxHeartbeats 8000000 in
set_option maxRecDepth 100000 in
theorem soft_Mean.calls (k : Nat) (A0 : Option Addr) (c0 : Nat) (l0 : List Int) (A1 : Option Addr) (c1 : Nat) (l1 : List Int) (r1 : Int) (r2 : Int) (w : World) (hr0 : Kd.C (Kd.int .i64) w A0 l0.length l0) (hc0 : l0.length ≤ c0) (hr1 : Kd.C (Kd.int .i8) w A1 l1.length l1) (hc1 : l1.length ≤ c1) (h : soft_Mean.f k l0 l1 = some (r1, r2)) :
  Calls Try.prog 49 #[.slice A0 l0.length c0, .slice A1 l1.length c1] w fun e w' => e = .returned (.tuple #[.int .i8 r1, .int .i64 r2]) ∧ Drawn0 w w' := by
 have HR0 := zK hr0
 have HC0 := zK hc0
 clear hr0 hc0
 have HR1 := zK hr1
 have HC1 := zK hc1
 clear hr1 hc1
 have H : (if (l0.length : Int) = (l1.length : Int) then (soft_Mean.j0 k l0 l1 (decide ((l0.length : Int) > 512))) else (soft_Mean.j0 k l0 l1 true)) = some (r1, r2) := h
 clear h
 have HC3 := zK H
 clear H
 go_enter Try.func49, Try.ntmps49
 go_upto_region 1 with (fail)
 go_cut [23] (fun v23 wc => ∃ (kq : Nat) (x23_2 : Bool), v23 = .bool x23_2 ∧ Aside0 (soft_Mean.j0 kq l0 l1 x23_2 = some (r1, r2)) ∧ Aside0 (kq ≤ k) ∧ Drawn0 w wc)
 case first =>
  have H := HC3.out
  clear HC3
  by_cases c4 : (l0.length : Int) = (l1.length : Int)
  ·rw [if_pos c4] at H
   have c4b0 : ((l0.length : Int) == (l1.length : Int)) = true := beq_iff_eq.mpr c4
   have c4b1 : ((l0.length : Int) != (l1.length : Int)) = false := bne_eq_false_iff_eq.mpr c4
   have c4b2 : (l0.length == l1.length) = true := by first | simpa using c4 | (simp at c4 ⊢; omega)
   clear c4
   (first | rw [c4b0] | (simp only [i64_w, i32_w]; rw [c4b0]) | skip)
   have H' := zK H
   clear H
   go_wp2
   go_meet
   case rel => exact ⟨_, (decide ((l0.length : Int) > 512)), (by first | rfl | (simp; done) | (simp [*]; done)), H', ⟨by first | omega | exact yN _⟩, by repeat (first | exact Drawn0.refl _ | apply Drawn0.step)⟩
  ·rw [if_neg c4] at H
   have c4b0 : ((l0.length : Int) == (l1.length : Int)) = false := beq_eq_false_iff_ne.mpr c4
   have c4b1 : ((l0.length : Int) != (l1.length : Int)) = true := bne_iff_ne.mpr c4
   have c4b2 : (l0.length == l1.length) = false := by first | simpa using c4 | (simp at c4 ⊢; omega)
   (first | rw [c4b0] | (simp only [i64_w, i32_w]; rw [c4b0]) | skip)
   have H' := zK H
   clear H
   go_wp2
   go_meet
   case rel => exact ⟨_, (true), (by first | rfl | (simp; done) | (simp [*]; done)), H', ⟨by first | omega | exact yN _⟩, by repeat (first | exact Drawn0.refl _ | apply Drawn0.step)⟩
 case rest =>
  clear HC3
  try clear c1
  try clear p2
  try clear c4
  try clear c4b0
  try clear c4b1
  try clear c4b2
  obtain ⟨kq, x23_2, rfl, HA, HJ2, ⟨mc2, rfl⟩⟩ := hcut
  cases kq with
  | zero => exact absurd HA.out (by simp [soft_Mean.j0])
  | succ kj2 =>
   have H := HA.out
   clear HA
   simp only [soft_Mean.j0] at H
   by_cases c5 : x23_2 = true
   ·subst c5
    have H1 : (some (0, 1)) = some (r1, r2) := by rw [if_pos rfl] at H; exact H
    clear H
    have H := H1
    clear H1
    simp only [yZ, ya] at H
    obtain ⟨rfl, rfl⟩ := H
    go_wp2
    go_ret2
    exact ⟨by first | rfl | (simp; done) | (simp [*]; done), by repeat (first | exact Drawn0.refl _ | apply Drawn0.step)⟩
   ·replace c5 := yh.mpr c5
    subst c5
    have H1 : ((soft_total.f kj2 l0).bind fun bt159 => (if bt159.2 = 0 then (soft_Mean.l0 kj2 l1 bt159.1 0 l0 (l0.length : Int) 0) else (some (0, bt159.2)))) = some (r1, r2) := by rw [if_neg (show ¬ (false = true) by decide)] at H; exact H
    clear H
    have H := H1
    clear H1
    replace H := yA.mp H
    obtain ⟨⟨t159, t160⟩, A60, H⟩ := H
    replace H : (if t160 = 0 then (soft_Mean.l0 kj2 l1 t159 0 l0 (l0.length : Int) 0) else (some (0, t160))) = some (r1, r2) := H
    have A6 := zK A60
    clear A60
    by_cases c7 : t160 = 0
    ·rw [if_pos c7] at H
     have c7b0 : (t160 == 0) = true := beq_iff_eq.mpr c7
     have c7b1 : (t160 != 0) = false := bne_eq_false_iff_eq.mpr c7
     clear c7
     have H' := zK H
     clear H
     go_wp2_with (first | ((with_reducible refine gate_callee (f := 48) rfl ?_); refine goesL_ (some 26) rfl rfl Try.func48 (by kernel_rfl) rfl #[.slice A0 l0.length c0] rfl (by (try simp only [yH, yI, yJ]); first | done | rfl | (simp only [yG, yF]; rfl)) ?_; (with_reducible refine (soft_total.calls kj2 _ _ l0 t159 t160 _ ?side1 ?side2 A6.out).mono ?_); (case side1 => repeat (first | exact HR0.out | (with_reducible refine yS ?_ _) | (with_reducible refine yT ?_ _) | (with_reducible refine yU ?_))); (case side2 => exact HC0.out); rintro e w' ⟨rfl, ⟨nd, rfl⟩⟩; refine ⟨_, rfl, ?_⟩))
     go_loopg [8, 34] kj2 (fun kq v8 v34 w' => ∃ (x8_2 : Int) (x34_2 : Int), v8 = .int .i64 x8_2 ∧ v34 = .int .i64 x34_2 ∧ Aside0 (soft_Mean.l0 kq l1 t159 x8_2 l0 (l0.length : Int) x34_2 = some (r1, r2)) ∧ Aside0 (kq ≤ kj2) ∧ Drawn0 w w')
     case atStart => exact ⟨(0), (0), (by first | rfl | (simp; done) | (simp [*]; done)), (by first | rfl | (simp; done) | (simp [*]; done)), H', ⟨yN _⟩, by repeat (first | exact Drawn0.refl _ | apply Drawn0.step)⟩
     case round =>
      clear H'
      try clear c1
      try clear c2
      try clear p2
      try clear c4
      try clear c4b0
      try clear c4b1
      try clear c4b2
      try clear c5
      try clear c7
      try clear c7b0
      try clear c7b1
      try clear p2
      obtain ⟨x8_2, x34_2, rfl, rfl, HA, HK2, ⟨m2, rfl⟩⟩ := hrel
      cases gk with
      | zero => exact absurd HA.out (by simp [soft_Mean.l0])
      | succ k2 =>
       have H := HA.out
       clear HA
       simp only [soft_Mean.l0] at H
       by_cases c8 : x34_2 < (l0.length : Int)
       ·rw [if_pos c8] at H
        have c8b0 : decide (x34_2 < (l0.length : Int)) = true := yC c8
        clear c8
        by_cases c9 : 0 ≤ x34_2
        ·rw [if_pos c9] at H
         have c9b0 : decide (0 ≤ x34_2) = true := yC c9
         clear c9
         by_cases c10 : x34_2 < (l0.length : Int)
         ·rw [if_pos c10] at H
          have c10b0 : decide (x34_2 < (l0.length : Int)) = true := yC c10
          clear c10
          by_cases c11 : x34_2 < (l1.length : Int)
          ·rw [if_pos c11] at H
           have c11b0 : decide (x34_2 < (l1.length : Int)) = true := yC c11
           clear c11
           have H' := zK H
           clear H
           have p161 : 0 ≤ (x34_2 : Int) := yB (by first | (with_reducible assumption) | assumption)
           have q161 : x34_2 < (l0.length : Int) := yB (by first | (with_reducible assumption) | assumption)
           obtain ⟨ad161, e161, hx161_0⟩ := Kd.at_int HR0.out x34_2 p161 q161
           cases e161
           replace p161 := yg p161
           replace q161 := yg q161
           have p162 : 0 ≤ (x34_2 : Int) := yB (by first | (with_reducible assumption) | assumption)
           have q162 : x34_2 < (l1.length : Int) := yB (by first | (with_reducible assumption) | assumption)
           obtain ⟨ad162, e162, hx162_0⟩ := Kd.at_int HR1.out x34_2 p162 q162
           cases e162
           replace p162 := yg p162
           replace q162 := yg q162
           go_wp2
           go_roundg k2
           case measure => have := HJ2.out; have := HK2.out; omega
           case rel => exact ⟨(wrap64 (x8_2 + (wrap64 ((rd l0 x34_2) * (wrap64 (rd l1 x34_2)))))), (wrap64 (x34_2 + 1)), (by first | rfl | (simp; done) | (simp [*]; done)), (by first | rfl | (simp; done) | (simp [*]; done)), H', ⟨by have := HJ2.out; have := HK2.out; omega⟩, by repeat (first | exact Drawn0.refl _ | apply Drawn0.step)⟩
          ·rw [if_neg c11] at H
           exact absurd H (by simp)
         ·rw [if_neg c10] at H
          exact absurd H (by simp)
        ·rw [if_neg c9] at H
         exact absurd H (by simp)
       ·rw [if_neg c8] at H
        have c8b0 : decide (x34_2 < (l0.length : Int)) = false := yD c8
        clear c8
        replace H := yA.mp H
        obtain ⟨⟨t163, t164, t165⟩, A120, H⟩ := H
        replace H : (some (IntKind.i8.wrap (t163), 0)) = some (r1, r2) := H
        have A12 := zK A120
        clear A120
        simp only [yZ, ya] at H
        obtain ⟨rfl, rfl⟩ := H
        go_wp2_with (first | ((with_reducible refine gate_callee (f := 57) rfl ?_); refine goesL_ (some 56) rfl rfl Try.func57 (by kernel_rfl) rfl #[.int .i64 (wrap64 ((wrap64 (2 * x8_2)) + t159)), .int .i64 (wrap64 (2 * t159))] rfl (by (try simp only [yH, yI, yJ]); first | done | rfl | (simp only [yG, yF]; rfl)) ?_; (with_reducible refine (fixed_Floor.calls (wrap64 ((wrap64 (2 * x8_2)) + t159)) (wrap64 (2 * t159)) t163 t164 t165 _ A12.out).mono ?_); rintro e w' ⟨rfl, ⟨nd, rfl⟩⟩; refine ⟨_, rfl, ?_⟩))
        go_ret2
        exact ⟨by first | rfl | (simp; done) | (simp [*]; done), by repeat (first | exact Drawn0.refl _ | apply Drawn0.step)⟩
    ·rw [if_neg c7] at H
     have c7b0 : (t160 == 0) = false := beq_eq_false_iff_ne.mpr c7
     have c7b1 : (t160 != 0) = true := bne_iff_ne.mpr c7
     simp only [yZ, ya] at H
     obtain ⟨rfl, rfl⟩ := H
     go_wp2_with (first | ((with_reducible refine gate_callee (f := 48) rfl ?_); refine goesL_ (some 26) rfl rfl Try.func48 (by kernel_rfl) rfl #[.slice A0 l0.length c0] rfl (by (try simp only [yH, yI, yJ]); first | done | rfl | (simp only [yG, yF]; rfl)) ?_; (with_reducible refine (soft_total.calls kj2 _ _ l0 t159 t160 _ ?side1 ?side2 A6.out).mono ?_); (case side1 => repeat (first | exact HR0.out | (with_reducible refine yS ?_ _) | (with_reducible refine yT ?_ _) | (with_reducible refine yU ?_))); (case side2 => exact HC0.out); rintro e w' ⟨rfl, ⟨nd, rfl⟩⟩; refine ⟨_, rfl, ?_⟩))
     go_ret2
     exact ⟨by first | rfl | (simp; done) | (simp [*]; done), by repeat (first | exact Drawn0.refl _ | apply Drawn0.step)⟩

/-! ### soft_Means: function 34 -/
mutual
def soft_Means.j0 : Nat → List Int → List (List Int) → Bool → Option (List Int × Int)
 | 0, _, _, _ => none
 | k + 1, x0, x1, x26 => if x26 = true then (some (([] : List Int), 1)) else (soft_Means.l0 k x0 x1 x1 (x1.length : Int) 0)
def soft_Means.l0 : Nat → List Int → List (List Int) → List (List Int) → Int → Int → Option (List Int × Int)
 | 0, _, _, _, _, _ => none
 | k + 1, x0, x1, x27, x28, x29 => if x29 < x28 then (if 0 ≤ x29 then (if x29 < (x27.length : Int) then (if 0 < (x1.length : Int) then (if ((rd_L1 x27 x29).length : Int) = ((rd_L1 x1 0).length : Int) then (soft_Means.l0 k x0 x1 x27 x28 (wrap64 (x29 + 1))) else (some (([] : List Int), 1))) else (none)) else (none)) else (none)) else ((soft_total.f k x0).bind fun bt168 => (if bt168.2 = 0 then (if 0 < (x1.length : Int) then (soft_Means.l1 k x0 x1 ([] : List Int) ((rd_L1 x1 0).length : Int) 0) else (none)) else (some (([] : List Int), bt168.2))))
def soft_Means.l1 : Nat → List Int → List (List Int) → List Int → Int → Int → Option (List Int × Int)
 | 0, _, _, _, _, _ => none
 | k + 1, x0, x1, x10, x52, x53 => if x53 < x52 then (soft_Means.l2 k x0 x1 x10 x53 ([] : List Int) x52 x53 x1 (x1.length : Int) 0) else (some (x10, 0))
def soft_Means.l2 : Nat → List Int → List (List Int) → List Int → Int → List Int → Int → Int → List (List Int) → Int → Int → Option (List Int × Int)
 | 0, _, _, _, _, _, _, _, _, _, _ => none
 | k + 1, x0, x1, x10, x11, x12, x52, x53, x56, x57, x58 => if x58 < x57 then (if 0 ≤ x58 then (if x58 < (x56.length : Int) then (if 0 ≤ x11 then (if x11 < ((rd_L1 x56 x58).length : Int) then (if x12.length < 140737488355328 then (soft_Means.l2 k x0 x1 x10 x11 (x12 ++ [rd (rd_L1 x56 x58) x11]) x52 x53 x56 x57 (wrap64 (x58 + 1))) else (none)) else (none)) else (none)) else (none)) else (none)) else ((soft_Mean.f k x0 x12).bind fun bt176 => (if x10.length < 140737488355328 then (soft_Means.l1 k x0 x1 (x10 ++ [bt176.1]) x52 (wrap64 (x53 + 1))) else (none)))
end
def soft_Means.f (k : Nat) (l0 : List Int) (l1 : List (List Int)) : Option (List Int × Int) := if (l0.length : Int) = (l1.length : Int) then (soft_Means.j0 k l0 l1 (decide ((l0.length : Int) > 512))) else (soft_Means.j0 k l0 l1 true)
theorem soft_Means.mono_l : ∀ k, (∀ y0 y1 y2, LeO (soft_Means.j0 k y0 y1 y2) (soft_Means.j0 (k + 1) y0 y1 y2)) ∧ (∀ y0 y1 y2 y3 y4, LeO (soft_Means.l0 k y0 y1 y2 y3 y4) (soft_Means.l0 (k + 1) y0 y1 y2 y3 y4)) ∧ (∀ y0 y1 y2 y3 y4, LeO (soft_Means.l1 k y0 y1 y2 y3 y4) (soft_Means.l1 (k + 1) y0 y1 y2 y3 y4)) ∧ (∀ y0 y1 y2 y3 y4 y5 y6 y7 y8 y9, LeO (soft_Means.l2 k y0 y1 y2 y3 y4 y5 y6 y7 y8 y9) (soft_Means.l2 (k + 1) y0 y1 y2 y3 y4 y5 y6 y7 y8 y9))
 | 0 => ⟨fun _ _ _ r h => by simp [soft_Means.j0] at h, fun _ _ _ _ _ r h => by simp [soft_Means.l0] at h, fun _ _ _ _ _ r h => by simp [soft_Means.l1] at h, fun _ _ _ _ _ _ _ _ _ _ r h => by simp [soft_Means.l2] at h⟩
 | k + 1 => by
  obtain ⟨ih0, ih1, ih2, ih3⟩ := soft_Means.mono_l k
  refine ⟨?_, ?_, ?_, ?_⟩ <;> (intros; first | unfold soft_Means.j0 | unfold soft_Means.l0 | unfold soft_Means.l1 | unfold soft_Means.l2)
  all_goals repeat' first
   | (with_reducible exact ih0 _ _ _)
   | (with_reducible exact ih1 _ _ _ _ _)
   | (with_reducible exact ih2 _ _ _ _ _)
   | (with_reducible exact ih3 _ _ _ _ _ _ _ _ _ _)
   | (with_reducible exact soft_Mean.mono _ _ _)
   | (with_reducible exact soft_total.mono _ _)
   | (with_reducible exact yR _)
   | (with_reducible exact yO _)
   | (with_reducible refine yQ ?_ ?_)
   | (with_reducible refine yP ?_ (fun _ => ?_))
   | exact ih0 _ _ _
   | exact ih1 _ _ _ _ _
   | exact ih2 _ _ _ _ _
   | exact ih3 _ _ _ _ _ _ _ _ _ _
   | exact soft_Mean.mono _ _ _
   | exact soft_total.mono _ _
   | exact yO _
   | refine yQ ?_ ?_
   | refine yP ?_ (fun _ => ?_)
theorem soft_Means.mono : ∀ a0 a1 k, LeO (soft_Means.f k a0 a1) (soft_Means.f (k + 1) a0 a1) := by
 intro a0 a1 k
 obtain ⟨ih0, ih1, ih2, ih3⟩ := soft_Means.mono_l k
 unfold soft_Means.f
 repeat' first
   | (with_reducible exact ih0 _ _ _)
   | (with_reducible exact ih1 _ _ _ _ _)
   | (with_reducible exact ih2 _ _ _ _ _)
   | (with_reducible exact ih3 _ _ _ _ _ _ _ _ _ _)
   | (with_reducible exact soft_Mean.mono _ _ _)
   | (with_reducible exact soft_total.mono _ _)
   | (with_reducible exact yR _)
   | (with_reducible exact yO _)
   | (with_reducible refine yQ ?_ ?_)
   | (with_reducible refine yP ?_ (fun _ => ?_))
   | exact ih0 _ _ _
   | exact ih1 _ _ _ _ _
   | exact ih2 _ _ _ _ _
   | exact ih3 _ _ _ _ _ _ _ _ _ _
   | exact soft_Mean.mono _ _ _
   | exact soft_total.mono _ _
   | exact yO _
   | refine yQ ?_ ?_
   | refine yP ?_ (fun _ => ?_)
set_option maxHeartbeats 8000000 in
set_option maxRecDepth 100000 in
theorem soft_Means.calls (k : Nat) (A0 : Option Addr) (c0 : Nat) (l0 : List Int) (A1 : Option Addr) (c1 : Nat) (l1 : List (List Int)) (r1 : List Int) (r2 : Int) (w : World) (hr0 : Kd.C (Kd.int .i64) w A0 l0.length l0) (hc0 : l0.length ≤ c0) (hr1 : Kd.C (Kd.slice 53 (Kd.int .i8)) w A1 l1.length l1) (hc1 : l1.length ≤ c1) (h : soft_Means.f k l0 l1 = some (r1, r2)) :
  Calls Try.prog 34 #[.slice A0 l0.length c0, .slice A1 l1.length c1] w fun e w' => ∃ v0_ : Value, e = .returned (.tuple #[v0_, .int .i64 r2]) ∧ Kd.R (Kd.int .i8) 53 w' w.heap.size (fun _ => True) v0_ r1 ∧ Below w.heap.size w w' := by
 have HR0 := zK hr0
 have HC0 := zK hc0
 clear hr0 hc0
 have HR1 := zK hr1
 have HC1 := zK hc1
 clear hr1 hc1
 have HB := zK (Below.refl w.heap.size w)
 have H : (if (l0.length : Int) = (l1.length : Int) then (soft_Means.j0 k l0 l1 (decide ((l0.length : Int) > 512))) else (soft_Means.j0 k l0 l1 true)) = some (r1, r2) := h
 clear h
 have HC3 := zK H
 clear H
 go_enter Try.func34, Try.ntmps34
 go_upto_region 1 with (fail)
 go_cut [26] (fun v26 wc => ∃ (kq : Nat) (x26_2 : Bool), v26 = .bool x26_2 ∧ Aside0 (soft_Means.j0 kq l0 l1 x26_2 = some (r1, r2)) ∧ Aside0 (kq ≤ k) ∧ Aside0 (Below w.heap.size w wc))
 case first =>
  have H := HC3.out
  clear HC3
  by_cases c4 : (l0.length : Int) = (l1.length : Int)
  ·rw [if_pos c4] at H
   have c4b0 : ((l0.length : Int) == (l1.length : Int)) = true := beq_iff_eq.mpr c4
   have c4b1 : ((l0.length : Int) != (l1.length : Int)) = false := bne_eq_false_iff_eq.mpr c4
   have c4b2 : (l0.length == l1.length) = true := by first | simpa using c4 | (simp at c4 ⊢; omega)
   clear c4
   (first | rw [c4b0] | (simp only [i64_w, i32_w]; rw [c4b0]) | skip)
   have H' := zK H
   clear H
   go_wp2
   go_meet
   case rel => exact ⟨_, (decide ((l0.length : Int) > 512)), (by first | rfl | (simp; done) | (simp [*]; done)), H', ⟨by first | omega | exact yN _⟩, ⟨by repeat (first | (with_reducible first | exact HB.out | apply zJ | apply zD | apply zE) | exact HB.out)⟩⟩
  ·rw [if_neg c4] at H
   have c4b0 : ((l0.length : Int) == (l1.length : Int)) = false := beq_eq_false_iff_ne.mpr c4
   have c4b1 : ((l0.length : Int) != (l1.length : Int)) = true := bne_iff_ne.mpr c4
   have c4b2 : (l0.length == l1.length) = false := by first | simpa using c4 | (simp at c4 ⊢; omega)
   (first | rw [c4b0] | (simp only [i64_w, i32_w]; rw [c4b0]) | skip)
   have H' := zK H
   clear H
   go_wp2
   go_meet
   case rel => exact ⟨_, (true), (by first | rfl | (simp; done) | (simp [*]; done)), H', ⟨by first | omega | exact yN _⟩, ⟨by repeat (first | (with_reducible first | exact HB.out | apply zJ | apply zD | apply zE) | exact HB.out)⟩⟩
 case rest =>
  clear HC3
  try clear c1
  try clear p2
  try clear c3
  try clear c4
  try clear c4b0
  try clear c4b1
  try clear c4b2
  obtain ⟨kq, x26_2, rfl, HA, HJ2, HB⟩ := hcut
  cases kq with
  | zero => exact absurd HA.out (by simp [soft_Means.j0])
  | succ kj2 =>
   have H := HA.out
   clear HA
   simp only [soft_Means.j0] at H
   by_cases c5 : x26_2 = true
   ·subst c5
    have H1 : (some (([] : List Int), 1)) = some (r1, r2) := by rw [if_pos rfl] at H; exact H
    clear H
    have H := H1
    clear H1
    simp only [yZ, ya] at H
    obtain ⟨rfl, rfl⟩ := H
    go_wp2
    go_ret2
    exact ⟨_, by first | rfl | (simp [errW_none, errW_some] <;> rfl) | (simp [*, errW_none, errW_some] <;> rfl), by first | exact Kd.R_nil _ _ _ _ _ | exact Kd.N_nil _ _ _ _ _ | exact Kd.V_nil _ _ _ _ _ | exact Kd.Q_nil _ _ _ _ _ | exact Kd.S_nil _ _ _ _ _, by repeat (first | (with_reducible first | exact HB.out | apply zJ | apply zD | apply zE) | exact HB.out)⟩
   ·replace c5 := yh.mpr c5
    subst c5
    have H1 : (soft_Means.l0 kj2 l0 l1 l1 (l1.length : Int) 0) = some (r1, r2) := by rw [if_neg (show ¬ (false = true) by decide)] at H; exact H
    clear H
    have H := H1
    clear H1
    have H' := zK H
    clear H
    go_wp2
    go_loopg [29] kj2 (fun kq v29 w' => ∃ (x29_2 : Int), v29 = .int .i64 x29_2 ∧ Aside0 (soft_Means.l0 kq l0 l1 l1 (l1.length : Int) x29_2 = some (r1, r2)) ∧ Aside0 (kq ≤ kj2) ∧ Aside0 (Below w.heap.size w w'))
    case atStart => exact ⟨(0), (by first | rfl | (simp; done) | (simp [*]; done)), H', ⟨yN _⟩, ⟨by repeat (first | (with_reducible first | exact HB.out | apply zJ | apply zD | apply zE) | exact HB.out)⟩⟩
    case round =>
     clear H'
     try clear c1
     try clear p2
     try clear c3
     try clear c4
     try clear c4b0
     try clear c4b1
     try clear c4b2
     try clear c5
     try clear p2
     obtain ⟨x29_2, rfl, HA, HK2, HB⟩ := hrel
     cases gk with
     | zero => exact absurd HA.out (by simp [soft_Means.l0])
     | succ k2 =>
      have H := HA.out
      clear HA
      simp only [soft_Means.l0] at H
      by_cases c6 : x29_2 < (l1.length : Int)
      ·rw [if_pos c6] at H
       have c6b0 : decide (x29_2 < (l1.length : Int)) = true := yC c6
       clear c6
       by_cases c7 : 0 ≤ x29_2
       ·rw [if_pos c7] at H
        have c7b0 : decide (0 ≤ x29_2) = true := yC c7
        clear c7
        by_cases c8 : x29_2 < (l1.length : Int)
        ·rw [if_pos c8] at H
         have c8b0 : decide (x29_2 < (l1.length : Int)) = true := yC c8
         clear c8
         by_cases c9 : 0 < (l1.length : Int)
         ·rw [if_pos c9] at H
          have c9b0 : decide (0 < (l1.length : Int)) = true := yC c9
          have c9b1 : decide (0 < l1.length) = true := yC (by omega)
          clear c9
          by_cases c10 : ((rd_L1 l1 x29_2).length : Int) = ((rd_L1 l1 0).length : Int)
          ·rw [if_pos c10] at H
           have c10b0 : (((rd_L1 l1 x29_2).length : Int) == ((rd_L1 l1 0).length : Int)) = true := beq_iff_eq.mpr c10
           have c10b1 : (((rd_L1 l1 x29_2).length : Int) != ((rd_L1 l1 0).length : Int)) = false := bne_eq_false_iff_eq.mpr c10
           have c10b2 : ((rd_L1 l1 x29_2).length == (rd_L1 l1 0).length) = true := by first | simpa using c10 | (simp at c10 ⊢; omega)
           clear c10
           have H' := zK H
           clear H
           have p166 : 0 ≤ (x29_2 : Int) := yB (by first | (with_reducible assumption) | assumption)
           have q166 : x29_2 < (l1.length : Int) := yB (by first | (with_reducible assumption) | assumption)
           obtain ⟨ad166, A166_0, c166_0, e166, hx166_0, hl166_0, hi166_0⟩ := at_L1 HR1.out x29_2 p166 q166
           cases e166
           replace hx166_0 := (HB.out.cell (World.block_lt_of_cell? w _ hx166_0)).trans hx166_0
           have HR166_0 := zK hi166_0
           have HC166_0 := zK hl166_0
           clear hi166_0 hl166_0
           replace p166 := yg p166
           replace q166 := yg q166
           have p167 : 0 ≤ (0 : Int) := (by omega)
           have q167 : 0 < (l1.length : Int) := yB (by first | (with_reducible assumption) | assumption)
           obtain ⟨ad167, A167_0, c167_0, e167, hx167_0, hl167_0, hi167_0⟩ := at_L1 HR1.out 0 p167 q167
           obtain rfl : ad166 = ad167 := (by injection e167)
           have qi167 : (0 < l1.length) = True := yg (by omega)
           (try rw [show ((0 : Int)).toNat = 0 from rfl] at hx167_0)
           (try rw [Addr.add_zero'] at hx167_0)
           replace hx167_0 := (HB.out.cell (World.block_lt_of_cell? w _ hx167_0)).trans hx167_0
           have HR167_0 := zK hi167_0
           have HC167_0 := zK hl167_0
           clear hi167_0 hl167_0
           replace p167 := yg p167
           replace q167 := yg q167
           go_wp2
           go_roundg k2
           case measure => have := HJ2.out; have := HK2.out; omega
           case rel => exact ⟨(wrap64 (x29_2 + 1)), (by first | rfl | (simp; done) | (simp [*]; done)), H', ⟨by have := HJ2.out; have := HK2.out; omega⟩, ⟨by repeat (first | (with_reducible first | exact HB.out | apply zJ | apply zD | apply zE) | exact HB.out)⟩⟩
          ·rw [if_neg c10] at H
           have c10b0 : (((rd_L1 l1 x29_2).length : Int) == ((rd_L1 l1 0).length : Int)) = false := beq_eq_false_iff_ne.mpr c10
           have c10b1 : (((rd_L1 l1 x29_2).length : Int) != ((rd_L1 l1 0).length : Int)) = true := bne_iff_ne.mpr c10
           have c10b2 : ((rd_L1 l1 x29_2).length == (rd_L1 l1 0).length) = false := by first | simpa using c10 | (simp at c10 ⊢; omega)
           simp only [yZ, ya] at H
           obtain ⟨rfl, rfl⟩ := H
           have p166 : 0 ≤ (x29_2 : Int) := yB (by first | (with_reducible assumption) | assumption)
           have q166 : x29_2 < (l1.length : Int) := yB (by first | (with_reducible assumption) | assumption)
           obtain ⟨ad166, A166_0, c166_0, e166, hx166_0, hl166_0, hi166_0⟩ := at_L1 HR1.out x29_2 p166 q166
           cases e166
           replace hx166_0 := (HB.out.cell (World.block_lt_of_cell? w _ hx166_0)).trans hx166_0
           have HR166_0 := zK hi166_0
           have HC166_0 := zK hl166_0
           clear hi166_0 hl166_0
           replace p166 := yg p166
           replace q166 := yg q166
           have p167 : 0 ≤ (0 : Int) := (by omega)
           have q167 : 0 < (l1.length : Int) := yB (by first | (with_reducible assumption) | assumption)
           obtain ⟨ad167, A167_0, c167_0, e167, hx167_0, hl167_0, hi167_0⟩ := at_L1 HR1.out 0 p167 q167
           obtain rfl : ad166 = ad167 := (by injection e167)
           have qi167 : (0 < l1.length) = True := yg (by omega)
           (try rw [show ((0 : Int)).toNat = 0 from rfl] at hx167_0)
           (try rw [Addr.add_zero'] at hx167_0)
           replace hx167_0 := (HB.out.cell (World.block_lt_of_cell? w _ hx167_0)).trans hx167_0
           have HR167_0 := zK hi167_0
           have HC167_0 := zK hl167_0
           clear hi167_0 hl167_0
           replace p167 := yg p167
           replace q167 := yg q167
           go_wp2
           go_ret2
           exact ⟨_, by first | rfl | (simp [errW_none, errW_some] <;> rfl) | (simp [*, errW_none, errW_some] <;> rfl), by first | exact Kd.R_nil _ _ _ _ _ | exact Kd.N_nil _ _ _ _ _ | exact Kd.V_nil _ _ _ _ _ | exact Kd.Q_nil _ _ _ _ _ | exact Kd.S_nil _ _ _ _ _, by repeat (first | (with_reducible first | exact HB.out | apply zJ | apply zD | apply zE) | exact HB.out)⟩
         ·rw [if_neg c9] at H
          exact absurd H (by simp)
        ·rw [if_neg c8] at H
         exact absurd H (by simp)
       ·rw [if_neg c7] at H
        exact absurd H (by simp)
      ·rw [if_neg c6] at H
       have c6b0 : decide (x29_2 < (l1.length : Int)) = false := yD c6
       clear c6
       replace H := yA.mp H
       obtain ⟨⟨t168, t169⟩, A110, H⟩ := H
       replace H : (if t169 = 0 then (if 0 < (l1.length : Int) then (soft_Means.l1 k2 l0 l1 ([] : List Int) ((rd_L1 l1 0).length : Int) 0) else (none)) else (some (([] : List Int), t169))) = some (r1, r2) := H
       have A11 := zK A110
       clear A110
       by_cases c12 : t169 = 0
       ·rw [if_pos c12] at H
        have c12b0 : (t169 == 0) = true := beq_iff_eq.mpr c12
        have c12b1 : (t169 != 0) = false := bne_eq_false_iff_eq.mpr c12
        clear c12
        by_cases c13 : 0 < (l1.length : Int)
        ·rw [if_pos c13] at H
         have c13b0 : decide (0 < (l1.length : Int)) = true := yC c13
         have c13b1 : decide (0 < l1.length) = true := yC (by omega)
         clear c13
         have H' := zK H
         clear H
         go_wp2_with (first | ((with_reducible refine gate_callee (f := 48) rfl ?_); refine goesL_ (some 43) rfl rfl Try.func48 (by kernel_rfl) rfl #[.slice A0 l0.length c0] rfl (by (try simp only [yH, yI, yJ]); first | done | rfl | (simp only [yG, yF]; rfl)) ?_; (with_reducible refine (soft_total.calls k2 _ _ l0 t168 t169 _ ?side1 ?side2 A11.out).mono ?_); (case side1 => repeat (first | exact (yc HR0.out HB.out) | (with_reducible refine yS ?_ _) | (with_reducible refine yT ?_ _) | (with_reducible refine yU ?_))); (case side2 => exact HC0.out); rintro e w' ⟨rfl, ⟨nd, rfl⟩⟩; refine ⟨_, rfl, ?_⟩; have p170 : 0 ≤ (0 : Int) := (by omega); have q170 : 0 < (l1.length : Int) := yB (by first | (with_reducible assumption) | assumption); obtain ⟨ad170, A170_0, c170_0, e170, hx170_0, hl170_0, hi170_0⟩ := at_L1 HR1.out 0 p170 q170; cases e170; have qi170 : (0 < l1.length) = True := yg (by omega); (try rw [show ((0 : Int)).toNat = 0 from rfl] at hx170_0); (try rw [Addr.add_zero'] at hx170_0); replace hx170_0 := (HB.out.cell (World.block_lt_of_cell? w _ hx170_0)).trans hx170_0; have HR170_0 := zK hi170_0; have HC170_0 := zK hl170_0; clear hi170_0 hl170_0; replace p170 := yg p170; replace q170 := yg q170))
         go_loopg [10, 53] k2 (fun kq v10 v53 w' => ∃ (x10_3 : List Int) (x53_3 : Int), v53 = .int .i64 x53_3 ∧ Aside0 (soft_Means.l1 kq l0 l1 x10_3 ((rd_L1 l1 0).length : Int) x53_3 = some (r1, r2)) ∧ Aside0 (kq ≤ k2) ∧ Aside0 (Kd.R (Kd.int .i8) 53 w' w.heap.size (fun _ => True) v10 x10_3) ∧ Aside0 (Below w.heap.size w w'))
         case atStart => exact ⟨(([] : List Int)), (0), (by first | rfl | (simp; done) | (simp [*]; done)), H', ⟨yN _⟩, ⟨by first | exact Kd.R_nil _ _ _ _ _ | exact Kd.N_nil _ _ _ _ _ | exact Kd.V_nil _ _ _ _ _ | exact Kd.Q_nil _ _ _ _ _ | exact Kd.S_nil _ _ _ _ _⟩, ⟨by repeat (first | (with_reducible first | exact HB.out | apply zJ | apply zD | apply zE) | exact HB.out)⟩⟩
         case round =>
          clear H'
          try clear c1
          try clear p1
          try clear q1
          try clear hx1
          try clear qi1
          try clear p2
          try clear c3
          try clear c4
          try clear c4b0
          try clear c4b1
          try clear c4b2
          try clear c5
          try clear c6
          try clear c6b0
          try clear p6
          try clear c7
          try clear c7b0
          try clear c8
          try clear c8b0
          try clear c9
          try clear c9b0
          try clear c9b1
          try clear c10
          try clear c10b0
          try clear c10b1
          try clear c10b2
          try clear c12
          try clear c12b0
          try clear c12b1
          try clear c13
          try clear c13b0
          try clear c13b1
          try clear hx166_0
          try clear hx167_0
          try clear hx170_0
          try clear p166
          try clear p167
          try clear p170
          try clear p2
          try clear q166
          try clear q167
          try clear q170
          obtain ⟨x10_3, x53_3, rfl, HA, HK3, HO_10, HB⟩ := hrel
          cases gk with
          | zero => exact absurd HA.out (by simp [soft_Means.l1])
          | succ k3 =>
           have H := HA.out
           clear HA
           simp only [soft_Means.l1] at H
           by_cases c14 : x53_3 < ((rd_L1 l1 0).length : Int)
           ·rw [if_pos c14] at H
            have c14b0 : decide (x53_3 < ((rd_L1 l1 0).length : Int)) = true := yC c14
            clear c14
            have H' := zK H
            clear H
            go_wp2
            go_loopg [12, 58] k3 (fun kq v12 v58 w' => ∃ (x12_4 : List Int) (x58_4 : Int), v58 = .int .i64 x58_4 ∧ Aside0 (soft_Means.l2 kq l0 l1 x10_3 x53_3 x12_4 ((rd_L1 l1 0).length : Int) x53_3 l1 (l1.length : Int) x58_4 = some (r1, r2)) ∧ Aside0 (kq ≤ k3) ∧ Aside0 (Kd.R (Kd.int .i8) 53 w' w.heap.size (fun k_ => some k_ ≠ (v12 : Value).ownBlock) u10 x10_3) ∧ Aside0 (Kd.R (Kd.int .i8) 53 w' w.heap.size (fun k_ => some k_ ≠ (u10 : Value).ownBlock) v12 x12_4) ∧ Aside0 (Below w.heap.size w w'))
            case atStart => exact ⟨(([] : List Int)), (0), (by first | rfl | (simp; done) | (simp [*]; done)), H', ⟨yN _⟩, ⟨by (with_reducible repeat (first | apply zL | apply zM | apply zN)); exact yd HO_10.out (fun _ hk => (by simp [Value.ownBlock]))⟩, ⟨by first | exact Kd.R_nil _ _ _ _ _ | exact Kd.N_nil _ _ _ _ _ | exact Kd.V_nil _ _ _ _ _ | exact Kd.Q_nil _ _ _ _ _ | exact Kd.S_nil _ _ _ _ _⟩, ⟨by repeat (first | (with_reducible first | exact HB.out | apply zJ | apply zD | apply zE) | exact HB.out)⟩⟩
            case round =>
             clear H'
             try clear c1
             try clear p1
             try clear q1
             try clear hx1
             try clear qi1
             try clear p2
             try clear c3
             try clear c4
             try clear c4b0
             try clear c4b1
             try clear c4b2
             try clear c5
             try clear c6
             try clear c6b0
             try clear p6
             try clear c7
             try clear c7b0
             try clear c8
             try clear c8b0
             try clear c9
             try clear c9b0
             try clear c9b1
             try clear c10
             try clear c10b0
             try clear c10b1
             try clear c10b2
             try clear c12
             try clear c12b0
             try clear c12b1
             try clear c13
             try clear c13b0
             try clear c13b1
             try clear c14
             try clear c14b0
             try clear hx166_0
             try clear hx167_0
             try clear hx170_0
             try clear p1
             try clear p166
             try clear p167
             try clear p170
             try clear p2
             try clear p6
             try clear q1
             try clear q166
             try clear q167
             try clear q170
             obtain ⟨x12_4, x58_4, rfl, HA, HK4, HO_10, HO_12, HB⟩ := hrel
             cases gk with
             | zero => exact absurd HA.out (by simp [soft_Means.l2])
             | succ k4 =>
              have H := HA.out
              clear HA
              simp only [soft_Means.l2] at H
              by_cases c15 : x58_4 < (l1.length : Int)
              ·rw [if_pos c15] at H
               have c15b0 : decide (x58_4 < (l1.length : Int)) = true := yC c15
               clear c15
               by_cases c16 : 0 ≤ x58_4
               ·rw [if_pos c16] at H
                have c16b0 : decide (0 ≤ x58_4) = true := yC c16
                clear c16
                by_cases c17 : x58_4 < (l1.length : Int)
                ·rw [if_pos c17] at H
                 have c17b0 : decide (x58_4 < (l1.length : Int)) = true := yC c17
                 clear c17
                 by_cases c18 : 0 ≤ x53_3
                 ·rw [if_pos c18] at H
                  have c18b0 : decide (0 ≤ x53_3) = true := yC c18
                  clear c18
                  by_cases c19 : x53_3 < ((rd_L1 l1 x58_4).length : Int)
                  ·rw [if_pos c19] at H
                   have c19b0 : decide (x53_3 < ((rd_L1 l1 x58_4).length : Int)) = true := yC c19
                   clear c19
                   by_cases c20 : x12_4.length < 140737488355328
                   ·rw [if_pos c20] at H
                    have LMc20 := zK c20
                    clear c20
                    obtain ⟨y173, hy173⟩ : ∃ y_ : List Int, y_ = (x12_4 ++ [rd (rd_L1 l1 x58_4) x53_3]) := ⟨_, rfl⟩
                    replace H : (soft_Means.l2 k4 l0 l1 x10_3 x53_3 y173 ((rd_L1 l1 0).length : Int) x53_3 l1 (l1.length : Int) (wrap64 (x58_4 + 1))) = some (r1, r2) := by first | (rw [hy173]; with_reducible exact H) | (have H2_ := (yV _ _).symm.trans H; rw [hy173]; with_reducible exact H2_) | (have H2_ := (yV _ _).symm.trans H; with_reducible exact H2_) | with_reducible exact H | (rw [hy173]; exact H) | exact H
                    have Ny173 := zK hy173
                    clear hy173
                    have H' := zK H
                    clear H
                    have p171 : 0 ≤ (x58_4 : Int) := yB (by first | (with_reducible assumption) | assumption)
                    have q171 : x58_4 < (l1.length : Int) := yB (by first | (with_reducible assumption) | assumption)
                    obtain ⟨ad171, A171_0, c171_0, e171, hx171_0, hl171_0, hi171_0⟩ := at_L1 HR1.out x58_4 p171 q171
                    obtain rfl : ad170 = ad171 := (by injection e171)
                    replace hx171_0 := (HB.out.cell (World.block_lt_of_cell? w _ hx171_0)).trans hx171_0
                    have HR171_0 := zK hi171_0
                    have HC171_0 := zK hl171_0
                    clear hi171_0 hl171_0
                    replace p171 := yg p171
                    replace q171 := yg q171
                    have p172 : 0 ≤ (x53_3 : Int) := yB (by first | (with_reducible assumption) | assumption)
                    have q172 : x53_3 < ((rd_L1 l1 x58_4).length : Int) := yB (by first | (with_reducible assumption) | assumption)
                    obtain ⟨ad172, e172, hx172_0⟩ := Kd.at_int HR171_0.out x53_3 p172 q172
                    cases e172
                    replace hx172_0 := (HB.out.cell (World.block_lt_of_cell? w _ hx172_0)).trans hx172_0
                    replace p172 := yg p172
                    replace q172 := yg q172
                    go_wp2_with (first | ((with_reducible refine gate_builtin (b := .append) (xs := #[.tmp 62, .tmp 67]) rfl ?_); at_builtin; refine Kd.R_append (Kd.int .i8) (w0 := w) w.heap.size rfl (.tmp 62) (.tmp 67) 22 53 (.int .i8 0) 1 rfl Try.underlying22 info53 rfl (by decide) (by omega) u12 x12_4 (rd (rd_L1 l1 x58_4) x53_3) [.int .i8 (rd (rd_L1 l1 x58_4) x53_3)] (fun k_ => some k_ ≠ (u10 : Value).ownBlock) (fun _ => False) rfl rfl ?aP (fun _ hk => hk.elim) ?aF ?aO ?aB ?aS ?aL ?_; (case aP => exact rfl); (case aB => exact (by repeat (first | (with_reducible first | exact HB.out | apply zJ | apply zD | apply zE) | exact HB.out))); (case aF => exact (fun k_ hk => Kd.fresh' (Kd.R_lt (by (with_reducible repeat (first | apply zL | apply zM | apply zN)); exact HO_10.out)) k_ hk)); (case aO => exact (by (with_reducible repeat (first | apply zL | apply zM | apply zN)); exact HO_12.out)); (case aS => exact (yK (by repeat (first | (with_reducible first | exact HB.out | apply zJ | apply zD | apply zE) | exact HB.out)))); (case aL => have := LMc20.out; omega); intro v174 w21 ho hb hg hat; rw [← Ny173.out] at ho; have n0_ := zK (Kd.R_after (ok := (fun _ => True)) (by (with_reducible repeat (first | apply zL | apply zM | apply zN)); exact yd HO_10.out (fun _ hk => ⟨trivial, hk⟩)) hg hat); have n1_ := zK (hb); have n2_ := zK (ho); clear HO_10 HB HO_12; have HO_10 := n0_; have HB := n1_; have HO175 := n2_; clear n0_ n1_ n2_ ho hb hg hat))
                    go_roundg k4
                    case measure => have := HJ2.out; have := HK2.out; have := HK3.out; have := HK4.out; omega
                    case rel => exact ⟨(y173), (wrap64 (x58_4 + 1)), (by first | rfl | (simp; done) | (simp [*]; done)), H', ⟨by have := HJ2.out; have := HK2.out; have := HK3.out; have := HK4.out; omega⟩, ⟨by (with_reducible repeat (first | apply zL | apply zM | apply zN)); exact yd HO_10.out (fun _ hk => hk.2)⟩, ⟨by (with_reducible repeat (first | apply zL | apply zM | apply zN)); exact HO175.out⟩, ⟨by repeat (first | (with_reducible first | exact HB.out | apply zJ | apply zD | apply zE) | exact HB.out)⟩⟩
                   ·rw [if_neg c20] at H
                    exact absurd H (by simp)
                  ·rw [if_neg c19] at H
                   exact absurd H (by simp)
                 ·rw [if_neg c18] at H
                  exact absurd H (by simp)
                ·rw [if_neg c17] at H
                 exact absurd H (by simp)
               ·rw [if_neg c16] at H
                exact absurd H (by simp)
              ·rw [if_neg c15] at H
               have c15b0 : decide (x58_4 < (l1.length : Int)) = false := yD c15
               clear c15
               replace H := yA.mp H
               obtain ⟨⟨t176, t177⟩, A220, H⟩ := H
               replace H : (if x10_3.length < 140737488355328 then (soft_Means.l1 k4 l0 l1 (x10_3 ++ [t176]) ((rd_L1 l1 0).length : Int) (wrap64 (x53_3 + 1))) else (none)) = some (r1, r2) := H
               have A22 := zK A220
               clear A220
               by_cases c23 : x10_3.length < 140737488355328
               ·rw [if_pos c23] at H
                have LMc23 := zK c23
                clear c23
                obtain ⟨y178, hy178⟩ : ∃ y_ : List Int, y_ = (x10_3 ++ [t176]) := ⟨_, rfl⟩
                replace H : (soft_Means.l1 k4 l0 l1 y178 ((rd_L1 l1 0).length : Int) (wrap64 (x53_3 + 1))) = some (r1, r2) := by first | (rw [hy178]; with_reducible exact H) | (have H2_ := (yV _ _).symm.trans H; rw [hy178]; with_reducible exact H2_) | (have H2_ := (yV _ _).symm.trans H; with_reducible exact H2_) | with_reducible exact H | (rw [hy178]; exact H) | exact H
                have Ny178 := zK hy178
                clear hy178
                have H' := zK H
                clear H
                obtain ⟨Ao24, co24, eo24⟩ := Kd.R_slice HO_12.out
                subst eo24
                go_wp2_with (first | ((with_reducible refine gate_callee (f := 49) rfl ?_); refine goesL_ (some 73) rfl rfl Try.func49 (by kernel_rfl) rfl #[.slice A0 l0.length c0, .slice Ao24 x12_4.length co24] rfl (by (try simp only [yH, yI, yJ]); first | done | rfl | (simp only [yG, yF]; rfl)) ?_; (with_reducible refine (soft_Mean.calls k4 _ _ l0 _ _ x12_4 t176 t177 _ ?side1 ?side2 ?side3 ?side4 A22.out).mono ?_); (case side1 => repeat (first | exact (yc HR0.out HB.out) | (with_reducible refine yS ?_ _) | (with_reducible refine yT ?_ _) | (with_reducible refine yU ?_))); (case side2 => exact HC0.out); (case side3 => repeat (first | exact (yM HO_12.out).2.2 | (with_reducible refine yS ?_ _) | (with_reducible refine yT ?_ _) | (with_reducible refine yU ?_))); (case side4 => exact (yM HO_12.out).2.1); rintro e w' ⟨rfl, ⟨nd, rfl⟩⟩; refine ⟨_, rfl, ?_⟩) | ((with_reducible refine gate_builtin (b := .append) (xs := #[.tmp 76, .tmp 78]) rfl ?_); at_builtin; refine Kd.R_append (Kd.int .i8) (w0 := w) w.heap.size rfl (.tmp 76) (.tmp 78) 22 53 (.int .i8 0) 1 rfl Try.underlying22 info53 rfl (by decide) (by omega) u10 x10_3 t176 [.int .i8 t176] (fun k_ => some k_ ≠ (.slice Ao24 x12_4.length co24 : Value).ownBlock) (fun _ => False) rfl rfl ?aP (fun _ hk => hk.elim) ?aF ?aO ?aB ?aS ?aL ?_; (case aP => exact rfl); (case aB => exact (by repeat (first | (with_reducible first | exact HB.out | apply zJ | apply zD | apply zE) | exact HB.out))); (case aF => exact (fun k_ hk => Kd.fresh' (Kd.R_lt (by (with_reducible repeat (first | apply zL | apply zM | apply zN)); exact HO_12.out)) k_ hk)); (case aO => exact (by (with_reducible repeat (first | apply zL | apply zM | apply zN)); exact HO_10.out)); (case aS => exact (yK (by repeat (first | (with_reducible first | exact HB.out | apply zJ | apply zD | apply zE) | exact HB.out)))); (case aL => have := LMc23.out; omega); intro v179 w25 ho hb hg hat; rw [← Ny178.out] at ho; have n0_ := zK (Kd.R_after (ok := (fun _ => True)) (by (with_reducible repeat (first | apply zL | apply zM | apply zN)); exact yd HO_12.out (fun _ hk => ⟨trivial, hk⟩)) hg hat); have n1_ := zK (hb); have n2_ := zK (ho); clear HO_12 HB HO_10; have HO_12 := n0_; have HB := n1_; have HO180 := n2_; clear n0_ n1_ n2_ ho hb hg hat))
                go_roundg k4
                case measure => have := HJ2.out; have := HK2.out; have := HK3.out; have := HK4.out; omega
                case rel => exact ⟨(y178), (wrap64 (x53_3 + 1)), (by first | rfl | (simp; done) | (simp [*]; done)), H', ⟨by have := HJ2.out; have := HK2.out; have := HK3.out; have := HK4.out; omega⟩, ⟨by (with_reducible repeat (first | apply zL | apply zM | apply zN)); exact yd HO180.out (fun _ hk => trivial)⟩, ⟨by repeat (first | (with_reducible first | exact HB.out | apply zJ | apply zD | apply zE) | exact HB.out)⟩⟩
               ·rw [if_neg c23] at H
                exact absurd H (by simp)
           ·rw [if_neg c14] at H
            have c14b0 : decide (x53_3 < ((rd_L1 l1 0).length : Int)) = false := yD c14
            clear c14
            simp only [yZ, ya] at H
            obtain ⟨rfl, rfl⟩ := H
            go_wp2
            go_ret2
            exact ⟨_, by first | rfl | (simp [errW_none, errW_some] <;> rfl) | (simp [*, errW_none, errW_some] <;> rfl), by (with_reducible repeat (first | apply zL | apply zM | apply zN)); exact HO_10.out, by repeat (first | (with_reducible first | exact HB.out | apply zJ | apply zD | apply zE) | exact HB.out)⟩
        ·rw [if_neg c13] at H
         exact absurd H (by simp)
       ·rw [if_neg c12] at H
        have c12b0 : (t169 == 0) = false := beq_eq_false_iff_ne.mpr c12
        have c12b1 : (t169 != 0) = true := bne_iff_ne.mpr c12
        simp only [yZ, ya] at H
        obtain ⟨rfl, rfl⟩ := H
        go_wp2_with (first | ((with_reducible refine gate_callee (f := 48) rfl ?_); refine goesL_ (some 43) rfl rfl Try.func48 (by kernel_rfl) rfl #[.slice A0 l0.length c0] rfl (by (try simp only [yH, yI, yJ]); first | done | rfl | (simp only [yG, yF]; rfl)) ?_; (with_reducible refine (soft_total.calls k2 _ _ l0 t168 t169 _ ?side1 ?side2 A11.out).mono ?_); (case side1 => repeat (first | exact (yc HR0.out HB.out) | (with_reducible refine yS ?_ _) | (with_reducible refine yT ?_ _) | (with_reducible refine yU ?_))); (case side2 => exact HC0.out); rintro e w' ⟨rfl, ⟨nd, rfl⟩⟩; refine ⟨_, rfl, ?_⟩))
        go_ret2
        exact ⟨_, by first | rfl | (simp [errW_none, errW_some] <;> rfl) | (simp [*, errW_none, errW_some] <;> rfl), by first | exact Kd.R_nil _ _ _ _ _ | exact Kd.N_nil _ _ _ _ _ | exact Kd.V_nil _ _ _ _ _ | exact Kd.Q_nil _ _ _ _ _ | exact Kd.S_nil _ _ _ _ _, by repeat (first | (with_reducible first | exact HB.out | apply zJ | apply zD | apply zE) | exact HB.out)⟩

/-! ### attend_Head: function 15 -/
def attend_Head.f (k : Nat) (l0 : List Int) (l1 : List (List Int)) (l2 : List (List Int)) (a3 : Int) : Option (List Int × Int) := (attend_Scores.f k l0 l1 a3).bind fun bt181 => (if bt181.2 = 0 then (if (l2.length : Int) = (l1.length : Int) then ((attend_fit.f k l0 l2).bind fun t185 => (if t185 = true then ((soft_Weights.f k bt181.1).bind fun bt186 => (if bt186.2 = 0 then ((soft_Means.f k bt186.1 l2).bind fun bt190 => (some (bt190.1, bt190.2))) else (some (([] : List Int), bt186.2)))) else (some (([] : List Int), 191)))) else (some (([] : List Int), 191))) else (some (([] : List Int), bt181.2)))
theorem attend_Head.mono : ∀ a0 a1 a2 a3 k, LeO (attend_Head.f k a0 a1 a2 a3) (attend_Head.f (k + 1) a0 a1 a2 a3) := by
 intro a0 a1 a2 a3 k
 unfold attend_Head.f
 repeat' first
   | (with_reducible exact attend_Scores.mono _ _ _ _)
   | (with_reducible exact attend_fit.mono _ _ _)
   | (with_reducible exact soft_Means.mono _ _ _)
   | (with_reducible exact soft_Weights.mono _ _)
   | (with_reducible exact yR _)
   | (with_reducible exact yO _)
   | (with_reducible refine yQ ?_ ?_)
   | (with_reducible refine yP ?_ (fun _ => ?_))
   | exact attend_Scores.mono _ _ _ _
   | exact attend_fit.mono _ _ _
   | exact soft_Means.mono _ _ _
   | exact soft_Weights.mono _ _
   | exact yO _
   | refine yQ ?_ ?_
   | refine yP ?_ (fun _ => ?_)
set_option maxHeartbeats 8000000 in
set_option maxRecDepth 100000 in
theorem attend_Head.calls (k : Nat) (A0 : Option Addr) (c0 : Nat) (l0 : List Int) (A1 : Option Addr) (c1 : Nat) (l1 : List (List Int)) (A2 : Option Addr) (c2 : Nat) (l2 : List (List Int)) (a3 : Int) (r1 : List Int) (r2 : Int) (w : World) (hr0 : Kd.C (Kd.int .i8) w A0 l0.length l0) (hc0 : l0.length ≤ c0) (hr1 : Kd.C (Kd.slice 53 (Kd.int .i8)) w A1 l1.length l1) (hc1 : l1.length ≤ c1) (hr2 : Kd.C (Kd.slice 53 (Kd.int .i8)) w A2 l2.length l2) (hc2 : l2.length ≤ c2) (h : attend_Head.f k l0 l1 l2 a3 = some (r1, r2)) :
  Calls Try.prog 15 #[.slice A0 l0.length c0, .slice A1 l1.length c1, .slice A2 l2.length c2, .int .i64 a3] w fun e w' => ∃ v0_ : Value, e = .returned (.tuple #[v0_, .int .i64 r2]) ∧ Kd.R (Kd.int .i8) 53 w' w.heap.size (fun _ => True) v0_ r1 ∧ Below w.heap.size w w' := by
 have HR0 := zK hr0
 have HC0 := zK hc0
 clear hr0 hc0
 have HR1 := zK hr1
 have HC1 := zK hc1
 clear hr1 hc1
 have HR2 := zK hr2
 have HC2 := zK hc2
 clear hr2 hc2
 have HB := zK (Below.refl w.heap.size w)
 have H : ((attend_Scores.f k l0 l1 a3).bind fun bt181 => (if bt181.2 = 0 then (if (l2.length : Int) = (l1.length : Int) then ((attend_fit.f k l0 l2).bind fun t185 => (if t185 = true then ((soft_Weights.f k bt181.1).bind fun bt186 => (if bt186.2 = 0 then ((soft_Means.f k bt186.1 l2).bind fun bt190 => (some (bt190.1, bt190.2))) else (some (([] : List Int), bt186.2)))) else (some (([] : List Int), 191)))) else (some (([] : List Int), 191))) else (some (([] : List Int), bt181.2)))) = some (r1, r2) := h
 clear h
 replace H := yA.mp H
 obtain ⟨⟨t181, t182⟩, A50, H⟩ := H
 replace H : (if t182 = 0 then (if (l2.length : Int) = (l1.length : Int) then ((attend_fit.f k l0 l2).bind fun t185 => (if t185 = true then ((soft_Weights.f k t181).bind fun bt186 => (if bt186.2 = 0 then ((soft_Means.f k bt186.1 l2).bind fun bt190 => (some (bt190.1, bt190.2))) else (some (([] : List Int), bt186.2)))) else (some (([] : List Int), 191)))) else (some (([] : List Int), 191))) else (some (([] : List Int), t182))) = some (r1, r2) := H
 have A5 := zK A50
 clear A50
 by_cases c6 : t182 = 0
 ·rw [if_pos c6] at H
  have c6b0 : (t182 == 0) = true := beq_iff_eq.mpr c6
  have c6b1 : (t182 != 0) = false := bne_eq_false_iff_eq.mpr c6
  clear c6
  by_cases c7 : (l2.length : Int) = (l1.length : Int)
  ·rw [if_pos c7] at H
   have c7b0 : ((l2.length : Int) == (l1.length : Int)) = true := beq_iff_eq.mpr c7
   have c7b1 : ((l2.length : Int) != (l1.length : Int)) = false := bne_eq_false_iff_eq.mpr c7
   have c7b2 : (l2.length == l1.length) = true := by first | simpa using c7 | (simp at c7 ⊢; omega)
   clear c7
   replace H := yA.mp H
   obtain ⟨t185, A80, H⟩ := H
   replace H : (if t185 = true then ((soft_Weights.f k t181).bind fun bt186 => (if bt186.2 = 0 then ((soft_Means.f k bt186.1 l2).bind fun bt190 => (some (bt190.1, bt190.2))) else (some (([] : List Int), bt186.2)))) else (some (([] : List Int), 191))) = some (r1, r2) := H
   have A8 := zK A80
   clear A80
   by_cases c9 : t185 = true
   ·subst c9
    have H1 : ((soft_Weights.f k t181).bind fun bt186 => (if bt186.2 = 0 then ((soft_Means.f k bt186.1 l2).bind fun bt190 => (some (bt190.1, bt190.2))) else (some (([] : List Int), bt186.2)))) = some (r1, r2) := by rw [if_pos rfl] at H; exact H
    clear H
    have H := H1
    clear H1
    replace H := yA.mp H
    obtain ⟨⟨t186, t187⟩, A100, H⟩ := H
    replace H : (if t187 = 0 then ((soft_Means.f k t186 l2).bind fun bt190 => (some (bt190.1, bt190.2))) else (some (([] : List Int), t187))) = some (r1, r2) := H
    have A10 := zK A100
    clear A100
    by_cases c11 : t187 = 0
    ·rw [if_pos c11] at H
     have c11b0 : (t187 == 0) = true := beq_iff_eq.mpr c11
     have c11b1 : (t187 != 0) = false := bne_eq_false_iff_eq.mpr c11
     clear c11
     replace H := yA.mp H
     obtain ⟨⟨t190, t191⟩, A120, H⟩ := H
     replace H : (some (t190, t191)) = some (r1, r2) := H
     have A12 := zK A120
     clear A120
     simp only [yZ, ya] at H
     obtain ⟨rfl, rfl⟩ := H
     go_enter Try.func15, Try.ntmps15
     go_wp2_with (first | ((with_reducible refine gate_callee (f := 11) rfl ?_); refine goesL_ (some 17) rfl rfl Try.func11 (by kernel_rfl) rfl #[.slice A0 l0.length c0, .slice A1 l1.length c1, .int .i64 a3] rfl (by (try simp only [yH, yI, yJ]); first | done | rfl | (simp only [yG, yF]; rfl)) ?_; (with_reducible refine (attend_Scores.calls k _ _ l0 _ _ l1 a3 t181 t182 _ ?side1 ?side2 ?side3 ?side4 A5.out).mono ?_); (case side1 => repeat (first | exact HR0.out | (with_reducible refine yS ?_ _) | (with_reducible refine yT ?_ _) | (with_reducible refine yU ?_))); (case side2 => exact HC0.out); (case side3 => repeat (first | exact HR1.out | (with_reducible refine yS ?_ _) | (with_reducible refine yT ?_ _) | (with_reducible refine yU ?_))); (case side4 => exact HC1.out); rintro e w13 ⟨v183, rfl, ho0, hb⟩; refine ⟨_, rfl, ?_⟩; have n0_ := zK (Kd.R_lower ho0 (yK (by repeat (first | (with_reducible first | exact HB.out | apply zJ | apply zD | apply zE) | exact HB.out)))); have n1_ := zK (yL (by repeat (first | (with_reducible first | exact HB.out | apply zJ | apply zD | apply zE) | exact HB.out)) hb); clear HB; have HO184 := n0_; have HB := n1_; clear n0_ n1_; (try clear hb); (try clear hb2); (try clear hk); (try clear hi); (try clear ho0)) | (go_at_call 27; (with_reducible refine (attend_fit.calls k _ _ l0 _ _ l2 true _ ?side1 ?side2 ?side3 ?side4 A8.out).mono ?_); (case side1 => repeat (first | exact (yc HR0.out HB.out) | (with_reducible refine yS ?_ _) | (with_reducible refine yT ?_ _) | (with_reducible refine yU ?_))); (case side2 => exact HC0.out); (case side3 => repeat (first | exact (yc HR2.out HB.out) | (with_reducible refine yS ?_ _) | (with_reducible refine yT ?_ _) | (with_reducible refine yU ?_))); (case side4 => exact HC2.out); rintro e w' ⟨rfl, ⟨nd, rfl⟩⟩; obtain ⟨Ao14, co14, eo14⟩ := Kd.R_slice HO184.out; subst eo14) | ((with_reducible refine gate_callee (f := 33) rfl ?_); refine goesL_ (some 38) rfl rfl Try.func33 (by kernel_rfl) rfl #[.slice Ao14 t181.length co14] rfl (by (try simp only [yH, yI, yJ]); first | done | rfl | (simp only [yG, yF]; rfl)) ?_; (with_reducible refine (soft_Weights.calls k _ _ t181 t186 t187 _ ?side1 ?side2 A10.out).mono ?_); (case side1 => repeat (first | exact (yM HO184.out).2.2 | (with_reducible refine yS ?_ _) | (with_reducible refine yT ?_ _) | (with_reducible refine yU ?_))); (case side2 => exact (yM HO184.out).2.1); rintro e w15 ⟨v188, rfl, ho0, hb⟩; refine ⟨_, rfl, ?_⟩; have n0_ := zK (Kd.R_elder' (by (with_reducible repeat (first | apply zL | apply zM | apply zN)); exact HO184.out) (Kd.R_base ho0) hb); have n1_ := zK (Kd.R_lower (Kd.R_new' ho0 (Kd.R_lt (by (with_reducible repeat (first | apply zL | apply zM | apply zN)); exact HO184.out))) (yK (by repeat (first | (with_reducible first | exact HB.out | apply zJ | apply zD | apply zE) | exact HB.out)))); have n2_ := zK (yL (by repeat (first | (with_reducible first | exact HB.out | apply zJ | apply zD | apply zE) | exact HB.out)) hb); clear HO184 HB; have HO184 := n0_; have HO189 := n1_; have HB := n2_; clear n0_ n1_ n2_; (try clear hb); (try clear hb2); (try clear hk); (try clear hi); (try clear ho0); obtain ⟨Ao16, co16, eo16⟩ := Kd.R_slice HO189.out; subst eo16) | ((with_reducible refine gate_callee (f := 34) rfl ?_); refine goesL_ (some 46) rfl rfl Try.func34 (by kernel_rfl) rfl #[.slice Ao16 t186.length co16, .slice A2 l2.length c2] rfl (by (try simp only [yH, yI, yJ]); first | done | rfl | (simp only [yG, yF]; rfl)) ?_; (with_reducible refine (soft_Means.calls k _ _ t186 _ _ l2 t190 t191 _ ?side1 ?side2 ?side3 ?side4 A12.out).mono ?_); (case side1 => repeat (first | exact (yM HO189.out).2.2 | (with_reducible refine yS ?_ _) | (with_reducible refine yT ?_ _) | (with_reducible refine yU ?_))); (case side2 => exact (yM HO189.out).2.1); (case side3 => repeat (first | exact (yc HR2.out HB.out) | (with_reducible refine yS ?_ _) | (with_reducible refine yT ?_ _) | (with_reducible refine yU ?_))); (case side4 => exact HC2.out); rintro e w17 ⟨v192, rfl, ho0, hb⟩; refine ⟨_, rfl, ?_⟩; have n0_ := zK (yb (by (with_reducible repeat (first | apply zL | apply zM | apply zN)); exact HO184.out) hb); have n1_ := zK (yb (by (with_reducible repeat (first | apply zL | apply zM | apply zN)); exact HO189.out) hb); have n2_ := zK (Kd.R_lower ho0 (yK (by repeat (first | (with_reducible first | exact HB.out | apply zJ | apply zD | apply zE) | exact HB.out)))); have n3_ := zK (yL (by repeat (first | (with_reducible first | exact HB.out | apply zJ | apply zD | apply zE) | exact HB.out)) hb); clear HO184 HO189 HB; have HO184 := n0_; have HO189 := n1_; have HO193 := n2_; have HB := n3_; clear n0_ n1_ n2_ n3_; (try clear hb); (try clear hb2); (try clear hk); (try clear hi); (try clear ho0)))
     go_ret2
     exact ⟨_, by first | rfl | (simp [errW_none, errW_some] <;> rfl) | (simp [*, errW_none, errW_some] <;> rfl), by (with_reducible repeat (first | apply zL | apply zM | apply zN)); exact HO193.out, by repeat (first | (with_reducible first | exact HB.out | apply zJ | apply zD | apply zE) | exact HB.out)⟩
    ·rw [if_neg c11] at H
     have c11b0 : (t187 == 0) = false := beq_eq_false_iff_ne.mpr c11
     have c11b1 : (t187 != 0) = true := bne_iff_ne.mpr c11
     simp only [yZ, ya] at H
     obtain ⟨rfl, rfl⟩ := H
     go_enter Try.func15, Try.ntmps15
     go_wp2_with (first | ((with_reducible refine gate_callee (f := 11) rfl ?_); refine goesL_ (some 17) rfl rfl Try.func11 (by kernel_rfl) rfl #[.slice A0 l0.length c0, .slice A1 l1.length c1, .int .i64 a3] rfl (by (try simp only [yH, yI, yJ]); first | done | rfl | (simp only [yG, yF]; rfl)) ?_; (with_reducible refine (attend_Scores.calls k _ _ l0 _ _ l1 a3 t181 t182 _ ?side1 ?side2 ?side3 ?side4 A5.out).mono ?_); (case side1 => repeat (first | exact HR0.out | (with_reducible refine yS ?_ _) | (with_reducible refine yT ?_ _) | (with_reducible refine yU ?_))); (case side2 => exact HC0.out); (case side3 => repeat (first | exact HR1.out | (with_reducible refine yS ?_ _) | (with_reducible refine yT ?_ _) | (with_reducible refine yU ?_))); (case side4 => exact HC1.out); rintro e w18 ⟨v183, rfl, ho0, hb⟩; refine ⟨_, rfl, ?_⟩; have n0_ := zK (Kd.R_lower ho0 (yK (by repeat (first | (with_reducible first | exact HB.out | apply zJ | apply zD | apply zE) | exact HB.out)))); have n1_ := zK (yL (by repeat (first | (with_reducible first | exact HB.out | apply zJ | apply zD | apply zE) | exact HB.out)) hb); clear HB; have HO184 := n0_; have HB := n1_; clear n0_ n1_; (try clear hb); (try clear hb2); (try clear hk); (try clear hi); (try clear ho0)) | (go_at_call 27; (with_reducible refine (attend_fit.calls k _ _ l0 _ _ l2 true _ ?side1 ?side2 ?side3 ?side4 A8.out).mono ?_); (case side1 => repeat (first | exact (yc HR0.out HB.out) | (with_reducible refine yS ?_ _) | (with_reducible refine yT ?_ _) | (with_reducible refine yU ?_))); (case side2 => exact HC0.out); (case side3 => repeat (first | exact (yc HR2.out HB.out) | (with_reducible refine yS ?_ _) | (with_reducible refine yT ?_ _) | (with_reducible refine yU ?_))); (case side4 => exact HC2.out); rintro e w' ⟨rfl, ⟨nd, rfl⟩⟩; obtain ⟨Ao19, co19, eo19⟩ := Kd.R_slice HO184.out; subst eo19) | ((with_reducible refine gate_callee (f := 33) rfl ?_); refine goesL_ (some 38) rfl rfl Try.func33 (by kernel_rfl) rfl #[.slice Ao19 t181.length co19] rfl (by (try simp only [yH, yI, yJ]); first | done | rfl | (simp only [yG, yF]; rfl)) ?_; (with_reducible refine (soft_Weights.calls k _ _ t181 t186 t187 _ ?side1 ?side2 A10.out).mono ?_); (case side1 => repeat (first | exact (yM HO184.out).2.2 | (with_reducible refine yS ?_ _) | (with_reducible refine yT ?_ _) | (with_reducible refine yU ?_))); (case side2 => exact (yM HO184.out).2.1); rintro e w20 ⟨v188, rfl, ho0, hb⟩; refine ⟨_, rfl, ?_⟩; have n0_ := zK (Kd.R_elder' (by (with_reducible repeat (first | apply zL | apply zM | apply zN)); exact HO184.out) (Kd.R_base ho0) hb); have n1_ := zK (Kd.R_lower (Kd.R_new' ho0 (Kd.R_lt (by (with_reducible repeat (first | apply zL | apply zM | apply zN)); exact HO184.out))) (yK (by repeat (first | (with_reducible first | exact HB.out | apply zJ | apply zD | apply zE) | exact HB.out)))); have n2_ := zK (yL (by repeat (first | (with_reducible first | exact HB.out | apply zJ | apply zD | apply zE) | exact HB.out)) hb); clear HO184 HB; have HO184 := n0_; have HO189 := n1_; have HB := n2_; clear n0_ n1_ n2_; (try clear hb); (try clear hb2); (try clear hk); (try clear hi); (try clear ho0)))
     go_ret2
     exact ⟨_, by first | rfl | (simp [errW_none, errW_some] <;> rfl) | (simp [*, errW_none, errW_some] <;> rfl), by first | exact Kd.R_nil _ _ _ _ _ | exact Kd.N_nil _ _ _ _ _ | exact Kd.V_nil _ _ _ _ _ | exact Kd.Q_nil _ _ _ _ _ | exact Kd.S_nil _ _ _ _ _, by repeat (first | (with_reducible first | exact HB.out | apply zJ | apply zD | apply zE) | exact HB.out)⟩
   ·replace c9 := yh.mpr c9
    subst c9
    have H1 : (some (([] : List Int), 191)) = some (r1, r2) := by rw [if_neg (show ¬ (false = true) by decide)] at H; exact H
    clear H
    have H := H1
    clear H1
    simp only [yZ, ya] at H
    obtain ⟨rfl, rfl⟩ := H
    go_enter Try.func15, Try.ntmps15
    go_wp2_with (first | ((with_reducible refine gate_callee (f := 11) rfl ?_); refine goesL_ (some 17) rfl rfl Try.func11 (by kernel_rfl) rfl #[.slice A0 l0.length c0, .slice A1 l1.length c1, .int .i64 a3] rfl (by (try simp only [yH, yI, yJ]); first | done | rfl | (simp only [yG, yF]; rfl)) ?_; (with_reducible refine (attend_Scores.calls k _ _ l0 _ _ l1 a3 t181 t182 _ ?side1 ?side2 ?side3 ?side4 A5.out).mono ?_); (case side1 => repeat (first | exact HR0.out | (with_reducible refine yS ?_ _) | (with_reducible refine yT ?_ _) | (with_reducible refine yU ?_))); (case side2 => exact HC0.out); (case side3 => repeat (first | exact HR1.out | (with_reducible refine yS ?_ _) | (with_reducible refine yT ?_ _) | (with_reducible refine yU ?_))); (case side4 => exact HC1.out); rintro e w21 ⟨v183, rfl, ho0, hb⟩; refine ⟨_, rfl, ?_⟩; have n0_ := zK (Kd.R_lower ho0 (yK (by repeat (first | (with_reducible first | exact HB.out | apply zJ | apply zD | apply zE) | exact HB.out)))); have n1_ := zK (yL (by repeat (first | (with_reducible first | exact HB.out | apply zJ | apply zD | apply zE) | exact HB.out)) hb); clear HB; have HO184 := n0_; have HB := n1_; clear n0_ n1_; (try clear hb); (try clear hb2); (try clear hk); (try clear hi); (try clear ho0)) | (go_at_call 27; (with_reducible refine (attend_fit.calls k _ _ l0 _ _ l2 false _ ?side1 ?side2 ?side3 ?side4 A8.out).mono ?_); (case side1 => repeat (first | exact (yc HR0.out HB.out) | (with_reducible refine yS ?_ _) | (with_reducible refine yT ?_ _) | (with_reducible refine yU ?_))); (case side2 => exact HC0.out); (case side3 => repeat (first | exact (yc HR2.out HB.out) | (with_reducible refine yS ?_ _) | (with_reducible refine yT ?_ _) | (with_reducible refine yU ?_))); (case side4 => exact HC2.out); rintro e w' ⟨rfl, ⟨nd, rfl⟩⟩))
    go_ret2
    exact ⟨_, by first | rfl | (simp [errW_none, errW_some] <;> rfl) | (simp [*, errW_none, errW_some] <;> rfl), by first | exact Kd.R_nil _ _ _ _ _ | exact Kd.N_nil _ _ _ _ _ | exact Kd.V_nil _ _ _ _ _ | exact Kd.Q_nil _ _ _ _ _ | exact Kd.S_nil _ _ _ _ _, by repeat (first | (with_reducible first | exact HB.out | apply zJ | apply zD | apply zE) | exact HB.out)⟩
  ·rw [if_neg c7] at H
   have c7b0 : ((l2.length : Int) == (l1.length : Int)) = false := beq_eq_false_iff_ne.mpr c7
   have c7b1 : ((l2.length : Int) != (l1.length : Int)) = true := bne_iff_ne.mpr c7
   have c7b2 : (l2.length == l1.length) = false := by first | simpa using c7 | (simp at c7 ⊢; omega)
   simp only [yZ, ya] at H
   obtain ⟨rfl, rfl⟩ := H
   go_enter Try.func15, Try.ntmps15
   go_wp2_with (first | ((with_reducible refine gate_callee (f := 11) rfl ?_); refine goesL_ (some 17) rfl rfl Try.func11 (by kernel_rfl) rfl #[.slice A0 l0.length c0, .slice A1 l1.length c1, .int .i64 a3] rfl (by (try simp only [yH, yI, yJ]); first | done | rfl | (simp only [yG, yF]; rfl)) ?_; (with_reducible refine (attend_Scores.calls k _ _ l0 _ _ l1 a3 t181 t182 _ ?side1 ?side2 ?side3 ?side4 A5.out).mono ?_); (case side1 => repeat (first | exact HR0.out | (with_reducible refine yS ?_ _) | (with_reducible refine yT ?_ _) | (with_reducible refine yU ?_))); (case side2 => exact HC0.out); (case side3 => repeat (first | exact HR1.out | (with_reducible refine yS ?_ _) | (with_reducible refine yT ?_ _) | (with_reducible refine yU ?_))); (case side4 => exact HC1.out); rintro e w22 ⟨v183, rfl, ho0, hb⟩; refine ⟨_, rfl, ?_⟩; have n0_ := zK (Kd.R_lower ho0 (yK (by repeat (first | (with_reducible first | exact HB.out | apply zJ | apply zD | apply zE) | exact HB.out)))); have n1_ := zK (yL (by repeat (first | (with_reducible first | exact HB.out | apply zJ | apply zD | apply zE) | exact HB.out)) hb); clear HB; have HO184 := n0_; have HB := n1_; clear n0_ n1_; (try clear hb); (try clear hb2); (try clear hk); (try clear hi); (try clear ho0)))
   go_ret2
   exact ⟨_, by first | rfl | (simp [errW_none, errW_some] <;> rfl) | (simp [*, errW_none, errW_some] <;> rfl), by first | exact Kd.R_nil _ _ _ _ _ | exact Kd.N_nil _ _ _ _ _ | exact Kd.V_nil _ _ _ _ _ | exact Kd.Q_nil _ _ _ _ _ | exact Kd.S_nil _ _ _ _ _, by repeat (first | (with_reducible first | exact HB.out | apply zJ | apply zD | apply zE) | exact HB.out)⟩
 ·rw [if_neg c6] at H
  have c6b0 : (t182 == 0) = false := beq_eq_false_iff_ne.mpr c6
  have c6b1 : (t182 != 0) = true := bne_iff_ne.mpr c6
  simp only [yZ, ya] at H
  obtain ⟨rfl, rfl⟩ := H
  go_enter Try.func15, Try.ntmps15
  go_wp2_with (first | ((with_reducible refine gate_callee (f := 11) rfl ?_); refine goesL_ (some 17) rfl rfl Try.func11 (by kernel_rfl) rfl #[.slice A0 l0.length c0, .slice A1 l1.length c1, .int .i64 a3] rfl (by (try simp only [yH, yI, yJ]); first | done | rfl | (simp only [yG, yF]; rfl)) ?_; (with_reducible refine (attend_Scores.calls k _ _ l0 _ _ l1 a3 t181 t182 _ ?side1 ?side2 ?side3 ?side4 A5.out).mono ?_); (case side1 => repeat (first | exact HR0.out | (with_reducible refine yS ?_ _) | (with_reducible refine yT ?_ _) | (with_reducible refine yU ?_))); (case side2 => exact HC0.out); (case side3 => repeat (first | exact HR1.out | (with_reducible refine yS ?_ _) | (with_reducible refine yT ?_ _) | (with_reducible refine yU ?_))); (case side4 => exact HC1.out); rintro e w23 ⟨v183, rfl, ho0, hb⟩; refine ⟨_, rfl, ?_⟩; have n0_ := zK (Kd.R_lower ho0 (yK (by repeat (first | (with_reducible first | exact HB.out | apply zJ | apply zD | apply zE) | exact HB.out)))); have n1_ := zK (yL (by repeat (first | (with_reducible first | exact HB.out | apply zJ | apply zD | apply zE) | exact HB.out)) hb); clear HB; have HO184 := n0_; have HB := n1_; clear n0_ n1_; (try clear hb); (try clear hb2); (try clear hk); (try clear hi); (try clear ho0)))
  go_ret2
  exact ⟨_, by first | rfl | (simp [errW_none, errW_some] <;> rfl) | (simp [*, errW_none, errW_some] <;> rfl), by first | exact Kd.R_nil _ _ _ _ _ | exact Kd.N_nil _ _ _ _ _ | exact Kd.V_nil _ _ _ _ _ | exact Kd.Q_nil _ _ _ _ _ | exact Kd.S_nil _ _ _ _ _, by repeat (first | (with_reducible first | exact HB.out | apply zJ | apply zD | apply zE) | exact HB.out)⟩

end Go.Proofs.Ytmjepdhjginelaa.B
