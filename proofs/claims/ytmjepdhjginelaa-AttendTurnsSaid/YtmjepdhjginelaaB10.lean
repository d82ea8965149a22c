-- Printed by this session's own driver (wip/tools/xprint.py) over the kit's printer; given functions are this session's own.
import Derived.Test.YtmjepdhjginelaaB0
import Derived.Test.YtmjepdhjginelaaB2
import Derived.Test.YtmjepdhjginelaaB9
namespace Go.Proofs.Ytmjepdhjginelaa.B
open Go.RowKit Go.Proofs.YtmjepdhjginelaaW.PrintWords Go.Proofs.YtmjepdhjginelaaW.PrintLast Go.Proofs.YtmjepdhjginelaaW.PrintMore
attribute [local go_sem] max2_int min2_int max_two min_two max_three min_three max_four min_four   -- for this text's walks alone
set_option linter.unusedVariables false
set_option linter.unusedSimpArgs false

/-! ### r11_Mean: function 53 -/
mutual
def r11_Mean.j0 : Nat → List Int → List Int → Bool → Option (Int × Int)
 | 0, _, _, _ => none
 | k + 1, x0, x1, x22 => if x22 = true then (some (0, 1)) else ((r11_good.f k x0).bind fun bt292 => (if bt292.2 = true then (r11_Mean.l0 k x0 x1 bt292.1 0 0) else (some (0, 110))))
def r11_Mean.l0 : Nat → List Int → List Int → Int → Int → Int → Option (Int × Int)
 | 0, _, _, _, _, _ => none
 | k + 1, x0, x1, x6, x8, x9 => if x9 < (x0.length : Int) then (if 0 ≤ x9 then (if x9 < (x1.length : Int) then (r11_Mean.l0 k x0 x1 x6 (wrap64 (x8 + (wrap64 ((rd x0 x9) * (wrap64 (rd x1 x9)))))) (wrap64 (x9 + 1))) else (none)) else (none)) else ((r02_Floor.f (wrap64 ((wrap64 (2 * x8)) + x6)) (wrap64 (2 * x6))).bind fun bt296 => (some (IntKind.i8.wrap (bt296.1), 0)))
end
def r11_Mean.f (k : Nat) (l0 : List Int) (l1 : List Int) : Option (Int × Int) := if (l0.length : Int) = (l1.length : Int) then (r11_Mean.j0 k l0 l1 (decide ((l0.length : Int) > 512))) else (r11_Mean.j0 k l0 l1 true)
theorem r11_Mean.mono_l : ∀ k, (∀ y0 y1 y2, LeO (r11_Mean.j0 k y0 y1 y2) (r11_Mean.j0 (k + 1) y0 y1 y2)) ∧ (∀ y0 y1 y2 y3 y4, LeO (r11_Mean.l0 k y0 y1 y2 y3 y4) (r11_Mean.l0 (k + 1) y0 y1 y2 y3 y4))
 | 0 => ⟨fun _ _ _ r h => by simp [r11_Mean.j0] at h, fun _ _ _ _ _ r h => by simp [r11_Mean.l0] at h⟩
 | k + 1 => by
  obtain ⟨ih0, ih1⟩ := r11_Mean.mono_l k
  refine ⟨?_, ?_⟩ <;> (intros; first | unfold r11_Mean.j0 | unfold r11_Mean.l0)
  all_goals repeat' first
   | (with_reducible exact ih0 _ _ _)
   | (with_reducible exact ih1 _ _ _ _ _)
   | (with_reducible exact r11_good.mono _ _)
   | (with_reducible exact yR _)
   | (with_reducible exact yO _)
   | (with_reducible refine yQ ?_ ?_)
   | (with_reducible refine yP ?_ (fun _ => ?_))
   | exact ih0 _ _ _
   | exact ih1 _ _ _ _ _
   | exact r11_good.mono _ _
   | exact yO _
   | refine yQ ?_ ?_
   | refine yP ?_ (fun _ => ?_)
theorem r11_Mean.mono : ∀ a0 a1 k, LeO (r11_Mean.f k a0 a1) (r11_Mean.f (k + 1) a0 a1) := by
 intro a0 a1 k
 obtain ⟨ih0, ih1⟩ := r11_Mean.mono_l k
 unfold r11_Mean.f
 repeat' first
   | (with_reducible exact ih0 _ _ _)
   | (with_reducible exact ih1 _ _ _ _ _)
   | (with_reducible exact r11_good.mono _ _)
   | (with_reducible exact yR _)
   | (with_reducible exact yO _)
   | (with_reducible refine yQ ?_ ?_)
   | (with_reducible refine yP ?_ (fun _ => ?_))
   | exact ih0 _ _ _
   | exact ih1 _ _ _ _ _
   | exact r11_good.mono _ _
   | exact yO _
   | refine yQ ?_ ?_
   | refine yP ?_ (fun _ => ?_)
set_option maxHeartbeats 8000000 in
set_option maxRecDepth 100000 in
theorem r11_Mean.calls (k : Nat) (A0 : Option Addr) (c0 : Nat) (l0 : List Int) (A1 : Option Addr) (c1 : Nat) (l1 : List Int) (r1 : Int) (r2 : Int) (w : World) (hr0 : Kd.C (Kd.int .i64) w A0 l0.length l0) (hc0 : l0.length ≤ c0) (hr1 : Kd.C (Kd.int .i8) w A1 l1.length l1) (hc1 : l1.length ≤ c1) (h : r11_Mean.f k l0 l1 = some (r1, r2)) :
  Calls Try.prog 53 #[.slice A0 l0.length c0, .slice A1 l1.length c1] w fun e w' => e = .returned (.tuple #[.int .i8 r1, .int .i64 r2]) ∧ Drawn0 w w' := by
 have HR0 := zK hr0
 have HC0 := zK hc0
 clear hr0 hc0
 have HR1 := zK hr1
 have HC1 := zK hc1
 clear hr1 hc1
 have H : (if (l0.length : Int) = (l1.length : Int) then (r11_Mean.j0 k l0 l1 (decide ((l0.length : Int) > 512))) else (r11_Mean.j0 k l0 l1 true)) = some (r1, r2) := h
 clear h
 have HC3 := zK H
 clear H
 go_enter Try.func53, Try.ntmps53
 go_upto_region 1 with (fail)
 repeat (go_quiet (fail); go_upto_region 1 with (fail))
 go_cut [22] (fun v22 wc => ∃ (kq : Nat) (x22_2 : Bool), v22 = .bool x22_2 ∧ Aside0 (r11_Mean.j0 kq l0 l1 x22_2 = some (r1, r2)) ∧ Aside0 (kq ≤ k) ∧ Drawn0 w wc)
 case first =>
  have H := HC3.out
  clear HC3
  by_cases c4 : (l0.length : Int) = (l1.length : Int)
  ·rw [if_pos c4] at H
   have c4b0 : ((l0.length : Int) == (l1.length : Int)) = true := beq_iff_eq.mpr c4
   have c4b1 : ((l0.length : Int) != (l1.length : Int)) = false := bne_eq_false_iff_eq.mpr c4
   have c4b2 : (l0.length == l1.length) = true := by first | simpa using c4 | (simp at c4 ⊢; omega)
   clear c4
   (first | rw [c4b0] | (simp only [i64_w, i32_w]; rw [c4b0]) | skip)
   have H' := zK H
   clear H
   go_wp2
   repeat (go_quiet (fail); try go_wp2)
   go_meet
   case rel => exact ⟨_, (decide ((l0.length : Int) > 512)), (by first | rfl | (simp; done) | (simp [*]; done)), H', ⟨by first | omega | exact yN _⟩, by repeat (first | exact Drawn0.refl _ | apply Drawn0.step)⟩
  ·rw [if_neg c4] at H
   have c4b0 : ((l0.length : Int) == (l1.length : Int)) = false := beq_eq_false_iff_ne.mpr c4
   have c4b1 : ((l0.length : Int) != (l1.length : Int)) = true := bne_iff_ne.mpr c4
   have c4b2 : (l0.length == l1.length) = false := by first | simpa using c4 | (simp at c4 ⊢; omega)
   (first | rw [c4b0] | (simp only [i64_w, i32_w]; rw [c4b0]) | skip)
   have H' := zK H
   clear H
   go_wp2
   repeat (go_quiet (fail); try go_wp2)
   go_meet
   case rel => exact ⟨_, (true), (by first | rfl | (simp; done) | (simp [*]; done)), H', ⟨by first | omega | exact yN _⟩, by repeat (first | exact Drawn0.refl _ | apply Drawn0.step)⟩
 case rest =>
  clear HC3
  try clear c1
  try clear p2
  try clear c4
  try clear c4b0
  try clear c4b1
  try clear c4b2
  obtain ⟨kq, x22_2, rfl, HA, HJ2, ⟨mc2, rfl⟩⟩ := hcut
  cases kq with
  | zero => exact absurd HA.out (by simp [r11_Mean.j0])
  | succ kj2 =>
   have H := HA.out
   clear HA
   simp only [r11_Mean.j0] at H
   by_cases c5 : x22_2 = true
   ·subst c5
    have H1 : (some (0, 1)) = some (r1, r2) := by rw [if_pos rfl] at H; exact H
    clear H
    have H := H1
    clear H1
    simp only [yZ, ya] at H
    obtain ⟨rfl, rfl⟩ := H
    go_wp2
    repeat (go_quiet (fail); try go_wp2)
    go_ret2
    exact ⟨by first | rfl | (simp; done) | (simp [*]; done), by repeat (first | exact Drawn0.refl _ | apply Drawn0.step)⟩
   ·replace c5 := yh.mpr c5
    subst c5
    have H1 : ((r11_good.f kj2 l0).bind fun bt292 => (if bt292.2 = true then (r11_Mean.l0 kj2 l0 l1 bt292.1 0 0) else (some (0, 110)))) = some (r1, r2) := by rw [if_neg (show ¬ (false = true) by decide)] at H; exact H
    clear H
    have H := H1
    clear H1
    replace H := yA.mp H
    obtain ⟨⟨t292, t293⟩, A60, H⟩ := H
    replace H : (if t293 = true then (r11_Mean.l0 kj2 l0 l1 t292 0 0) else (some (0, 110))) = some (r1, r2) := H
    have A6 := zK A60
    clear A60
    by_cases c7 : t293 = true
    ·subst c7
     have H1 : (r11_Mean.l0 kj2 l0 l1 t292 0 0) = some (r1, r2) := by rw [if_pos rfl] at H; exact H
     clear H
     have H := H1
     clear H1
     have H' := zK H
     clear H
     go_wp2_with (first | (go_at_call 52; (with_reducible refine (r11_good.calls kj2 _ _ l0 t292 true _ ?side1 ?side2 A6.out).mono ?_); (case side1 => repeat (first | exact HR0.out | (with_reducible refine yS ?_ _) | (with_reducible refine yT ?_ _) | (with_reducible refine yU ?_))); (case side2 => exact HC0.out); rintro e w' ⟨rfl, ⟨nd, rfl⟩⟩; (try first | exact ⟨rfl, _, World.drewN_drewN _ _ _⟩ | exact ⟨rfl, _, Eq.trans (World.drewN_drewN _ _ _) (congrArg (World.drewN _) (Nat.add_assoc _ _ _))⟩)))
     repeat (go_quiet (first | (go_at_call 52; (with_reducible refine (r11_good.calls kj2 _ _ l0 t292 true _ ?side1 ?side2 A6.out).mono ?_); (case side1 => repeat (first | exact HR0.out | (with_reducible refine yS ?_ _) | (with_reducible refine yT ?_ _) | (with_reducible refine yU ?_))); (case side2 => exact HC0.out); rintro e w' ⟨rfl, ⟨nd, rfl⟩⟩; (try first | exact ⟨rfl, _, World.drewN_drewN _ _ _⟩ | exact ⟨rfl, _, Eq.trans (World.drewN_drewN _ _ _) (congrArg (World.drewN _) (Nat.add_assoc _ _ _))⟩))); try go_wp2_with (first | (go_at_call 52; (with_reducible refine (r11_good.calls kj2 _ _ l0 t292 true _ ?side1 ?side2 A6.out).mono ?_); (case side1 => repeat (first | exact HR0.out | (with_reducible refine yS ?_ _) | (with_reducible refine yT ?_ _) | (with_reducible refine yU ?_))); (case side2 => exact HC0.out); rintro e w' ⟨rfl, ⟨nd, rfl⟩⟩; (try first | exact ⟨rfl, _, World.drewN_drewN _ _ _⟩ | exact ⟨rfl, _, Eq.trans (World.drewN_drewN _ _ _) (congrArg (World.drewN _) (Nat.add_assoc _ _ _))⟩))))
     go_loopg [8, 9] kj2 (fun kq v8 v9 w' => ∃ (x8_2 : Int) (x9_2 : Int), v8 = .int .i64 x8_2 ∧ v9 = .int .i64 x9_2 ∧ Aside0 (r11_Mean.l0 kq l0 l1 t292 x8_2 x9_2 = some (r1, r2)) ∧ Aside0 (kq ≤ kj2) ∧ Drawn0 w w')
     case atStart => exact ⟨(0), (0), (by first | rfl | (simp; done) | (simp [*]; done)), (by first | rfl | (simp; done) | (simp [*]; done)), H', ⟨yN _⟩, by repeat (first | exact Drawn0.refl _ | apply Drawn0.step)⟩
     case round =>
      clear H'
      try clear c1
      try clear c2
      try clear p2
      try clear c4
      try clear c4b0
      try clear c4b1
      try clear c4b2
      try clear c5
      try clear c7
      try clear p2
      obtain ⟨x8_2, x9_2, rfl, rfl, HA, HK2, ⟨m2, rfl⟩⟩ := hrel
      cases gk with
      | zero => exact absurd HA.out (by simp [r11_Mean.l0])
      | succ k2 =>
       have H := HA.out
       clear HA
       simp only [r11_Mean.l0] at H
       by_cases c8 : x9_2 < (l0.length : Int)
       ·rw [if_pos c8] at H
        have c8b0 : decide (x9_2 < (l0.length : Int)) = true := yC c8
        clear c8
        by_cases c9 : 0 ≤ x9_2
        ·rw [if_pos c9] at H
         have c9b0 : decide (0 ≤ x9_2) = true := yC c9
         clear c9
         by_cases c10 : x9_2 < (l1.length : Int)
         ·rw [if_pos c10] at H
          have c10b0 : decide (x9_2 < (l1.length : Int)) = true := yC c10
          clear c10
          have H' := zK H
          clear H
          have p294 : 0 ≤ (x9_2 : Int) := yB (by first | (with_reducible assumption) | assumption)
          have q294 : x9_2 < (l0.length : Int) := yB (by first | (with_reducible assumption) | assumption)
          obtain ⟨ad294, e294, hx294_0⟩ := Kd.at_int HR0.out x9_2 p294 q294
          cases e294
          replace p294 := yg p294
          replace q294 := yg q294
          have p295 : 0 ≤ (x9_2 : Int) := yB (by first | (with_reducible assumption) | assumption)
          have q295 : x9_2 < (l1.length : Int) := yB (by first | (with_reducible assumption) | assumption)
          obtain ⟨ad295, e295, hx295_0⟩ := Kd.at_int HR1.out x9_2 p295 q295
          cases e295
          replace p295 := yg p295
          replace q295 := yg q295
          go_wp2
          repeat (go_quiet (fail); try go_wp2)
          go_roundg k2
          case measure => have := HJ2.out; have := HK2.out; omega
          case rel => exact ⟨(wrap64 (x8_2 + (wrap64 ((rd l0 x9_2) * (wrap64 (rd l1 x9_2)))))), (wrap64 (x9_2 + 1)), (by first | rfl | (simp; done) | (simp [*]; done)), (by first | rfl | (simp; done) | (simp [*]; done)), H', ⟨by have := HJ2.out; have := HK2.out; omega⟩, by repeat (first | exact Drawn0.refl _ | apply Drawn0.step)⟩
         ·rw [if_neg c10] at H
          exact absurd H (by simp)
        ·rw [if_neg c9] at H
         exact absurd H (by simp)
       ·rw [if_neg c8] at H
        have c8b0 : decide (x9_2 < (l0.length : Int)) = false := yD c8
        clear c8
        replace H := yA.mp H
        obtain ⟨⟨t296, t297, t298⟩, A110, H⟩ := H
        replace H : (some (IntKind.i8.wrap (t296), 0)) = some (r1, r2) := H
        have A11 := zK A110
        clear A110
        simp only [yZ, ya] at H
        obtain ⟨rfl, rfl⟩ := H
        go_wp2_with (first | (go_at_call 58; (with_reducible refine (r02_Floor.calls (wrap64 ((wrap64 (2 * x8_2)) + t292)) (wrap64 (2 * t292)) t296 t297 t298 _ A11.out).mono ?_); rintro e w' ⟨rfl, ⟨nd, rfl⟩⟩; (try first | exact ⟨rfl, _, World.drewN_drewN _ _ _⟩ | exact ⟨rfl, _, Eq.trans (World.drewN_drewN _ _ _) (congrArg (World.drewN _) (Nat.add_assoc _ _ _))⟩)))
        repeat (go_quiet (first | (go_at_call 58; (with_reducible refine (r02_Floor.calls (wrap64 ((wrap64 (2 * x8_2)) + t292)) (wrap64 (2 * t292)) t296 t297 t298 _ A11.out).mono ?_); rintro e w' ⟨rfl, ⟨nd, rfl⟩⟩; (try first | exact ⟨rfl, _, World.drewN_drewN _ _ _⟩ | exact ⟨rfl, _, Eq.trans (World.drewN_drewN _ _ _) (congrArg (World.drewN _) (Nat.add_assoc _ _ _))⟩))); try go_wp2_with (first | (go_at_call 58; (with_reducible refine (r02_Floor.calls (wrap64 ((wrap64 (2 * x8_2)) + t292)) (wrap64 (2 * t292)) t296 t297 t298 _ A11.out).mono ?_); rintro e w' ⟨rfl, ⟨nd, rfl⟩⟩; (try first | exact ⟨rfl, _, World.drewN_drewN _ _ _⟩ | exact ⟨rfl, _, Eq.trans (World.drewN_drewN _ _ _) (congrArg (World.drewN _) (Nat.add_assoc _ _ _))⟩))))
        go_ret2
        exact ⟨by first | rfl | (simp; done) | (simp [*]; done), by repeat (first | exact Drawn0.refl _ | apply Drawn0.step)⟩
    ·replace c7 := yh.mpr c7
     subst c7
     have H1 : (some (0, 110)) = some (r1, r2) := by rw [if_neg (show ¬ (false = true) by decide)] at H; exact H
     clear H
     have H := H1
     clear H1
     simp only [yZ, ya] at H
     obtain ⟨rfl, rfl⟩ := H
     go_wp2_with (first | (go_at_call 52; (with_reducible refine (r11_good.calls kj2 _ _ l0 t292 false _ ?side1 ?side2 A6.out).mono ?_); (case side1 => repeat (first | exact HR0.out | (with_reducible refine yS ?_ _) | (with_reducible refine yT ?_ _) | (with_reducible refine yU ?_))); (case side2 => exact HC0.out); rintro e w' ⟨rfl, ⟨nd, rfl⟩⟩; (try first | exact ⟨rfl, _, World.drewN_drewN _ _ _⟩ | exact ⟨rfl, _, Eq.trans (World.drewN_drewN _ _ _) (congrArg (World.drewN _) (Nat.add_assoc _ _ _))⟩)))
     repeat (go_quiet (first | (go_at_call 52; (with_reducible refine (r11_good.calls kj2 _ _ l0 t292 false _ ?side1 ?side2 A6.out).mono ?_); (case side1 => repeat (first | exact HR0.out | (with_reducible refine yS ?_ _) | (with_reducible refine yT ?_ _) | (with_reducible refine yU ?_))); (case side2 => exact HC0.out); rintro e w' ⟨rfl, ⟨nd, rfl⟩⟩; (try first | exact ⟨rfl, _, World.drewN_drewN _ _ _⟩ | exact ⟨rfl, _, Eq.trans (World.drewN_drewN _ _ _) (congrArg (World.drewN _) (Nat.add_assoc _ _ _))⟩))); try go_wp2_with (first | (go_at_call 52; (with_reducible refine (r11_good.calls kj2 _ _ l0 t292 false _ ?side1 ?side2 A6.out).mono ?_); (case side1 => repeat (first | exact HR0.out | (with_reducible refine yS ?_ _) | (with_reducible refine yT ?_ _) | (with_reducible refine yU ?_))); (case side2 => exact HC0.out); rintro e w' ⟨rfl, ⟨nd, rfl⟩⟩; (try first | exact ⟨rfl, _, World.drewN_drewN _ _ _⟩ | exact ⟨rfl, _, Eq.trans (World.drewN_drewN _ _ _) (congrArg (World.drewN _) (Nat.add_assoc _ _ _))⟩))))
     go_ret2
     exact ⟨by first | rfl | (simp; done) | (simp [*]; done), by repeat (first | exact Drawn0.refl _ | apply Drawn0.step)⟩

/-! ### r11_Means: function 36 -/
mutual
def r11_Means.j0 : Nat → List Int → List (List Int) → Bool → Option (List Int × Int)
 | 0, _, _, _ => none
 | k + 1, x0, x1, x24 => if x24 = true then (some ((([] : List Int)), 1)) else (r11_Means.l0 k x0 x1 0)
def r11_Means.l0 : Nat → List Int → List (List Int) → Int → Option (List Int × Int)
 | 0, _, _, _ => none
 | k + 1, x0, x1, x6 => if x6 < (x1.length : Int) then (if 0 ≤ x6 then (if 0 < (x1.length : Int) then (if ((rd_L1 x1 x6).length : Int) = ((rd_L1 x1 0).length : Int) then (r11_Means.l0 k x0 x1 (wrap64 (x6 + 1))) else (some ((([] : List Int)), 1))) else (none)) else (none)) else ((r11_good.f k x0).bind fun bt307 => (if bt307.2 = true then (r11_Means.l1 k x0 x1 (([] : List Int)) 0) else (some ((([] : List Int)), 110))))
def r11_Means.l1 : Nat → List Int → List (List Int) → List Int → Int → Option (List Int × Int)
 | 0, _, _, _, _ => none
 | k + 1, x0, x1, x9, x10 => if 0 < (x1.length : Int) then (if x10 < ((rd_L1 x1 0).length : Int) then (r11_Means.l2 k x0 x1 x9 x10 (([] : List Int)) 0) else (some (x9, 0))) else (none)
def r11_Means.l2 : Nat → List Int → List (List Int) → List Int → Int → List Int → Int → Option (List Int × Int)
 | 0, _, _, _, _, _, _ => none
 | k + 1, x0, x1, x9, x10, x11, x12 => if x12 < (x1.length : Int) then (if 0 ≤ x12 then (if 0 ≤ x10 then (if x10 < ((rd_L1 x1 x12).length : Int) then (if x11.length < 140737488355328 then (r11_Means.l2 k x0 x1 x9 x10 (x11 ++ [rd (rd_L1 x1 x12) x10]) (wrap64 (x12 + 1))) else (none)) else (none)) else (none)) else (none)) else ((r11_Mean.f k x0 x11).bind fun bt324 => (if x9.length < 140737488355328 then (r11_Means.l1 k x0 x1 (x9 ++ [bt324.1]) (wrap64 (x10 + 1))) else (none)))
end
def r11_Means.f (k : Nat) (l0 : List Int) (l1 : List (List Int)) : Option (List Int × Int) := if (l0.length : Int) = (l1.length : Int) then (r11_Means.j0 k l0 l1 (decide ((l0.length : Int) > 512))) else (r11_Means.j0 k l0 l1 true)
theorem r11_Means.mono_l : ∀ k, (∀ y0 y1 y2, LeO (r11_Means.j0 k y0 y1 y2) (r11_Means.j0 (k + 1) y0 y1 y2)) ∧ (∀ y0 y1 y2, LeO (r11_Means.l0 k y0 y1 y2) (r11_Means.l0 (k + 1) y0 y1 y2)) ∧ (∀ y0 y1 y2 y3, LeO (r11_Means.l1 k y0 y1 y2 y3) (r11_Means.l1 (k + 1) y0 y1 y2 y3)) ∧ (∀ y0 y1 y2 y3 y4 y5, LeO (r11_Means.l2 k y0 y1 y2 y3 y4 y5) (r11_Means.l2 (k + 1) y0 y1 y2 y3 y4 y5))
 | 0 => ⟨fun _ _ _ r h => by simp [r11_Means.j0] at h, fun _ _ _ r h => by simp [r11_Means.l0] at h, fun _ _ _ _ r h => by simp [r11_Means.l1] at h, fun _ _ _ _ _ _ r h => by simp [r11_Means.l2] at h⟩
 | k + 1 => by
  obtain ⟨ih0, ih1, ih2, ih3⟩ := r11_Means.mono_l k
  refine ⟨?_, ?_, ?_, ?_⟩ <;> (intros; first | unfold r11_Means.j0 | unfold r11_Means.l0 | unfold r11_Means.l1 | unfold r11_Means.l2)
  all_goals repeat' first
   | (with_reducible exact ih0 _ _ _)
   | (with_reducible exact ih1 _ _ _)
   | (with_reducible exact ih2 _ _ _ _)
   | (with_reducible exact ih3 _ _ _ _ _ _)
   | (with_reducible exact r11_Mean.mono _ _ _)
   | (with_reducible exact r11_good.mono _ _)
   | (with_reducible exact yR _)
   | (with_reducible exact yO _)
   | (with_reducible refine yQ ?_ ?_)
   | (with_reducible refine yP ?_ (fun _ => ?_))
   | exact ih0 _ _ _
   | exact ih1 _ _ _
   | exact ih2 _ _ _ _
   | exact ih3 _ _ _ _ _ _
   | exact r11_Mean.mono _ _ _
   | exact r11_good.mono _ _
   | exact yO _
   | refine yQ ?_ ?_
   | refine yP ?_ (fun _ => ?_)
theorem r11_Means.mono : ∀ a0 a1 k, LeO (r11_Means.f k a0 a1) (r11_Means.f (k + 1) a0 a1) := by
 intro a0 a1 k
 obtain ⟨ih0, ih1, ih2, ih3⟩ := r11_Means.mono_l k
 unfold r11_Means.f
 repeat' first
   | (with_reducible exact ih0 _ _ _)
   | (with_reducible exact ih1 _ _ _)
   | (with_reducible exact ih2 _ _ _ _)
   | (with_reducible exact ih3 _ _ _ _ _ _)
   | (with_reducible exact r11_Mean.mono _ _ _)
   | (with_reducible exact r11_good.mono _ _)
   | (with_reducible exact yR _)
   | (with_reducible exact yO _)
   | (with_reducible refine yQ ?_ ?_)
   | (with_reducible refine yP ?_ (fun _ => ?_))
   | exact ih0 _ _ _
   | exact ih1 _ _ _
   | exact ih2 _ _ _ _
   | exact ih3 _ _ _ _ _ _
   | exact r11_Mean.mono _ _ _
   | exact r11_good.mono _ _
   | exact yO _
   | refine yQ ?_ ?_
   | refine yP ?_ (fun _ => ?_)
set_option maxHeartbeats 8000000 in
set_option maxRecDepth 100000 in
theorem r11_Means.calls (k : Nat) (A0 : Option Addr) (c0 : Nat) (l0 : List Int) (A1 : Option Addr) (c1 : Nat) (l1 : List (List Int)) (r1 : List Int) (r2 : Int) (w : World) (hr0 : Kd.C (Kd.int .i64) w A0 l0.length l0) (hc0 : l0.length ≤ c0) (hr1 : Kd.C (Kd.slice 53 (Kd.int .i8)) w A1 l1.length l1) (hc1 : l1.length ≤ c1) (h : r11_Means.f k l0 l1 = some (r1, r2)) :
  Calls Try.prog 36 #[.slice A0 l0.length c0, .slice A1 l1.length c1] w fun e w' => ∃ v0_ : Value, e = .returned (.tuple #[v0_, .int .i64 r2]) ∧ Kd.R (Kd.int .i8) 53 w' w.heap.size (fun _ => True) v0_ r1 ∧ Below w.heap.size w w' := by
 have HR0 := zK hr0
 have HC0 := zK hc0
 clear hr0 hc0
 have HR1 := zK hr1
 have HC1 := zK hc1
 clear hr1 hc1
 have HB := zK (Below.refl w.heap.size w)
 have H : (if (l0.length : Int) = (l1.length : Int) then (r11_Means.j0 k l0 l1 (decide ((l0.length : Int) > 512))) else (r11_Means.j0 k l0 l1 true)) = some (r1, r2) := h
 clear h
 have HC3 := zK H
 clear H
 go_enter Try.func36, Try.ntmps36
 go_upto_region 1 with (fail)
 repeat (go_quiet (fail); go_upto_region 1 with (fail))
 go_cut [24] (fun v24 wc => ∃ (kq : Nat) (x24_2 : Bool), v24 = .bool x24_2 ∧ Aside0 (r11_Means.j0 kq l0 l1 x24_2 = some (r1, r2)) ∧ Aside0 (kq ≤ k) ∧ Aside0 (Below w.heap.size w wc))
 case first =>
  have H := HC3.out
  clear HC3
  by_cases c4 : (l0.length : Int) = (l1.length : Int)
  ·rw [if_pos c4] at H
   have c4b0 : ((l0.length : Int) == (l1.length : Int)) = true := beq_iff_eq.mpr c4
   have c4b1 : ((l0.length : Int) != (l1.length : Int)) = false := bne_eq_false_iff_eq.mpr c4
   have c4b2 : (l0.length == l1.length) = true := by first | simpa using c4 | (simp at c4 ⊢; omega)
   clear c4
   (first | rw [c4b0] | (simp only [i64_w, i32_w]; rw [c4b0]) | skip)
   have H' := zK H
   clear H
   go_wp2
   repeat (go_quiet (fail); try go_wp2)
   go_meet
   case rel => exact ⟨_, (decide ((l0.length : Int) > 512)), (by first | rfl | (simp; done) | (simp [*]; done)), H', ⟨by first | omega | exact yN _⟩, ⟨by repeat (first | (with_reducible first | exact HB.out | apply zJ | apply zD | apply zE) | exact HB.out)⟩⟩
  ·rw [if_neg c4] at H
   have c4b0 : ((l0.length : Int) == (l1.length : Int)) = false := beq_eq_false_iff_ne.mpr c4
   have c4b1 : ((l0.length : Int) != (l1.length : Int)) = true := bne_iff_ne.mpr c4
   have c4b2 : (l0.length == l1.length) = false := by first | simpa using c4 | (simp at c4 ⊢; omega)
   (first | rw [c4b0] | (simp only [i64_w, i32_w]; rw [c4b0]) | skip)
   have H' := zK H
   clear H
   go_wp2
   repeat (go_quiet (fail); try go_wp2)
   go_meet
   case rel => exact ⟨_, (true), (by first | rfl | (simp; done) | (simp [*]; done)), H', ⟨by first | omega | exact yN _⟩, ⟨by repeat (first | (with_reducible first | exact HB.out | apply zJ | apply zD | apply zE) | exact HB.out)⟩⟩
 case rest =>
  clear HC3
  try clear c1
  try clear p2
  try clear c3
  try clear c4
  try clear c4b0
  try clear c4b1
  try clear c4b2
  obtain ⟨kq, x24_2, rfl, HA, HJ2, HB⟩ := hcut
  cases kq with
  | zero => exact absurd HA.out (by simp [r11_Means.j0])
  | succ kj2 =>
   have H := HA.out
   clear HA
   simp only [r11_Means.j0] at H
   by_cases c5 : x24_2 = true
   ·subst c5
    have H1 : (some ((([] : List Int)), 1)) = some (r1, r2) := by rw [if_pos rfl] at H; exact H
    clear H
    have H := H1
    clear H1
    obtain ⟨y299, hy299⟩ : ∃ y_ : List Int, y_ = (([] : List Int)) := ⟨_, rfl⟩
    replace H : (some (y299, 1)) = some (r1, r2) := by first | (rw [hy299]; with_reducible exact H) | (have H2_ := (yV _ _).symm.trans H; rw [hy299]; with_reducible exact H2_) | (have H2_ := (yV _ _).symm.trans H; with_reducible exact H2_) | with_reducible exact H | (rw [hy299]; exact H) | exact H
    have Ny299 := zK hy299
    clear hy299
    simp only [yZ, ya] at H
    obtain ⟨rfl, rfl⟩ := H
    go_wp2_with (first | ((with_reducible refine gate_dst (N := 25) rfl ?_); refine Kd.R_lit (Kd.int .i8) _ 53 ?hg (N := 25) ?hd (xs := ([] : List Int)) (inner := []) (ok := fun _ => True) (okp := fun _ => True) ?hr ?hp (fun _ hk => hk) trivial (Below.refl _ _) (yN _) (by simp) ?_; (case hd => rfl); (case hg => rfl); (case hr => first | (go_simp; done) | (go_simp; rfl)); (case hp => exact (Reps.none _ _)); intro v300 w6 ho7 hb hg_ hnew_; clear hg_ hnew_; (first | rw [← Ny299.out] at ho7 | (simp only [Int.reduceToNat] at ho7; rw [← Ny299.out] at ho7)); have n0_ := zK (Kd.R_lower ho7 (yK (by repeat (first | (with_reducible first | exact HB.out | apply zJ | apply zD | apply zE) | exact HB.out)))); have n1_ := zK (yL (by repeat (first | (with_reducible first | exact HB.out | apply zJ | apply zD | apply zE) | exact HB.out)) hb); clear HB; have HO301 := n0_; have HB := n1_; clear n0_ n1_ hb ho7))
    repeat (go_quiet (first | ((with_reducible refine gate_dst (N := 25) rfl ?_); refine Kd.R_lit (Kd.int .i8) _ 53 ?hg (N := 25) ?hd (xs := ([] : List Int)) (inner := []) (ok := fun _ => True) (okp := fun _ => True) ?hr ?hp (fun _ hk => hk) trivial (Below.refl _ _) (yN _) (by simp) ?_; (case hd => rfl); (case hg => rfl); (case hr => first | (go_simp; done) | (go_simp; rfl)); (case hp => exact (Reps.none _ _)); intro v300 w6 ho7 hb hg_ hnew_; clear hg_ hnew_; (first | rw [← Ny299.out] at ho7 | (simp only [Int.reduceToNat] at ho7; rw [← Ny299.out] at ho7)); have n0_ := zK (Kd.R_lower ho7 (yK (by repeat (first | (with_reducible first | exact HB.out | apply zJ | apply zD | apply zE) | exact HB.out)))); have n1_ := zK (yL (by repeat (first | (with_reducible first | exact HB.out | apply zJ | apply zD | apply zE) | exact HB.out)) hb); clear HB; have HO301 := n0_; have HB := n1_; clear n0_ n1_ hb ho7)); try go_wp2_with (first | ((with_reducible refine gate_dst (N := 25) rfl ?_); refine Kd.R_lit (Kd.int .i8) _ 53 ?hg (N := 25) ?hd (xs := ([] : List Int)) (inner := []) (ok := fun _ => True) (okp := fun _ => True) ?hr ?hp (fun _ hk => hk) trivial (Below.refl _ _) (yN _) (by simp) ?_; (case hd => rfl); (case hg => rfl); (case hr => first | (go_simp; done) | (go_simp; rfl)); (case hp => exact (Reps.none _ _)); intro v300 w6 ho7 hb hg_ hnew_; clear hg_ hnew_; (first | rw [← Ny299.out] at ho7 | (simp only [Int.reduceToNat] at ho7; rw [← Ny299.out] at ho7)); have n0_ := zK (Kd.R_lower ho7 (yK (by repeat (first | (with_reducible first | exact HB.out | apply zJ | apply zD | apply zE) | exact HB.out)))); have n1_ := zK (yL (by repeat (first | (with_reducible first | exact HB.out | apply zJ | apply zD | apply zE) | exact HB.out)) hb); clear HB; have HO301 := n0_; have HB := n1_; clear n0_ n1_ hb ho7)))
    go_ret2
    exact ⟨_, by first | rfl | (simp [errW_none, errW_some] <;> rfl) | (simp [*, errW_none, errW_some] <;> rfl), by (with_reducible repeat (first | apply zL | apply zM | apply zN)); exact HO301.out, by repeat (first | (with_reducible first | exact HB.out | apply zJ | apply zD | apply zE) | exact HB.out)⟩
   ·replace c5 := yh.mpr c5
    subst c5
    have H1 : (r11_Means.l0 kj2 l0 l1 0) = some (r1, r2) := by rw [if_neg (show ¬ (false = true) by decide)] at H; exact H
    clear H
    have H := H1
    clear H1
    have H' := zK H
    clear H
    go_wp2
    repeat (go_quiet (fail); try go_wp2)
    go_loopg [6] kj2 (fun kq v6 w' => ∃ (x6_2 : Int), v6 = .int .i64 x6_2 ∧ Aside0 (r11_Means.l0 kq l0 l1 x6_2 = some (r1, r2)) ∧ Aside0 (kq ≤ kj2) ∧ Aside0 (Below w.heap.size w w'))
    case atStart => exact ⟨(0), (by first | rfl | (simp; done) | (simp [*]; done)), H', ⟨yN _⟩, ⟨by repeat (first | (with_reducible first | exact HB.out | apply zJ | apply zD | apply zE) | exact HB.out)⟩⟩
    case round =>
     clear H'
     try clear c1
     try clear p2
     try clear c3
     try clear c4
     try clear c4b0
     try clear c4b1
     try clear c4b2
     try clear c5
     try clear p2
     obtain ⟨x6_2, rfl, HA, HK2, HB⟩ := hrel
     cases gk with
     | zero => exact absurd HA.out (by simp [r11_Means.l0])
     | succ k2 =>
      have H := HA.out
      clear HA
      simp only [r11_Means.l0] at H
      by_cases c8 : x6_2 < (l1.length : Int)
      ·rw [if_pos c8] at H
       have c8b0 : decide (x6_2 < (l1.length : Int)) = true := yC c8
       clear c8
       by_cases c9 : 0 ≤ x6_2
       ·rw [if_pos c9] at H
        have c9b0 : decide (0 ≤ x6_2) = true := yC c9
        clear c9
        by_cases c10 : 0 < (l1.length : Int)
        ·rw [if_pos c10] at H
         have c10b0 : decide (0 < (l1.length : Int)) = true := yC c10
         have c10b1 : decide (0 < l1.length) = true := yC (by omega)
         clear c10
         by_cases c11 : ((rd_L1 l1 x6_2).length : Int) = ((rd_L1 l1 0).length : Int)
         ·rw [if_pos c11] at H
          have c11b0 : (((rd_L1 l1 x6_2).length : Int) == ((rd_L1 l1 0).length : Int)) = true := beq_iff_eq.mpr c11
          have c11b1 : (((rd_L1 l1 x6_2).length : Int) != ((rd_L1 l1 0).length : Int)) = false := bne_eq_false_iff_eq.mpr c11
          have c11b2 : ((rd_L1 l1 x6_2).length == (rd_L1 l1 0).length) = true := by first | simpa using c11 | (simp at c11 ⊢; omega)
          clear c11
          have H' := zK H
          clear H
          have p302 : 0 ≤ (x6_2 : Int) := yB (by first | (with_reducible assumption) | assumption)
          have q302 : x6_2 < (l1.length : Int) := yB (by first | (with_reducible assumption) | assumption)
          obtain ⟨ad302, A302_0, c302_0, e302, hx302_0, hl302_0, hi302_0⟩ := at_L1 HR1.out x6_2 p302 q302
          cases e302
          replace hx302_0 := (HB.out.cell (World.block_lt_of_cell? w _ hx302_0)).trans hx302_0
          have HR302_0 := zK hi302_0
          have HC302_0 := zK hl302_0
          clear hi302_0 hl302_0
          replace p302 := yg p302
          replace q302 := yg q302
          have p303 : 0 ≤ (0 : Int) := (by omega)
          have q303 : 0 < (l1.length : Int) := yB (by first | (with_reducible assumption) | assumption)
          obtain ⟨ad303, A303_0, c303_0, e303, hx303_0, hl303_0, hi303_0⟩ := at_L1 HR1.out 0 p303 q303
          obtain rfl : ad302 = ad303 := (by injection e303)
          have qi303 : (0 < l1.length) = True := yg (by omega)
          (try rw [show ((0 : Int)).toNat = 0 from rfl] at hx303_0)
          (try rw [Addr.add_zero'] at hx303_0)
          replace hx303_0 := (HB.out.cell (World.block_lt_of_cell? w _ hx303_0)).trans hx303_0
          have HR303_0 := zK hi303_0
          have HC303_0 := zK hl303_0
          clear hi303_0 hl303_0
          replace p303 := yg p303
          replace q303 := yg q303
          go_wp2
          repeat (go_quiet (fail); try go_wp2)
          go_roundg k2
          case measure => have := HJ2.out; have := HK2.out; omega
          case rel => exact ⟨(wrap64 (x6_2 + 1)), (by first | rfl | (simp; done) | (simp [*]; done)), H', ⟨by have := HJ2.out; have := HK2.out; omega⟩, ⟨by repeat (first | (with_reducible first | exact HB.out | apply zJ | apply zD | apply zE) | exact HB.out)⟩⟩
         ·rw [if_neg c11] at H
          have c11b0 : (((rd_L1 l1 x6_2).length : Int) == ((rd_L1 l1 0).length : Int)) = false := beq_eq_false_iff_ne.mpr c11
          have c11b1 : (((rd_L1 l1 x6_2).length : Int) != ((rd_L1 l1 0).length : Int)) = true := bne_iff_ne.mpr c11
          have c11b2 : ((rd_L1 l1 x6_2).length == (rd_L1 l1 0).length) = false := by first | simpa using c11 | (simp at c11 ⊢; omega)
          obtain ⟨y304, hy304⟩ : ∃ y_ : List Int, y_ = (([] : List Int)) := ⟨_, rfl⟩
          replace H : (some (y304, 1)) = some (r1, r2) := by first | (rw [hy304]; with_reducible exact H) | (have H2_ := (yV _ _).symm.trans H; rw [hy304]; with_reducible exact H2_) | (have H2_ := (yV _ _).symm.trans H; with_reducible exact H2_) | with_reducible exact H | (rw [hy304]; exact H) | exact H
          have Ny304 := zK hy304
          clear hy304
          simp only [yZ, ya] at H
          obtain ⟨rfl, rfl⟩ := H
          have p302 : 0 ≤ (x6_2 : Int) := yB (by first | (with_reducible assumption) | assumption)
          have q302 : x6_2 < (l1.length : Int) := yB (by first | (with_reducible assumption) | assumption)
          obtain ⟨ad302, A302_0, c302_0, e302, hx302_0, hl302_0, hi302_0⟩ := at_L1 HR1.out x6_2 p302 q302
          cases e302
          replace hx302_0 := (HB.out.cell (World.block_lt_of_cell? w _ hx302_0)).trans hx302_0
          have HR302_0 := zK hi302_0
          have HC302_0 := zK hl302_0
          clear hi302_0 hl302_0
          replace p302 := yg p302
          replace q302 := yg q302
          have p303 : 0 ≤ (0 : Int) := (by omega)
          have q303 : 0 < (l1.length : Int) := yB (by first | (with_reducible assumption) | assumption)
          obtain ⟨ad303, A303_0, c303_0, e303, hx303_0, hl303_0, hi303_0⟩ := at_L1 HR1.out 0 p303 q303
          obtain rfl : ad302 = ad303 := (by injection e303)
          have qi303 : (0 < l1.length) = True := yg (by omega)
          (try rw [show ((0 : Int)).toNat = 0 from rfl] at hx303_0)
          (try rw [Addr.add_zero'] at hx303_0)
          replace hx303_0 := (HB.out.cell (World.block_lt_of_cell? w _ hx303_0)).trans hx303_0
          have HR303_0 := zK hi303_0
          have HC303_0 := zK hl303_0
          clear hi303_0 hl303_0
          replace p303 := yg p303
          replace q303 := yg q303
          go_wp2_with (first | ((with_reducible refine gate_dst (N := 42) rfl ?_); refine Kd.R_lit (Kd.int .i8) _ 53 ?hg (N := 42) ?hd (xs := ([] : List Int)) (inner := []) (ok := fun _ => True) (okp := fun _ => True) ?hr ?hp (fun _ hk => hk) trivial (Below.refl _ _) (yN _) (by simp) ?_; (case hd => rfl); (case hg => rfl); (case hr => first | (go_simp; done) | (go_simp; rfl)); (case hp => exact (Reps.none _ _)); intro v305 w12 ho13 hb hg_ hnew_; clear hg_ hnew_; (first | rw [← Ny304.out] at ho13 | (simp only [Int.reduceToNat] at ho13; rw [← Ny304.out] at ho13)); have n0_ := zK (Kd.R_lower ho13 (yK (by repeat (first | (with_reducible first | exact HB.out | apply zJ | apply zD | apply zE) | exact HB.out)))); have n1_ := zK (yL (by repeat (first | (with_reducible first | exact HB.out | apply zJ | apply zD | apply zE) | exact HB.out)) hb); clear HB; have HO306 := n0_; have HB := n1_; clear n0_ n1_ hb ho13))
          repeat (go_quiet (first | ((with_reducible refine gate_dst (N := 42) rfl ?_); refine Kd.R_lit (Kd.int .i8) _ 53 ?hg (N := 42) ?hd (xs := ([] : List Int)) (inner := []) (ok := fun _ => True) (okp := fun _ => True) ?hr ?hp (fun _ hk => hk) trivial (Below.refl _ _) (yN _) (by simp) ?_; (case hd => rfl); (case hg => rfl); (case hr => first | (go_simp; done) | (go_simp; rfl)); (case hp => exact (Reps.none _ _)); intro v305 w12 ho13 hb hg_ hnew_; clear hg_ hnew_; (first | rw [← Ny304.out] at ho13 | (simp only [Int.reduceToNat] at ho13; rw [← Ny304.out] at ho13)); have n0_ := zK (Kd.R_lower ho13 (yK (by repeat (first | (with_reducible first | exact HB.out | apply zJ | apply zD | apply zE) | exact HB.out)))); have n1_ := zK (yL (by repeat (first | (with_reducible first | exact HB.out | apply zJ | apply zD | apply zE) | exact HB.out)) hb); clear HB; have HO306 := n0_; have HB := n1_; clear n0_ n1_ hb ho13)); try go_wp2_with (first | ((with_reducible refine gate_dst (N := 42) rfl ?_); refine Kd.R_lit (Kd.int .i8) _ 53 ?hg (N := 42) ?hd (xs := ([] : List Int)) (inner := []) (ok := fun _ => True) (okp := fun _ => True) ?hr ?hp (fun _ hk => hk) trivial (Below.refl _ _) (yN _) (by simp) ?_; (case hd => rfl); (case hg => rfl); (case hr => first | (go_simp; done) | (go_simp; rfl)); (case hp => exact (Reps.none _ _)); intro v305 w12 ho13 hb hg_ hnew_; clear hg_ hnew_; (first | rw [← Ny304.out] at ho13 | (simp only [Int.reduceToNat] at ho13; rw [← Ny304.out] at ho13)); have n0_ := zK (Kd.R_lower ho13 (yK (by repeat (first | (with_reducible first | exact HB.out | apply zJ | apply zD | apply zE) | exact HB.out)))); have n1_ := zK (yL (by repeat (first | (with_reducible first | exact HB.out | apply zJ | apply zD | apply zE) | exact HB.out)) hb); clear HB; have HO306 := n0_; have HB := n1_; clear n0_ n1_ hb ho13)))
          go_ret2
          exact ⟨_, by first | rfl | (simp [errW_none, errW_some] <;> rfl) | (simp [*, errW_none, errW_some] <;> rfl), by (with_reducible repeat (first | apply zL | apply zM | apply zN)); exact HO306.out, by repeat (first | (with_reducible first | exact HB.out | apply zJ | apply zD | apply zE) | exact HB.out)⟩
        ·rw [if_neg c10] at H
         exact absurd H (by simp)
       ·rw [if_neg c9] at H
        exact absurd H (by simp)
      ·rw [if_neg c8] at H
       have c8b0 : decide (x6_2 < (l1.length : Int)) = false := yD c8
       clear c8
       replace H := yA.mp H
       obtain ⟨⟨t307, t308⟩, A140, H⟩ := H
       replace H : (if t308 = true then (r11_Means.l1 k2 l0 l1 (([] : List Int)) 0) else (some ((([] : List Int)), 110))) = some (r1, r2) := H
       have A14 := zK A140
       clear A140
       by_cases c15 : t308 = true
       ·subst c15
        have H1 : (r11_Means.l1 k2 l0 l1 (([] : List Int)) 0) = some (r1, r2) := by rw [if_pos rfl] at H; exact H
        clear H
        have H := H1
        clear H1
        obtain ⟨y312, hy312⟩ : ∃ y_ : List Int, y_ = (([] : List Int)) := ⟨_, rfl⟩
        replace H : (r11_Means.l1 k2 l0 l1 y312 0) = some (r1, r2) := by first | (rw [hy312]; with_reducible exact H) | (have H2_ := (yV _ _).symm.trans H; rw [hy312]; with_reducible exact H2_) | (have H2_ := (yV _ _).symm.trans H; with_reducible exact H2_) | with_reducible exact H | (rw [hy312]; exact H) | exact H
        have Ny312 := zK hy312
        clear hy312
        have H' := zK H
        clear H
        go_wp2_with (first | (go_at_call 52; (with_reducible refine (r11_good.calls k2 _ _ l0 t307 true _ ?side1 ?side2 A14.out).mono ?_); (case side1 => repeat (first | exact (yc HR0.out HB.out) | (with_reducible refine yS ?_ _) | (with_reducible refine yT ?_ _) | (with_reducible refine yU ?_))); (case side2 => exact HC0.out); rintro e w' ⟨rfl, ⟨nd, rfl⟩⟩; (try first | exact ⟨rfl, _, World.drewN_drewN _ _ _⟩ | exact ⟨rfl, _, Eq.trans (World.drewN_drewN _ _ _) (congrArg (World.drewN _) (Nat.add_assoc _ _ _))⟩)) | ((with_reducible refine gate_dst (N := 51) rfl ?_); refine Kd.R_lit (Kd.int .i8) _ 53 ?hg (N := 51) ?hd (xs := ([] : List Int)) (inner := []) (ok := fun _ => True) (okp := fun _ => True) ?hr ?hp (fun _ hk => hk) trivial (Below.refl _ _) (yN _) (by simp) ?_; (case hd => rfl); (case hg => rfl); (case hr => first | (go_simp; done) | (go_simp; rfl)); (case hp => exact (Reps.none _ _)); intro v313 w16 ho17 hb hg_ hnew_; clear hg_ hnew_; (first | rw [← Ny312.out] at ho17 | (simp only [Int.reduceToNat] at ho17; rw [← Ny312.out] at ho17)); have n0_ := zK (Kd.R_lower ho17 (yK (by repeat (first | (with_reducible first | exact HB.out | apply zJ | apply zD | apply zE) | exact HB.out)))); have n1_ := zK (yL (by repeat (first | (with_reducible first | exact HB.out | apply zJ | apply zD | apply zE) | exact HB.out)) hb); clear HB; have HO314 := n0_; have HB := n1_; clear n0_ n1_ hb ho17))
        repeat (go_quiet (first | (go_at_call 52; (with_reducible refine (r11_good.calls k2 _ _ l0 t307 true _ ?side1 ?side2 A14.out).mono ?_); (case side1 => repeat (first | exact (yc HR0.out HB.out) | (with_reducible refine yS ?_ _) | (with_reducible refine yT ?_ _) | (with_reducible refine yU ?_))); (case side2 => exact HC0.out); rintro e w' ⟨rfl, ⟨nd, rfl⟩⟩; (try first | exact ⟨rfl, _, World.drewN_drewN _ _ _⟩ | exact ⟨rfl, _, Eq.trans (World.drewN_drewN _ _ _) (congrArg (World.drewN _) (Nat.add_assoc _ _ _))⟩)) | ((with_reducible refine gate_dst (N := 51) rfl ?_); refine Kd.R_lit (Kd.int .i8) _ 53 ?hg (N := 51) ?hd (xs := ([] : List Int)) (inner := []) (ok := fun _ => True) (okp := fun _ => True) ?hr ?hp (fun _ hk => hk) trivial (Below.refl _ _) (yN _) (by simp) ?_; (case hd => rfl); (case hg => rfl); (case hr => first | (go_simp; done) | (go_simp; rfl)); (case hp => exact (Reps.none _ _)); intro v313 w16 ho17 hb hg_ hnew_; clear hg_ hnew_; (first | rw [← Ny312.out] at ho17 | (simp only [Int.reduceToNat] at ho17; rw [← Ny312.out] at ho17)); have n0_ := zK (Kd.R_lower ho17 (yK (by repeat (first | (with_reducible first | exact HB.out | apply zJ | apply zD | apply zE) | exact HB.out)))); have n1_ := zK (yL (by repeat (first | (with_reducible first | exact HB.out | apply zJ | apply zD | apply zE) | exact HB.out)) hb); clear HB; have HO314 := n0_; have HB := n1_; clear n0_ n1_ hb ho17)); try go_wp2_with (first | (go_at_call 52; (with_reducible refine (r11_good.calls k2 _ _ l0 t307 true _ ?side1 ?side2 A14.out).mono ?_); (case side1 => repeat (first | exact (yc HR0.out HB.out) | (with_reducible refine yS ?_ _) | (with_reducible refine yT ?_ _) | (with_reducible refine yU ?_))); (case side2 => exact HC0.out); rintro e w' ⟨rfl, ⟨nd, rfl⟩⟩; (try first | exact ⟨rfl, _, World.drewN_drewN _ _ _⟩ | exact ⟨rfl, _, Eq.trans (World.drewN_drewN _ _ _) (congrArg (World.drewN _) (Nat.add_assoc _ _ _))⟩)) | ((with_reducible refine gate_dst (N := 51) rfl ?_); refine Kd.R_lit (Kd.int .i8) _ 53 ?hg (N := 51) ?hd (xs := ([] : List Int)) (inner := []) (ok := fun _ => True) (okp := fun _ => True) ?hr ?hp (fun _ hk => hk) trivial (Below.refl _ _) (yN _) (by simp) ?_; (case hd => rfl); (case hg => rfl); (case hr => first | (go_simp; done) | (go_simp; rfl)); (case hp => exact (Reps.none _ _)); intro v313 w16 ho17 hb hg_ hnew_; clear hg_ hnew_; (first | rw [← Ny312.out] at ho17 | (simp only [Int.reduceToNat] at ho17; rw [← Ny312.out] at ho17)); have n0_ := zK (Kd.R_lower ho17 (yK (by repeat (first | (with_reducible first | exact HB.out | apply zJ | apply zD | apply zE) | exact HB.out)))); have n1_ := zK (yL (by repeat (first | (with_reducible first | exact HB.out | apply zJ | apply zD | apply zE) | exact HB.out)) hb); clear HB; have HO314 := n0_; have HB := n1_; clear n0_ n1_ hb ho17)))
        go_loopg [9, 10] k2 (fun kq v9 v10 w' => ∃ (x9_3 : List Int) (x10_3 : Int), v10 = .int .i64 x10_3 ∧ Aside0 (r11_Means.l1 kq l0 l1 x9_3 x10_3 = some (r1, r2)) ∧ Aside0 (kq ≤ k2) ∧ Aside0 (Kd.R (Kd.int .i8) 53 w' w.heap.size (fun _ => True) v9 x9_3) ∧ Aside0 (Below w.heap.size w w'))
        case atStart => exact ⟨(y312), (0), (by first | rfl | (simp; done) | (simp [*]; done)), H', ⟨yN _⟩, ⟨by (with_reducible repeat (first | apply zL | apply zM | apply zN)); exact HO314.out⟩, ⟨by repeat (first | (with_reducible first | exact HB.out | apply zJ | apply zD | apply zE) | exact HB.out)⟩⟩
        case round =>
         clear H'
         try clear c1
         try clear p2
         try clear c3
         try clear p3
         try clear q3
         try clear hx3
         try clear qi3
         try clear c4
         try clear c4b0
         try clear c4b1
         try clear c4b2
         try clear c5
         try clear p6
         try clear c8
         try clear c8b0
         try clear c9
         try clear c9b0
         try clear c10
         try clear c10b0
         try clear c10b1
         try clear c11
         try clear c11b0
         try clear c11b1
         try clear c11b2
         try clear c15
         try clear hx302_0
         try clear hx303_0
         try clear p2
         try clear p302
         try clear p303
         try clear q302
         try clear q303
         obtain ⟨x9_3, x10_3, rfl, HA, HK3, HO_9, HB⟩ := hrel
         cases gk with
         | zero => exact absurd HA.out (by simp [r11_Means.l1])
         | succ k3 =>
          have H := HA.out
          clear HA
          simp only [r11_Means.l1] at H
          by_cases c18 : 0 < (l1.length : Int)
          ·rw [if_pos c18] at H
           have c18b0 : decide (0 < (l1.length : Int)) = true := yC c18
           have c18b1 : decide (0 < l1.length) = true := yC (by omega)
           clear c18
           by_cases c19 : x10_3 < ((rd_L1 l1 0).length : Int)
           ·rw [if_pos c19] at H
            have c19b0 : decide (x10_3 < ((rd_L1 l1 0).length : Int)) = true := yC c19
            clear c19
            obtain ⟨y316, hy316⟩ : ∃ y_ : List Int, y_ = (([] : List Int)) := ⟨_, rfl⟩
            replace H : (r11_Means.l2 k3 l0 l1 x9_3 x10_3 y316 0) = some (r1, r2) := by first | (rw [hy316]; with_reducible exact H) | (have H2_ := (yV _ _).symm.trans H; rw [hy316]; with_reducible exact H2_) | (have H2_ := (yV _ _).symm.trans H; with_reducible exact H2_) | with_reducible exact H | (rw [hy316]; exact H) | exact H
            have Ny316 := zK hy316
            clear hy316
            have H' := zK H
            clear H
            have p315 : 0 ≤ (0 : Int) := (by omega)
            have q315 : 0 < (l1.length : Int) := yB (by first | (with_reducible assumption) | assumption)
            obtain ⟨ad315, A315_0, c315_0, e315, hx315_0, hl315_0, hi315_0⟩ := at_L1 HR1.out 0 p315 q315
            cases e315
            have qi315 : (0 < l1.length) = True := yg (by omega)
            (try rw [show ((0 : Int)).toNat = 0 from rfl] at hx315_0)
            (try rw [Addr.add_zero'] at hx315_0)
            replace hx315_0 := (HB.out.cell (World.block_lt_of_cell? w _ hx315_0)).trans hx315_0
            have HR315_0 := zK hi315_0
            have HC315_0 := zK hl315_0
            clear hi315_0 hl315_0
            replace p315 := yg p315
            replace q315 := yg q315
            go_wp2_with (first | ((with_reducible refine gate_dst (N := 60) rfl ?_); refine Kd.R_lit (Kd.int .i8) _ 53 ?hg (N := 60) ?hd (xs := ([] : List Int)) (inner := []) (ok := fun _ => True) (okp := fun _ => True) ?hr ?hp (fun _ hk => hk) trivial (Below.refl _ _) (yN _) (by simp) ?_; (case hd => rfl); (case hg => rfl); (case hr => first | (go_simp; done) | (go_simp; rfl)); (case hp => exact (Reps.none _ _)); intro v317 w20 ho21 hb hg_ hnew_; clear hg_ hnew_; (first | rw [← Ny316.out] at ho21 | (simp only [Int.reduceToNat] at ho21; rw [← Ny316.out] at ho21)); have n0_ := zK (Kd.R_elder' (by (with_reducible repeat (first | apply zL | apply zM | apply zN)); exact HO_9.out) (Kd.R_base ho21) hb); have n1_ := zK (Kd.R_lower (Kd.R_new' ho21 (Kd.R_lt (by (with_reducible repeat (first | apply zL | apply zM | apply zN)); exact HO_9.out))) (yK (by repeat (first | (with_reducible first | exact HB.out | apply zJ | apply zD | apply zE) | exact HB.out)))); have n2_ := zK (yL (by repeat (first | (with_reducible first | exact HB.out | apply zJ | apply zD | apply zE) | exact HB.out)) hb); clear HO_9 HB; have HO_9 := n0_; have HO318 := n1_; have HB := n2_; clear n0_ n1_ n2_ hb ho21))
            repeat (go_quiet (first | ((with_reducible refine gate_dst (N := 60) rfl ?_); refine Kd.R_lit (Kd.int .i8) _ 53 ?hg (N := 60) ?hd (xs := ([] : List Int)) (inner := []) (ok := fun _ => True) (okp := fun _ => True) ?hr ?hp (fun _ hk => hk) trivial (Below.refl _ _) (yN _) (by simp) ?_; (case hd => rfl); (case hg => rfl); (case hr => first | (go_simp; done) | (go_simp; rfl)); (case hp => exact (Reps.none _ _)); intro v317 w20 ho21 hb hg_ hnew_; clear hg_ hnew_; (first | rw [← Ny316.out] at ho21 | (simp only [Int.reduceToNat] at ho21; rw [← Ny316.out] at ho21)); have n0_ := zK (Kd.R_elder' (by (with_reducible repeat (first | apply zL | apply zM | apply zN)); exact HO_9.out) (Kd.R_base ho21) hb); have n1_ := zK (Kd.R_lower (Kd.R_new' ho21 (Kd.R_lt (by (with_reducible repeat (first | apply zL | apply zM | apply zN)); exact HO_9.out))) (yK (by repeat (first | (with_reducible first | exact HB.out | apply zJ | apply zD | apply zE) | exact HB.out)))); have n2_ := zK (yL (by repeat (first | (with_reducible first | exact HB.out | apply zJ | apply zD | apply zE) | exact HB.out)) hb); clear HO_9 HB; have HO_9 := n0_; have HO318 := n1_; have HB := n2_; clear n0_ n1_ n2_ hb ho21)); try go_wp2_with (first | ((with_reducible refine gate_dst (N := 60) rfl ?_); refine Kd.R_lit (Kd.int .i8) _ 53 ?hg (N := 60) ?hd (xs := ([] : List Int)) (inner := []) (ok := fun _ => True) (okp := fun _ => True) ?hr ?hp (fun _ hk => hk) trivial (Below.refl _ _) (yN _) (by simp) ?_; (case hd => rfl); (case hg => rfl); (case hr => first | (go_simp; done) | (go_simp; rfl)); (case hp => exact (Reps.none _ _)); intro v317 w20 ho21 hb hg_ hnew_; clear hg_ hnew_; (first | rw [← Ny316.out] at ho21 | (simp only [Int.reduceToNat] at ho21; rw [← Ny316.out] at ho21)); have n0_ := zK (Kd.R_elder' (by (with_reducible repeat (first | apply zL | apply zM | apply zN)); exact HO_9.out) (Kd.R_base ho21) hb); have n1_ := zK (Kd.R_lower (Kd.R_new' ho21 (Kd.R_lt (by (with_reducible repeat (first | apply zL | apply zM | apply zN)); exact HO_9.out))) (yK (by repeat (first | (with_reducible first | exact HB.out | apply zJ | apply zD | apply zE) | exact HB.out)))); have n2_ := zK (yL (by repeat (first | (with_reducible first | exact HB.out | apply zJ | apply zD | apply zE) | exact HB.out)) hb); clear HO_9 HB; have HO_9 := n0_; have HO318 := n1_; have HB := n2_; clear n0_ n1_ n2_ hb ho21)))
            go_loopg [11, 12] k3 (fun kq v11 v12 w' => ∃ (x11_4 : List Int) (x12_4 : Int), v12 = .int .i64 x12_4 ∧ Aside0 (r11_Means.l2 kq l0 l1 x9_3 x10_3 x11_4 x12_4 = some (r1, r2)) ∧ Aside0 (kq ≤ k3) ∧ Aside0 (Kd.R (Kd.int .i8) 53 w' w.heap.size (fun k_ => some k_ ≠ (v11 : Value).ownBlock) u9 x9_3) ∧ Aside0 (Kd.R (Kd.int .i8) 53 w' w.heap.size (fun k_ => some k_ ≠ (u9 : Value).ownBlock) v11 x11_4) ∧ Aside0 (Below w.heap.size w w'))
            case atStart => exact ⟨(y316), (0), (by first | rfl | (simp; done) | (simp [*]; done)), H', ⟨yN _⟩, ⟨by (with_reducible repeat (first | apply zL | apply zM | apply zN)); exact yd HO_9.out (fun _ hk => hk.2)⟩, ⟨by (with_reducible repeat (first | apply zL | apply zM | apply zN)); exact yd HO318.out (fun _ hk => hk.2)⟩, ⟨by repeat (first | (with_reducible first | exact HB.out | apply zJ | apply zD | apply zE) | exact HB.out)⟩⟩
            case round =>
             clear H'
             try clear c1
             try clear p2
             try clear c3
             try clear p3
             try clear q3
             try clear hx3
             try clear qi3
             try clear c4
             try clear c4b0
             try clear c4b1
             try clear c4b2
             try clear c5
             try clear p6
             try clear c8
             try clear c8b0
             try clear c9
             try clear c9b0
             try clear c10
             try clear c10b0
             try clear c10b1
             try clear c11
             try clear c11b0
             try clear c11b1
             try clear c11b2
             try clear c15
             try clear c18
             try clear c18b0
             try clear c18b1
             try clear c19
             try clear c19b0
             try clear hx302_0
             try clear hx303_0
             try clear hx315_0
             try clear p2
             try clear p3
             try clear p302
             try clear p303
             try clear p315
             try clear p6
             try clear q3
             try clear q302
             try clear q303
             try clear q315
             obtain ⟨x11_4, x12_4, rfl, HA, HK4, HO_9, HO_11, HB⟩ := hrel
             cases gk with
             | zero => exact absurd HA.out (by simp [r11_Means.l2])
             | succ k4 =>
              have H := HA.out
              clear HA
              simp only [r11_Means.l2] at H
              by_cases c22 : x12_4 < (l1.length : Int)
              ·rw [if_pos c22] at H
               have c22b0 : decide (x12_4 < (l1.length : Int)) = true := yC c22
               clear c22
               by_cases c23 : 0 ≤ x12_4
               ·rw [if_pos c23] at H
                have c23b0 : decide (0 ≤ x12_4) = true := yC c23
                clear c23
                by_cases c24 : 0 ≤ x10_3
                ·rw [if_pos c24] at H
                 have c24b0 : decide (0 ≤ x10_3) = true := yC c24
                 clear c24
                 by_cases c25 : x10_3 < ((rd_L1 l1 x12_4).length : Int)
                 ·rw [if_pos c25] at H
                  have c25b0 : decide (x10_3 < ((rd_L1 l1 x12_4).length : Int)) = true := yC c25
                  clear c25
                  by_cases c26 : x11_4.length < 140737488355328
                  ·rw [if_pos c26] at H
                   have LMc26 := zK c26
                   clear c26
                   obtain ⟨y321, hy321⟩ : ∃ y_ : List Int, y_ = (x11_4 ++ [rd (rd_L1 l1 x12_4) x10_3]) := ⟨_, rfl⟩
                   replace H : (r11_Means.l2 k4 l0 l1 x9_3 x10_3 y321 (wrap64 (x12_4 + 1))) = some (r1, r2) := by first | (rw [hy321]; with_reducible exact H) | (have H2_ := (yV _ _).symm.trans H; rw [hy321]; with_reducible exact H2_) | (have H2_ := (yV _ _).symm.trans H; with_reducible exact H2_) | with_reducible exact H | (rw [hy321]; exact H) | exact H
                   have Ny321 := zK hy321
                   clear hy321
                   have H' := zK H
                   clear H
                   have p319 : 0 ≤ (x12_4 : Int) := yB (by first | (with_reducible assumption) | assumption)
                   have q319 : x12_4 < (l1.length : Int) := yB (by first | (with_reducible assumption) | assumption)
                   obtain ⟨ad319, A319_0, c319_0, e319, hx319_0, hl319_0, hi319_0⟩ := at_L1 HR1.out x12_4 p319 q319
                   obtain rfl : ad315 = ad319 := (by injection e319)
                   replace hx319_0 := (HB.out.cell (World.block_lt_of_cell? w _ hx319_0)).trans hx319_0
                   have HR319_0 := zK hi319_0
                   have HC319_0 := zK hl319_0
                   clear hi319_0 hl319_0
                   replace p319 := yg p319
                   replace q319 := yg q319
                   have p320 : 0 ≤ (x10_3 : Int) := yB (by first | (with_reducible assumption) | assumption)
                   have q320 : x10_3 < ((rd_L1 l1 x12_4).length : Int) := yB (by first | (with_reducible assumption) | assumption)
                   obtain ⟨ad320, e320, hx320_0⟩ := Kd.at_int HR319_0.out x10_3 p320 q320
                   cases e320
                   replace hx320_0 := (HB.out.cell (World.block_lt_of_cell? w _ hx320_0)).trans hx320_0
                   replace p320 := yg p320
                   replace q320 := yg q320
                   go_wp2_with (first | ((with_reducible refine gate_builtin (b := .append) (xs := #[.tmp 67, .tmp 75]) rfl ?_); at_builtin; refine Kd.R_append (Kd.int .i8) (w0 := w) w.heap.size rfl (.tmp 67) (.tmp 75) 22 53 (.int .i8 0) 1 rfl Try.underlying22 info53 rfl (by decide) (by omega) u11 x11_4 (rd (rd_L1 l1 x12_4) x10_3) [.int .i8 (rd (rd_L1 l1 x12_4) x10_3)] (fun k_ => some k_ ≠ (u9 : Value).ownBlock) (fun _ => False) rfl rfl ?aP (fun _ hk => hk.elim) ?aF ?aO ?aB ?aS ?aL ?_; (case aP => exact rfl); (case aB => exact (by repeat (first | (with_reducible first | exact HB.out | apply zJ | apply zD | apply zE) | exact HB.out))); (case aF => exact (fun k_ hk => Kd.fresh' (Kd.R_lt (by (with_reducible repeat (first | apply zL | apply zM | apply zN)); exact HO_9.out)) k_ hk)); (case aO => exact (by (with_reducible repeat (first | apply zL | apply zM | apply zN)); exact HO_11.out)); (case aS => exact (yK (by repeat (first | (with_reducible first | exact HB.out | apply zJ | apply zD | apply zE) | exact HB.out)))); (case aL => have := LMc26.out; omega); intro v322 w27 ho hb hg hat; rw [← Ny321.out] at ho; have n0_ := zK (Kd.R_after (ok := (fun _ => True)) (by (with_reducible repeat (first | apply zL | apply zM | apply zN)); exact yd HO_9.out (fun _ hk => ⟨trivial, hk⟩)) hg hat); have n1_ := zK (hb); have n2_ := zK (ho); clear HO_9 HB HO_11; have HO_9 := n0_; have HB := n1_; have HO323 := n2_; clear n0_ n1_ n2_ ho hb hg hat))
                   repeat (go_quiet (first | ((with_reducible refine gate_builtin (b := .append) (xs := #[.tmp 67, .tmp 75]) rfl ?_); at_builtin; refine Kd.R_append (Kd.int .i8) (w0 := w) w.heap.size rfl (.tmp 67) (.tmp 75) 22 53 (.int .i8 0) 1 rfl Try.underlying22 info53 rfl (by decide) (by omega) u11 x11_4 (rd (rd_L1 l1 x12_4) x10_3) [.int .i8 (rd (rd_L1 l1 x12_4) x10_3)] (fun k_ => some k_ ≠ (u9 : Value).ownBlock) (fun _ => False) rfl rfl ?aP (fun _ hk => hk.elim) ?aF ?aO ?aB ?aS ?aL ?_; (case aP => exact rfl); (case aB => exact (by repeat (first | (with_reducible first | exact HB.out | apply zJ | apply zD | apply zE) | exact HB.out))); (case aF => exact (fun k_ hk => Kd.fresh' (Kd.R_lt (by (with_reducible repeat (first | apply zL | apply zM | apply zN)); exact HO_9.out)) k_ hk)); (case aO => exact (by (with_reducible repeat (first | apply zL | apply zM | apply zN)); exact HO_11.out)); (case aS => exact (yK (by repeat (first | (with_reducible first | exact HB.out | apply zJ | apply zD | apply zE) | exact HB.out)))); (case aL => have := LMc26.out; omega); intro v322 w27 ho hb hg hat; rw [← Ny321.out] at ho; have n0_ := zK (Kd.R_after (ok := (fun _ => True)) (by (with_reducible repeat (first | apply zL | apply zM | apply zN)); exact yd HO_9.out (fun _ hk => ⟨trivial, hk⟩)) hg hat); have n1_ := zK (hb); have n2_ := zK (ho); clear HO_9 HB HO_11; have HO_9 := n0_; have HB := n1_; have HO323 := n2_; clear n0_ n1_ n2_ ho hb hg hat)); try go_wp2_with (first | ((with_reducible refine gate_builtin (b := .append) (xs := #[.tmp 67, .tmp 75]) rfl ?_); at_builtin; refine Kd.R_append (Kd.int .i8) (w0 := w) w.heap.size rfl (.tmp 67) (.tmp 75) 22 53 (.int .i8 0) 1 rfl Try.underlying22 info53 rfl (by decide) (by omega) u11 x11_4 (rd (rd_L1 l1 x12_4) x10_3) [.int .i8 (rd (rd_L1 l1 x12_4) x10_3)] (fun k_ => some k_ ≠ (u9 : Value).ownBlock) (fun _ => False) rfl rfl ?aP (fun _ hk => hk.elim) ?aF ?aO ?aB ?aS ?aL ?_; (case aP => exact rfl); (case aB => exact (by repeat (first | (with_reducible first | exact HB.out | apply zJ | apply zD | apply zE) | exact HB.out))); (case aF => exact (fun k_ hk => Kd.fresh' (Kd.R_lt (by (with_reducible repeat (first | apply zL | apply zM | apply zN)); exact HO_9.out)) k_ hk)); (case aO => exact (by (with_reducible repeat (first | apply zL | apply zM | apply zN)); exact HO_11.out)); (case aS => exact (yK (by repeat (first | (with_reducible first | exact HB.out | apply zJ | apply zD | apply zE) | exact HB.out)))); (case aL => have := LMc26.out; omega); intro v322 w27 ho hb hg hat; rw [← Ny321.out] at ho; have n0_ := zK (Kd.R_after (ok := (fun _ => True)) (by (with_reducible repeat (first | apply zL | apply zM | apply zN)); exact yd HO_9.out (fun _ hk => ⟨trivial, hk⟩)) hg hat); have n1_ := zK (hb); have n2_ := zK (ho); clear HO_9 HB HO_11; have HO_9 := n0_; have HB := n1_; have HO323 := n2_; clear n0_ n1_ n2_ ho hb hg hat)))
                   go_roundg k4
                   case measure => have := HJ2.out; have := HK2.out; have := HK3.out; have := HK4.out; omega
                   case rel => exact ⟨(y321), (wrap64 (x12_4 + 1)), (by first | rfl | (simp; done) | (simp [*]; done)), H', ⟨by have := HJ2.out; have := HK2.out; have := HK3.out; have := HK4.out; omega⟩, ⟨by (with_reducible repeat (first | apply zL | apply zM | apply zN)); exact yd HO_9.out (fun _ hk => hk.2)⟩, ⟨by (with_reducible repeat (first | apply zL | apply zM | apply zN)); exact HO323.out⟩, ⟨by repeat (first | (with_reducible first | exact HB.out | apply zJ | apply zD | apply zE) | exact HB.out)⟩⟩
                  ·rw [if_neg c26] at H
                   exact absurd H (by simp)
                 ·rw [if_neg c25] at H
                  exact absurd H (by simp)
                ·rw [if_neg c24] at H
                 exact absurd H (by simp)
               ·rw [if_neg c23] at H
                exact absurd H (by simp)
              ·rw [if_neg c22] at H
               have c22b0 : decide (x12_4 < (l1.length : Int)) = false := yD c22
               clear c22
               replace H := yA.mp H
               obtain ⟨⟨t324, t325⟩, A280, H⟩ := H
               replace H : (if x9_3.length < 140737488355328 then (r11_Means.l1 k4 l0 l1 (x9_3 ++ [t324]) (wrap64 (x10_3 + 1))) else (none)) = some (r1, r2) := H
               have A28 := zK A280
               clear A280
               by_cases c29 : x9_3.length < 140737488355328
               ·rw [if_pos c29] at H
                have LMc29 := zK c29
                clear c29
                obtain ⟨y326, hy326⟩ : ∃ y_ : List Int, y_ = (x9_3 ++ [t324]) := ⟨_, rfl⟩
                replace H : (r11_Means.l1 k4 l0 l1 y326 (wrap64 (x10_3 + 1))) = some (r1, r2) := by first | (rw [hy326]; with_reducible exact H) | (have H2_ := (yV _ _).symm.trans H; rw [hy326]; with_reducible exact H2_) | (have H2_ := (yV _ _).symm.trans H; with_reducible exact H2_) | with_reducible exact H | (rw [hy326]; exact H) | exact H
                have Ny326 := zK hy326
                clear hy326
                have H' := zK H
                clear H
                obtain ⟨Ao30, co30, eo30⟩ := Kd.R_slice HO_11.out
                subst eo30
                go_wp2_with (first | (go_at_call 53; (with_reducible refine (r11_Mean.calls k4 _ _ l0 _ _ x11_4 t324 t325 _ ?side1 ?side2 ?side3 ?side4 A28.out).mono ?_); (case side1 => repeat (first | exact (yc HR0.out HB.out) | (with_reducible refine yS ?_ _) | (with_reducible refine yT ?_ _) | (with_reducible refine yU ?_))); (case side2 => exact HC0.out); (case side3 => repeat (first | exact (yM HO_11.out).2.2 | (with_reducible refine yS ?_ _) | (with_reducible refine yT ?_ _) | (with_reducible refine yU ?_))); (case side4 => exact (yM HO_11.out).2.1); rintro e w' ⟨rfl, ⟨nd, rfl⟩⟩; (try first | exact ⟨rfl, _, World.drewN_drewN _ _ _⟩ | exact ⟨rfl, _, Eq.trans (World.drewN_drewN _ _ _) (congrArg (World.drewN _) (Nat.add_assoc _ _ _))⟩)) | ((with_reducible refine gate_builtin (b := .append) (xs := #[.tmp 83, .tmp 85]) rfl ?_); at_builtin; refine Kd.R_append (Kd.int .i8) (w0 := w) w.heap.size rfl (.tmp 83) (.tmp 85) 22 53 (.int .i8 0) 1 rfl Try.underlying22 info53 rfl (by decide) (by omega) u9 x9_3 t324 [.int .i8 t324] (fun k_ => some k_ ≠ (.slice Ao30 x11_4.length co30 : Value).ownBlock) (fun _ => False) rfl rfl ?aP (fun _ hk => hk.elim) ?aF ?aO ?aB ?aS ?aL ?_; (case aP => exact rfl); (case aB => exact (by repeat (first | (with_reducible first | exact HB.out | apply zJ | apply zD | apply zE) | exact HB.out))); (case aF => exact (fun k_ hk => Kd.fresh' (Kd.R_lt (by (with_reducible repeat (first | apply zL | apply zM | apply zN)); exact HO_11.out)) k_ hk)); (case aO => exact (by (with_reducible repeat (first | apply zL | apply zM | apply zN)); exact HO_9.out)); (case aS => exact (yK (by repeat (first | (with_reducible first | exact HB.out | apply zJ | apply zD | apply zE) | exact HB.out)))); (case aL => have := LMc29.out; omega); intro v327 w31 ho hb hg hat; rw [← Ny326.out] at ho; have n0_ := zK (Kd.R_after (ok := (fun _ => True)) (by (with_reducible repeat (first | apply zL | apply zM | apply zN)); exact yd HO_11.out (fun _ hk => ⟨trivial, hk⟩)) hg hat); have n1_ := zK (hb); have n2_ := zK (ho); clear HO_11 HB HO_9; have HO_11 := n0_; have HB := n1_; have HO328 := n2_; clear n0_ n1_ n2_ ho hb hg hat))
                repeat (go_quiet (first | (go_at_call 53; (with_reducible refine (r11_Mean.calls k4 _ _ l0 _ _ x11_4 t324 t325 _ ?side1 ?side2 ?side3 ?side4 A28.out).mono ?_); (case side1 => repeat (first | exact (yc HR0.out HB.out) | (with_reducible refine yS ?_ _) | (with_reducible refine yT ?_ _) | (with_reducible refine yU ?_))); (case side2 => exact HC0.out); (case side3 => repeat (first | exact (yM HO_11.out).2.2 | (with_reducible refine yS ?_ _) | (with_reducible refine yT ?_ _) | (with_reducible refine yU ?_))); (case side4 => exact (yM HO_11.out).2.1); rintro e w' ⟨rfl, ⟨nd, rfl⟩⟩; (try first | exact ⟨rfl, _, World.drewN_drewN _ _ _⟩ | exact ⟨rfl, _, Eq.trans (World.drewN_drewN _ _ _) (congrArg (World.drewN _) (Nat.add_assoc _ _ _))⟩)) | ((with_reducible refine gate_builtin (b := .append) (xs := #[.tmp 83, .tmp 85]) rfl ?_); at_builtin; refine Kd.R_append (Kd.int .i8) (w0 := w) w.heap.size rfl (.tmp 83) (.tmp 85) 22 53 (.int .i8 0) 1 rfl Try.underlying22 info53 rfl (by decide) (by omega) u9 x9_3 t324 [.int .i8 t324] (fun k_ => some k_ ≠ (.slice Ao30 x11_4.length co30 : Value).ownBlock) (fun _ => False) rfl rfl ?aP (fun _ hk => hk.elim) ?aF ?aO ?aB ?aS ?aL ?_; (case aP => exact rfl); (case aB => exact (by repeat (first | (with_reducible first | exact HB.out | apply zJ | apply zD | apply zE) | exact HB.out))); (case aF => exact (fun k_ hk => Kd.fresh' (Kd.R_lt (by (with_reducible repeat (first | apply zL | apply zM | apply zN)); exact HO_11.out)) k_ hk)); (case aO => exact (by (with_reducible repeat (first | apply zL | apply zM | apply zN)); exact HO_9.out)); (case aS => exact (yK (by repeat (first | (with_reducible first | exact HB.out | apply zJ | apply zD | apply zE) | exact HB.out)))); (case aL => have := LMc29.out; omega); intro v327 w31 ho hb hg hat; rw [← Ny326.out] at ho; have n0_ := zK (Kd.R_after (ok := (fun _ => True)) (by (with_reducible repeat (first | apply zL | apply zM | apply zN)); exact yd HO_11.out (fun _ hk => ⟨trivial, hk⟩)) hg hat); have n1_ := zK (hb); have n2_ := zK (ho); clear HO_11 HB HO_9; have HO_11 := n0_; have HB := n1_; have HO328 := n2_; clear n0_ n1_ n2_ ho hb hg hat)); try go_wp2_with (first | (go_at_call 53; (with_reducible refine (r11_Mean.calls k4 _ _ l0 _ _ x11_4 t324 t325 _ ?side1 ?side2 ?side3 ?side4 A28.out).mono ?_); (case side1 => repeat (first | exact (yc HR0.out HB.out) | (with_reducible refine yS ?_ _) | (with_reducible refine yT ?_ _) | (with_reducible refine yU ?_))); (case side2 => exact HC0.out); (case side3 => repeat (first | exact (yM HO_11.out).2.2 | (with_reducible refine yS ?_ _) | (with_reducible refine yT ?_ _) | (with_reducible refine yU ?_))); (case side4 => exact (yM HO_11.out).2.1); rintro e w' ⟨rfl, ⟨nd, rfl⟩⟩; (try first | exact ⟨rfl, _, World.drewN_drewN _ _ _⟩ | exact ⟨rfl, _, Eq.trans (World.drewN_drewN _ _ _) (congrArg (World.drewN _) (Nat.add_assoc _ _ _))⟩)) | ((with_reducible refine gate_builtin (b := .append) (xs := #[.tmp 83, .tmp 85]) rfl ?_); at_builtin; refine Kd.R_append (Kd.int .i8) (w0 := w) w.heap.size rfl (.tmp 83) (.tmp 85) 22 53 (.int .i8 0) 1 rfl Try.underlying22 info53 rfl (by decide) (by omega) u9 x9_3 t324 [.int .i8 t324] (fun k_ => some k_ ≠ (.slice Ao30 x11_4.length co30 : Value).ownBlock) (fun _ => False) rfl rfl ?aP (fun _ hk => hk.elim) ?aF ?aO ?aB ?aS ?aL ?_; (case aP => exact rfl); (case aB => exact (by repeat (first | (with_reducible first | exact HB.out | apply zJ | apply zD | apply zE) | exact HB.out))); (case aF => exact (fun k_ hk => Kd.fresh' (Kd.R_lt (by (with_reducible repeat (first | apply zL | apply zM | apply zN)); exact HO_11.out)) k_ hk)); (case aO => exact (by (with_reducible repeat (first | apply zL | apply zM | apply zN)); exact HO_9.out)); (case aS => exact (yK (by repeat (first | (with_reducible first | exact HB.out | apply zJ | apply zD | apply zE) | exact HB.out)))); (case aL => have := LMc29.out; omega); intro v327 w31 ho hb hg hat; rw [← Ny326.out] at ho; have n0_ := zK (Kd.R_after (ok := (fun _ => True)) (by (with_reducible repeat (first | apply zL | apply zM | apply zN)); exact yd HO_11.out (fun _ hk => ⟨trivial, hk⟩)) hg hat); have n1_ := zK (hb); have n2_ := zK (ho); clear HO_11 HB HO_9; have HO_11 := n0_; have HB := n1_; have HO328 := n2_; clear n0_ n1_ n2_ ho hb hg hat)))
                go_roundg k4
                case measure => have := HJ2.out; have := HK2.out; have := HK3.out; have := HK4.out; omega
                case rel => exact ⟨(y326), (wrap64 (x10_3 + 1)), (by first | rfl | (simp; done) | (simp [*]; done)), H', ⟨by have := HJ2.out; have := HK2.out; have := HK3.out; have := HK4.out; omega⟩, ⟨by (with_reducible repeat (first | apply zL | apply zM | apply zN)); exact yd HO328.out (fun _ hk => trivial)⟩, ⟨by repeat (first | (with_reducible first | exact HB.out | apply zJ | apply zD | apply zE) | exact HB.out)⟩⟩
               ·rw [if_neg c29] at H
                exact absurd H (by simp)
           ·rw [if_neg c19] at H
            have c19b0 : decide (x10_3 < ((rd_L1 l1 0).length : Int)) = false := yD c19
            clear c19
            simp only [yZ, ya] at H
            obtain ⟨rfl, rfl⟩ := H
            have p315 : 0 ≤ (0 : Int) := (by omega)
            have q315 : 0 < (l1.length : Int) := yB (by first | (with_reducible assumption) | assumption)
            obtain ⟨ad315, A315_0, c315_0, e315, hx315_0, hl315_0, hi315_0⟩ := at_L1 HR1.out 0 p315 q315
            cases e315
            have qi315 : (0 < l1.length) = True := yg (by omega)
            (try rw [show ((0 : Int)).toNat = 0 from rfl] at hx315_0)
            (try rw [Addr.add_zero'] at hx315_0)
            replace hx315_0 := (HB.out.cell (World.block_lt_of_cell? w _ hx315_0)).trans hx315_0
            have HR315_0 := zK hi315_0
            have HC315_0 := zK hl315_0
            clear hi315_0 hl315_0
            replace p315 := yg p315
            replace q315 := yg q315
            go_wp2
            repeat (go_quiet (fail); try go_wp2)
            go_ret2
            exact ⟨_, by first | rfl | (simp [errW_none, errW_some] <;> rfl) | (simp [*, errW_none, errW_some] <;> rfl), by (with_reducible repeat (first | apply zL | apply zM | apply zN)); exact HO_9.out, by repeat (first | (with_reducible first | exact HB.out | apply zJ | apply zD | apply zE) | exact HB.out)⟩
          ·rw [if_neg c18] at H
           exact absurd H (by simp)
       ·replace c15 := yh.mpr c15
        subst c15
        have H1 : (some ((([] : List Int)), 110)) = some (r1, r2) := by rw [if_neg (show ¬ (false = true) by decide)] at H; exact H
        clear H
        have H := H1
        clear H1
        obtain ⟨y309, hy309⟩ : ∃ y_ : List Int, y_ = (([] : List Int)) := ⟨_, rfl⟩
        replace H : (some (y309, 110)) = some (r1, r2) := by first | (rw [hy309]; with_reducible exact H) | (have H2_ := (yV _ _).symm.trans H; rw [hy309]; with_reducible exact H2_) | (have H2_ := (yV _ _).symm.trans H; with_reducible exact H2_) | with_reducible exact H | (rw [hy309]; exact H) | exact H
        have Ny309 := zK hy309
        clear hy309
        simp only [yZ, ya] at H
        obtain ⟨rfl, rfl⟩ := H
        go_wp2_with (first | (go_at_call 52; (with_reducible refine (r11_good.calls k2 _ _ l0 t307 false _ ?side1 ?side2 A14.out).mono ?_); (case side1 => repeat (first | exact (yc HR0.out HB.out) | (with_reducible refine yS ?_ _) | (with_reducible refine yT ?_ _) | (with_reducible refine yU ?_))); (case side2 => exact HC0.out); rintro e w' ⟨rfl, ⟨nd, rfl⟩⟩; (try first | exact ⟨rfl, _, World.drewN_drewN _ _ _⟩ | exact ⟨rfl, _, Eq.trans (World.drewN_drewN _ _ _) (congrArg (World.drewN _) (Nat.add_assoc _ _ _))⟩)) | ((with_reducible refine gate_dst (N := 50) rfl ?_); refine Kd.R_lit (Kd.int .i8) _ 53 ?hg (N := 50) ?hd (xs := ([] : List Int)) (inner := []) (ok := fun _ => True) (okp := fun _ => True) ?hr ?hp (fun _ hk => hk) trivial (Below.refl _ _) (yN _) (by simp) ?_; (case hd => rfl); (case hg => rfl); (case hr => first | (go_simp; done) | (go_simp; rfl)); (case hp => exact (Reps.none _ _)); intro v310 w32 ho33 hb hg_ hnew_; clear hg_ hnew_; (first | rw [← Ny309.out] at ho33 | (simp only [Int.reduceToNat] at ho33; rw [← Ny309.out] at ho33)); have n0_ := zK (Kd.R_lower ho33 (yK (by repeat (first | (with_reducible first | exact HB.out | apply zJ | apply zD | apply zE) | exact HB.out)))); have n1_ := zK (yL (by repeat (first | (with_reducible first | exact HB.out | apply zJ | apply zD | apply zE) | exact HB.out)) hb); clear HB; have HO311 := n0_; have HB := n1_; clear n0_ n1_ hb ho33))
        repeat (go_quiet (first | (go_at_call 52; (with_reducible refine (r11_good.calls k2 _ _ l0 t307 false _ ?side1 ?side2 A14.out).mono ?_); (case side1 => repeat (first | exact (yc HR0.out HB.out) | (with_reducible refine yS ?_ _) | (with_reducible refine yT ?_ _) | (with_reducible refine yU ?_))); (case side2 => exact HC0.out); rintro e w' ⟨rfl, ⟨nd, rfl⟩⟩; (try first | exact ⟨rfl, _, World.drewN_drewN _ _ _⟩ | exact ⟨rfl, _, Eq.trans (World.drewN_drewN _ _ _) (congrArg (World.drewN _) (Nat.add_assoc _ _ _))⟩)) | ((with_reducible refine gate_dst (N := 50) rfl ?_); refine Kd.R_lit (Kd.int .i8) _ 53 ?hg (N := 50) ?hd (xs := ([] : List Int)) (inner := []) (ok := fun _ => True) (okp := fun _ => True) ?hr ?hp (fun _ hk => hk) trivial (Below.refl _ _) (yN _) (by simp) ?_; (case hd => rfl); (case hg => rfl); (case hr => first | (go_simp; done) | (go_simp; rfl)); (case hp => exact (Reps.none _ _)); intro v310 w32 ho33 hb hg_ hnew_; clear hg_ hnew_; (first | rw [← Ny309.out] at ho33 | (simp only [Int.reduceToNat] at ho33; rw [← Ny309.out] at ho33)); have n0_ := zK (Kd.R_lower ho33 (yK (by repeat (first | (with_reducible first | exact HB.out | apply zJ | apply zD | apply zE) | exact HB.out)))); have n1_ := zK (yL (by repeat (first | (with_reducible first | exact HB.out | apply zJ | apply zD | apply zE) | exact HB.out)) hb); clear HB; have HO311 := n0_; have HB := n1_; clear n0_ n1_ hb ho33)); try go_wp2_with (first | (go_at_call 52; (with_reducible refine (r11_good.calls k2 _ _ l0 t307 false _ ?side1 ?side2 A14.out).mono ?_); (case side1 => repeat (first | exact (yc HR0.out HB.out) | (with_reducible refine yS ?_ _) | (with_reducible refine yT ?_ _) | (with_reducible refine yU ?_))); (case side2 => exact HC0.out); rintro e w' ⟨rfl, ⟨nd, rfl⟩⟩; (try first | exact ⟨rfl, _, World.drewN_drewN _ _ _⟩ | exact ⟨rfl, _, Eq.trans (World.drewN_drewN _ _ _) (congrArg (World.drewN _) (Nat.add_assoc _ _ _))⟩)) | ((with_reducible refine gate_dst (N := 50) rfl ?_); refine Kd.R_lit (Kd.int .i8) _ 53 ?hg (N := 50) ?hd (xs := ([] : List Int)) (inner := []) (ok := fun _ => True) (okp := fun _ => True) ?hr ?hp (fun _ hk => hk) trivial (Below.refl _ _) (yN _) (by simp) ?_; (case hd => rfl); (case hg => rfl); (case hr => first | (go_simp; done) | (go_simp; rfl)); (case hp => exact (Reps.none _ _)); intro v310 w32 ho33 hb hg_ hnew_; clear hg_ hnew_; (first | rw [← Ny309.out] at ho33 | (simp only [Int.reduceToNat] at ho33; rw [← Ny309.out] at ho33)); have n0_ := zK (Kd.R_lower ho33 (yK (by repeat (first | (with_reducible first | exact HB.out | apply zJ | apply zD | apply zE) | exact HB.out)))); have n1_ := zK (yL (by repeat (first | (with_reducible first | exact HB.out | apply zJ | apply zD | apply zE) | exact HB.out)) hb); clear HB; have HO311 := n0_; have HB := n1_; clear n0_ n1_ hb ho33)))
        go_ret2
        exact ⟨_, by first | rfl | (simp [errW_none, errW_some] <;> rfl) | (simp [*, errW_none, errW_some] <;> rfl), by (with_reducible repeat (first | apply zL | apply zM | apply zN)); exact HO311.out, by repeat (first | (with_reducible first | exact HB.out | apply zJ | apply zD | apply zE) | exact HB.out)⟩

end Go.Proofs.Ytmjepdhjginelaa.B
