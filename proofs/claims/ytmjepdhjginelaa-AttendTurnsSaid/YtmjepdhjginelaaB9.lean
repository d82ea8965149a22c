-- Printed by this session's own driver (wip/tools/xprint.py) over the kit's printer; given functions are this session's own.
import Derived.Test.YtmjepdhjginelaaB0
import Derived.Test.YtmjepdhjginelaaB2
namespace Go.Proofs.Ytmjepdhjginelaa.B
open Go.RowKit Go.Proofs.YtmjepdhjginelaaW.PrintWords Go.Proofs.YtmjepdhjginelaaW.PrintLast Go.Proofs.YtmjepdhjginelaaW.PrintMore
attribute [local go_sem] max2_int min2_int max_two min_two max_three min_three max_four min_four   -- for this text's walks alone
set_option linter.unusedVariables false
set_option linter.unusedSimpArgs false

/-! ### r02_Exp2: function 50 -/
mutual
def r02_Exp2.j0 : Nat → Int → Option (Int)
 | 0, _ => none
 | k + 1, x0 => (r02_Floor.f x0 65536).bind fun bt271 => (if (wrap64 (-bt271.1)) ≥ 31 then (some 0) else (r02_Exp2.l0 k (wrap64 (-bt271.1)) (wrap64 (1073741824 + (wrap64 (Int.tdiv (wrap64 ((wrap64 (747400624 + (wrap64 (Int.tdiv (wrap64 ((wrap64 (241400000 + (wrap64 (Int.tdiv (wrap64 (84941200 * bt271.2.1)) 65536)))) * bt271.2.1)) 65536)))) * bt271.2.1)) 65536)))) 0))
def r02_Exp2.l0 : Nat → Int → Int → Int → Option (Int)
 | 0, _, _, _ => none
 | k + 1, x6, x9, x10 => if x10 < x6 then (r02_Exp2.l0 k x6 (wrap64 (Int.tdiv x9 2)) (wrap64 (x10 + 1))) else (some x9)
end
def r02_Exp2.f (k : Nat) (a0 : Int) : Option (Int) := if a0 > 0 then (r02_Exp2.j0 k 0) else (r02_Exp2.j0 k a0)
theorem r02_Exp2.mono_l : ∀ k, (∀ y0, LeO (r02_Exp2.j0 k y0) (r02_Exp2.j0 (k + 1) y0)) ∧ (∀ y0 y1 y2, LeO (r02_Exp2.l0 k y0 y1 y2) (r02_Exp2.l0 (k + 1) y0 y1 y2))
 | 0 => ⟨fun _ r h => by simp [r02_Exp2.j0] at h, fun _ _ _ r h => by simp [r02_Exp2.l0] at h⟩
 | k + 1 => by
  obtain ⟨ih0, ih1⟩ := r02_Exp2.mono_l k
  refine ⟨?_, ?_⟩ <;> (intros; first | unfold r02_Exp2.j0 | unfold r02_Exp2.l0)
  all_goals repeat' first
   | (with_reducible exact ih0 _)
   | (with_reducible exact ih1 _ _ _)
   | (with_reducible exact yR _)
   | (with_reducible exact yO _)
   | (with_reducible refine yQ ?_ ?_)
   | (with_reducible refine yP ?_ (fun _ => ?_))
   | exact ih0 _
   | exact ih1 _ _ _
   | exact yO _
   | refine yQ ?_ ?_
   | refine yP ?_ (fun _ => ?_)
theorem r02_Exp2.mono : ∀ a0 k, LeO (r02_Exp2.f k a0) (r02_Exp2.f (k + 1) a0) := by
 intro a0 k
 obtain ⟨ih0, ih1⟩ := r02_Exp2.mono_l k
 unfold r02_Exp2.f
 repeat' first
   | (with_reducible exact ih0 _)
   | (with_reducible exact ih1 _ _ _)
   | (with_reducible exact yR _)
   | (with_reducible exact yO _)
   | (with_reducible refine yQ ?_ ?_)
   | (with_reducible refine yP ?_ (fun _ => ?_))
   | exact ih0 _
   | exact ih1 _ _ _
   | exact yO _
   | refine yQ ?_ ?_
   | refine yP ?_ (fun _ => ?_)
set_option maxHeartbeats 8000000 in
set_option maxRecDepth 100000 in
theorem r02_Exp2.calls (k : Nat) (a0 : Int) (r : Int) (w : World) (h : r02_Exp2.f k a0 = some r) :
  Calls Try.prog 50 #[.int .i64 a0] w fun e w' => e = .returned (.int .i64 r) ∧ Drawn0 w w' := by
 have H : (if a0 > 0 then (r02_Exp2.j0 k 0) else (r02_Exp2.j0 k a0)) = some r := h
 clear h
 have HC2 := zK H
 clear H
 go_enter Try.func50, Try.ntmps50
 go_upto_if 12 with (fail)
 go_cut [0] (fun v0 wc => ∃ (kq : Nat) (x0_1 : Int), v0 = .int .i64 x0_1 ∧ Aside0 (r02_Exp2.j0 kq x0_1 = some r) ∧ Aside0 (kq ≤ k) ∧ Drawn0 w wc)
 case first =>
  have H := HC2.out
  clear HC2
  by_cases c3 : a0 > 0
  ·rw [if_pos c3] at H
   have c3b0 : decide (0 < a0) = true := yC c3
   clear c3
   (first | rw [c3b0] | (simp only [i64_w, i32_w]; rw [c3b0]) | skip)
   have H' := zK H
   clear H
   go_wp2
   go_meet
   case rel => exact ⟨_, (0), (by first | rfl | (simp; done) | (simp [*]; done)), H', ⟨by first | omega | exact yN _⟩, by repeat (first | exact Drawn0.refl _ | apply Drawn0.step)⟩
  ·rw [if_neg c3] at H
   have c3b0 : decide (0 < a0) = false := yD c3
   clear c3
   (first | rw [c3b0] | (simp only [i64_w, i32_w]; rw [c3b0]) | skip)
   have H' := zK H
   clear H
   go_wp2
   go_meet
   case rel => exact ⟨_, (a0), (by first | rfl | (simp; done) | (simp [*]; done)), H', ⟨by first | omega | exact yN _⟩, by repeat (first | exact Drawn0.refl _ | apply Drawn0.step)⟩
 case rest =>
  clear HC2
  try clear p2
  try clear c3
  try clear c3b0
  obtain ⟨kq, x0_1, rfl, HA, HJ1, ⟨mc1, rfl⟩⟩ := hcut
  cases kq with
  | zero => exact absurd HA.out (by simp [r02_Exp2.j0])
  | succ kj1 =>
   have H := HA.out
   clear HA
   simp only [r02_Exp2.j0] at H
   replace H := yA.mp H
   obtain ⟨⟨t271, t272, t273⟩, A40, H⟩ := H
   replace H : (if (wrap64 (-t271)) ≥ 31 then (some 0) else (r02_Exp2.l0 kj1 (wrap64 (-t271)) (wrap64 (1073741824 + (wrap64 (Int.tdiv (wrap64 ((wrap64 (747400624 + (wrap64 (Int.tdiv (wrap64 ((wrap64 (241400000 + (wrap64 (Int.tdiv (wrap64 (84941200 * t272)) 65536)))) * t272)) 65536)))) * t272)) 65536)))) 0)) = some r := H
   have A4 := zK A40
   clear A40
   by_cases c5 : (wrap64 (-t271)) ≥ 31
   ·rw [if_pos c5] at H
    have c5b0 : decide (31 ≤ (wrap64 (-t271))) = true := yC c5
    clear c5
    obtain rfl := yY H
    go_wp2_with (first | ((with_reducible refine gate_callee (f := 58) rfl ?_); refine goesL_ (some 15) rfl rfl Try.func58 (by kernel_rfl) rfl #[.int .i64 x0_1, .int .i64 65536] rfl (by (try simp only [yH, yI, yJ]); first | done | rfl | (simp only [yG, yF]; rfl)) ?_; (with_reducible refine (r02_Floor.calls x0_1 65536 t271 t272 t273 _ A4.out).mono ?_); rintro e w' ⟨rfl, ⟨nd, rfl⟩⟩; refine ⟨_, rfl, ?_⟩))
    go_ret
    exact ⟨by first | rfl | (simp; done) | (simp [*]; done), by repeat (first | exact Drawn0.refl _ | apply Drawn0.step)⟩
   ·rw [if_neg c5] at H
    have c5b0 : decide (31 ≤ (wrap64 (-t271))) = false := yD c5
    clear c5
    have H' := zK H
    clear H
    go_wp2_with (first | ((with_reducible refine gate_callee (f := 58) rfl ?_); refine goesL_ (some 15) rfl rfl Try.func58 (by kernel_rfl) rfl #[.int .i64 x0_1, .int .i64 65536] rfl (by (try simp only [yH, yI, yJ]); first | done | rfl | (simp only [yG, yF]; rfl)) ?_; (with_reducible refine (r02_Floor.calls x0_1 65536 t271 t272 t273 _ A4.out).mono ?_); rintro e w' ⟨rfl, ⟨nd, rfl⟩⟩; refine ⟨_, rfl, ?_⟩))
    go_loopg [9, 10] kj1 (fun kq v9 v10 w' => ∃ (x9_2 : Int) (x10_2 : Int), v9 = .int .i64 x9_2 ∧ v10 = .int .i64 x10_2 ∧ Aside0 (r02_Exp2.l0 kq (wrap64 (-t271)) x9_2 x10_2 = some r) ∧ Aside0 (kq ≤ kj1) ∧ Drawn0 w w')
    case atStart => exact ⟨(wrap64 (1073741824 + (wrap64 (Int.tdiv (wrap64 ((wrap64 (747400624 + (wrap64 (Int.tdiv (wrap64 ((wrap64 (241400000 + (wrap64 (Int.tdiv (wrap64 (84941200 * t272)) 65536)))) * t272)) 65536)))) * t272)) 65536)))), (0), (by first | rfl | (simp; done) | (simp [*]; done)), (by first | rfl | (simp; done) | (simp [*]; done)), H', ⟨yN _⟩, by repeat (first | exact Drawn0.refl _ | apply Drawn0.step)⟩
    case round =>
     clear H'
     try clear c1
     try clear p2
     try clear c3
     try clear c3b0
     try clear c5
     try clear c5b0
     try clear p2
     obtain ⟨x9_2, x10_2, rfl, rfl, HA, HK2, ⟨m2, rfl⟩⟩ := hrel
     cases gk with
     | zero => exact absurd HA.out (by simp [r02_Exp2.l0])
     | succ k2 =>
      have H := HA.out
      clear HA
      simp only [r02_Exp2.l0] at H
      by_cases c6 : x10_2 < (wrap64 (-t271))
      ·rw [if_pos c6] at H
       have c6b0 : decide (x10_2 < (wrap64 (-t271))) = true := yC c6
       clear c6
       have H' := zK H
       clear H
       go_wp2
       go_roundg k2
       case measure => have := HJ1.out; have := HK2.out; omega
       case rel => exact ⟨(wrap64 (Int.tdiv x9_2 2)), (wrap64 (x10_2 + 1)), (by first | rfl | (simp; done) | (simp [*]; done)), (by first | rfl | (simp; done) | (simp [*]; done)), H', ⟨by have := HJ1.out; have := HK2.out; omega⟩, by repeat (first | exact Drawn0.refl _ | apply Drawn0.step)⟩
      ·rw [if_neg c6] at H
       have c6b0 : decide (x10_2 < (wrap64 (-t271))) = false := yD c6
       clear c6
       obtain rfl := yY H
       go_wp2
       go_ret
       exact ⟨by first | rfl | (simp; done) | (simp [*]; done), by repeat (first | exact Drawn0.refl _ | apply Drawn0.step)⟩

/-! ### r11_distance: function 51 -/
def r11_distance.j0 : Nat → Int → Int → Bool → Option (Int)
 | 0, _, _, _ => none
 | k + 1, x0, x1, x18 => if x18 = true then (some (-1099511627776)) else (if (wrap64 (x0 - x1)) < (-1099511627776) then (some (-1099511627776)) else (some (wrap64 (x0 - x1))))
def r11_distance.f (k : Nat) (a0 : Int) (a1 : Int) : Option (Int) := if a0 < 0 then (if a1 ≥ 0 then (if a1 > 1099511627776 then (r11_distance.j0 k a0 a1 true) else (r11_distance.j0 k a0 a1 (decide (a0 < (-1099511627776))))) else (r11_distance.j0 k a0 a1 false)) else (r11_distance.j0 k a0 a1 false)
theorem r11_distance.mono_l : ∀ k, (∀ y0 y1 y2, LeO (r11_distance.j0 k y0 y1 y2) (r11_distance.j0 (k + 1) y0 y1 y2))
 | 0 => fun _ _ _ r h => by simp [r11_distance.j0] at h
 | k + 1 => by
  have ih0 := r11_distance.mono_l k
  intros
  unfold r11_distance.j0
  all_goals repeat' first
   | (with_reducible exact ih0 _ _ _)
   | (with_reducible exact yR _)
   | (with_reducible exact yO _)
   | (with_reducible refine yQ ?_ ?_)
   | (with_reducible refine yP ?_ (fun _ => ?_))
   | exact ih0 _ _ _
   | exact yO _
   | refine yQ ?_ ?_
   | refine yP ?_ (fun _ => ?_)
theorem r11_distance.mono : ∀ a0 a1 k, LeO (r11_distance.f k a0 a1) (r11_distance.f (k + 1) a0 a1) := by
 intro a0 a1 k
 have ih0 := r11_distance.mono_l k
 unfold r11_distance.f
 repeat' first
   | (with_reducible exact ih0 _ _ _)
   | (with_reducible exact yR _)
   | (with_reducible exact yO _)
   | (with_reducible refine yQ ?_ ?_)
   | (with_reducible refine yP ?_ (fun _ => ?_))
   | exact ih0 _ _ _
   | exact yO _
   | refine yQ ?_ ?_
   | refine yP ?_ (fun _ => ?_)
set_option maxHeartbeats 8000000 in
set_option maxRecDepth 100000 in
theorem r11_distance.calls (k : Nat) (a0 : Int) (a1 : Int) (r : Int) (w : World) (h : r11_distance.f k a0 a1 = some r) :
  Calls Try.prog 51 #[.int .i64 a0, .int .i64 a1] w fun e w' => e = .returned (.int .i64 r) ∧ Drawn0 w w' := by
 have H : (if a0 < 0 then (if a1 ≥ 0 then (if a1 > 1099511627776 then (r11_distance.j0 k a0 a1 true) else (r11_distance.j0 k a0 a1 (decide (a0 < (-1099511627776))))) else (r11_distance.j0 k a0 a1 false)) else (r11_distance.j0 k a0 a1 false)) = some r := h
 clear h
 have HC3 := zK H
 clear H
 go_enter Try.func51, Try.ntmps51
 go_upto_region 1 with (fail)
 go_cut [18] (fun v18 wc => ∃ (kq : Nat) (x18_2 : Bool), v18 = .bool x18_2 ∧ Aside0 (r11_distance.j0 kq a0 a1 x18_2 = some r) ∧ Aside0 (kq ≤ k) ∧ Drawn0 w wc)
 case first =>
  have H := HC3.out
  clear HC3
  by_cases c4 : a0 < 0
  ·rw [if_pos c4] at H
   have c4b0 : decide (a0 < 0) = true := yC c4
   clear c4
   (first | rw [c4b0] | (simp only [i64_w, i32_w]; rw [c4b0]) | skip)
   by_cases c5 : a1 ≥ 0
   ·rw [if_pos c5] at H
    have c5b0 : decide (0 ≤ a1) = true := yC c5
    clear c5
    by_cases c6 : a1 > 1099511627776
    ·rw [if_pos c6] at H
     have c6b0 : decide (1099511627776 < a1) = true := yC c6
     clear c6
     have H' := zK H
     clear H
     go_wp2
     go_meet
     case rel => exact ⟨_, (true), (by first | rfl | (simp; done) | (simp [*]; done)), H', ⟨by first | omega | exact yN _⟩, by repeat (first | exact Drawn0.refl _ | apply Drawn0.step)⟩
    ·rw [if_neg c6] at H
     have c6b0 : decide (1099511627776 < a1) = false := yD c6
     clear c6
     have H' := zK H
     clear H
     go_wp2
     go_meet
     case rel => exact ⟨_, (decide (a0 < (-1099511627776))), (by first | rfl | (simp; done) | (simp [*]; done)), H', ⟨by first | omega | exact yN _⟩, by repeat (first | exact Drawn0.refl _ | apply Drawn0.step)⟩
   ·rw [if_neg c5] at H
    have c5b0 : decide (0 ≤ a1) = false := yD c5
    clear c5
    have H' := zK H
    clear H
    go_wp2
    go_meet
    case rel => exact ⟨_, (false), (by first | rfl | (simp; done) | (simp [*]; done)), H', ⟨by first | omega | exact yN _⟩, by repeat (first | exact Drawn0.refl _ | apply Drawn0.step)⟩
  ·rw [if_neg c4] at H
   have c4b0 : decide (a0 < 0) = false := yD c4
   clear c4
   (first | rw [c4b0] | (simp only [i64_w, i32_w]; rw [c4b0]) | skip)
   have H' := zK H
   clear H
   go_wp2
   go_meet
   case rel => exact ⟨_, (false), (by first | rfl | (simp; done) | (simp [*]; done)), H', ⟨by first | omega | exact yN _⟩, by repeat (first | exact Drawn0.refl _ | apply Drawn0.step)⟩
 case rest =>
  clear HC3
  try clear p2
  try clear c4
  try clear c4b0
  try clear c5
  try clear c5b0
  try clear c6
  try clear c6b0
  obtain ⟨kq, x18_2, rfl, HA, HJ2, ⟨mc2, rfl⟩⟩ := hcut
  cases kq with
  | zero => exact absurd HA.out (by simp [r11_distance.j0])
  | succ kj2 =>
   have H := HA.out
   clear HA
   simp only [r11_distance.j0] at H
   by_cases c7 : x18_2 = true
   ·subst c7
    have H1 : (some (-1099511627776)) = some r := by rw [if_pos rfl] at H; exact H
    clear H
    have H := H1
    clear H1
    obtain rfl := yY H
    go_wp2
    go_ret
    exact ⟨by first | rfl | (simp; done) | (simp [*]; done), by repeat (first | exact Drawn0.refl _ | apply Drawn0.step)⟩
   ·replace c7 := yh.mpr c7
    subst c7
    have H1 : (if (wrap64 (a0 - a1)) < (-1099511627776) then (some (-1099511627776)) else (some (wrap64 (a0 - a1)))) = some r := by rw [if_neg (show ¬ (false = true) by decide)] at H; exact H
    clear H
    have H := H1
    clear H1
    by_cases c8 : (wrap64 (a0 - a1)) < (-1099511627776)
    ·rw [if_pos c8] at H
     have c8b0 : decide ((wrap64 (a0 - a1)) < (-1099511627776)) = true := yC c8
     clear c8
     obtain rfl := yY H
     go_wp2
     go_ret
     exact ⟨by first | rfl | (simp; done) | (simp [*]; done), by repeat (first | exact Drawn0.refl _ | apply Drawn0.step)⟩
    ·rw [if_neg c8] at H
     have c8b0 : decide ((wrap64 (a0 - a1)) < (-1099511627776)) = false := yD c8
     clear c8
     obtain rfl := yY H
     go_wp2
     go_ret
     exact ⟨by first | rfl | (simp; done) | (simp [*]; done), by repeat (first | exact Drawn0.refl _ | apply Drawn0.step)⟩

/-! ### r11_Weights: function 35 -/
mutual
def r11_Weights.j0 : Nat → List Int → Bool → Option (List Int × Int)
 | 0, _, _ => none
 | k + 1, x0, x15 => if x15 = true then (some ((([] : List Int)), 1)) else (if 0 < (x0.length : Int) then (r11_Weights.l0 k x0 (rd x0 0) 0) else (none))
def r11_Weights.l0 : Nat → List Int → Int → Int → Option (List Int × Int)
 | 0, _, _, _ => none
 | k + 1, x0, x4, x5 => if x5 < (x0.length : Int) then (if 0 ≤ x5 then (if (rd x0 x5) > x4 then (r11_Weights.l0 k x0 (rd x0 x5) (wrap64 (x5 + 1))) else (r11_Weights.l0 k x0 x4 (wrap64 (x5 + 1)))) else (none)) else (r11_Weights.l1 k x0 x4 (([] : List Int)) 0)
def r11_Weights.l1 : Nat → List Int → Int → List Int → Int → Option (List Int × Int)
 | 0, _, _, _, _ => none
 | k + 1, x0, x4, x6, x7 => if x7 < (x0.length : Int) then (if 0 ≤ x7 then ((r11_distance.f k (rd x0 x7) x4).bind fun t284 => ((r02_Exp2.f k (wrap64 (256 * t284))).bind fun t285 => (if x6.length < 17592186044416 then (r11_Weights.l1 k x0 x4 (x6 ++ [t285]) (wrap64 (x7 + 1))) else (none)))) else (none)) else (some (x6, 0))
end
def r11_Weights.f (k : Nat) (l0 : List Int) : Option (List Int × Int) := if (l0.length : Int) < 1 then (r11_Weights.j0 k l0 true) else (r11_Weights.j0 k l0 (decide ((l0.length : Int) > 512)))
theorem r11_Weights.mono_l : ∀ k, (∀ y0 y1, LeO (r11_Weights.j0 k y0 y1) (r11_Weights.j0 (k + 1) y0 y1)) ∧ (∀ y0 y1 y2, LeO (r11_Weights.l0 k y0 y1 y2) (r11_Weights.l0 (k + 1) y0 y1 y2)) ∧ (∀ y0 y1 y2 y3, LeO (r11_Weights.l1 k y0 y1 y2 y3) (r11_Weights.l1 (k + 1) y0 y1 y2 y3))
 | 0 => ⟨fun _ _ r h => by simp [r11_Weights.j0] at h, fun _ _ _ r h => by simp [r11_Weights.l0] at h, fun _ _ _ _ r h => by simp [r11_Weights.l1] at h⟩
 | k + 1 => by
  obtain ⟨ih0, ih1, ih2⟩ := r11_Weights.mono_l k
  refine ⟨?_, ?_, ?_⟩ <;> (intros; first | unfold r11_Weights.j0 | unfold r11_Weights.l0 | unfold r11_Weights.l1)
  all_goals repeat' first
   | (with_reducible exact ih0 _ _)
   | (with_reducible exact ih1 _ _ _)
   | (with_reducible exact ih2 _ _ _ _)
   | (with_reducible exact r02_Exp2.mono _ _)
   | (with_reducible exact r11_distance.mono _ _ _)
   | (with_reducible exact yR _)
   | (with_reducible exact yO _)
   | (with_reducible refine yQ ?_ ?_)
   | (with_reducible refine yP ?_ (fun _ => ?_))
   | exact ih0 _ _
   | exact ih1 _ _ _
   | exact ih2 _ _ _ _
   | exact r02_Exp2.mono _ _
   | exact r11_distance.mono _ _ _
   | exact yO _
   | refine yQ ?_ ?_
   | refine yP ?_ (fun _ => ?_)
theorem r11_Weights.mono : ∀ a0 k, LeO (r11_Weights.f k a0) (r11_Weights.f (k + 1) a0) := by
 intro a0 k
 obtain ⟨ih0, ih1, ih2⟩ := r11_Weights.mono_l k
 unfold r11_Weights.f
 repeat' first
   | (with_reducible exact ih0 _ _)
   | (with_reducible exact ih1 _ _ _)
   | (with_reducible exact ih2 _ _ _ _)
   | (with_reducible exact r02_Exp2.mono _ _)
   | (with_reducible exact r11_distance.mono _ _ _)
   | (with_reducible exact yR _)
   | (with_reducible exact yO _)
   | (with_reducible refine yQ ?_ ?_)
   | (with_reducible refine yP ?_ (fun _ => ?_))
   | exact ih0 _ _
   | exact ih1 _ _ _
   | exact ih2 _ _ _ _
   | exact r02_Exp2.mono _ _
   | exact r11_distance.mono _ _ _
   | exact yO _
   | refine yQ ?_ ?_
   | refine yP ?_ (fun _ => ?_)
set_option maxHeartbeats 8000000 in
set_option maxRecDepth 100000 in
theorem r11_Weights.calls (k : Nat) (A0 : Option Addr) (c0 : Nat) (l0 : List Int) (r1 : List Int) (r2 : Int) (w : World) (hr0 : Kd.C (Kd.int .i64) w A0 l0.length l0) (hc0 : l0.length ≤ c0) (h : r11_Weights.f k l0 = some (r1, r2)) :
  Calls Try.prog 35 #[.slice A0 l0.length c0] w fun e w' => ∃ v0_ : Value, e = .returned (.tuple #[v0_, .int .i64 r2]) ∧ Kd.R (Kd.int .i64) 2 w' w.heap.size (fun _ => True) v0_ r1 ∧ Below w.heap.size w w' := by
 have HR0 := zK hr0
 have HC0 := zK hc0
 clear hr0 hc0
 have HB := zK (Below.refl w.heap.size w)
 have H : (if (l0.length : Int) < 1 then (r11_Weights.j0 k l0 true) else (r11_Weights.j0 k l0 (decide ((l0.length : Int) > 512)))) = some (r1, r2) := h
 clear h
 have HC2 := zK H
 clear H
 go_enter Try.func35, Try.ntmps35
 go_upto_region 1 with (fail)
 go_cut [15] (fun v15 wc => ∃ (kq : Nat) (x15_1 : Bool), v15 = .bool x15_1 ∧ Aside0 (r11_Weights.j0 kq l0 x15_1 = some (r1, r2)) ∧ Aside0 (kq ≤ k) ∧ Aside0 (Below w.heap.size w wc))
 case first =>
  have H := HC2.out
  clear HC2
  by_cases c3 : (l0.length : Int) < 1
  ·rw [if_pos c3] at H
   have c3b0 : decide ((l0.length : Int) < 1) = true := yC c3
   have c3b1 : decide (l0.length < 1) = true := yC (by omega)
   clear c3
   (first | rw [c3b0] | (simp only [i64_w, i32_w]; rw [c3b0]) | skip)
   have H' := zK H
   clear H
   go_wp2
   go_meet
   case rel => exact ⟨_, (true), (by first | rfl | (simp; done) | (simp [*]; done)), H', ⟨by first | omega | exact yN _⟩, ⟨by repeat (first | (with_reducible first | exact HB.out | apply zJ | apply zD | apply zE) | exact HB.out)⟩⟩
  ·rw [if_neg c3] at H
   have c3b0 : decide ((l0.length : Int) < 1) = false := yD c3
   have c3b1 : decide (l0.length < 1) = false := yD (by omega)
   clear c3
   (first | rw [c3b0] | (simp only [i64_w, i32_w]; rw [c3b0]) | skip)
   have H' := zK H
   clear H
   go_wp2
   go_meet
   case rel => exact ⟨_, (decide ((l0.length : Int) > 512)), (by first | rfl | (simp; done) | (simp [*]; done)), H', ⟨by first | omega | exact yN _⟩, ⟨by repeat (first | (with_reducible first | exact HB.out | apply zJ | apply zD | apply zE) | exact HB.out)⟩⟩
 case rest =>
  clear HC2
  try clear p2
  try clear c3
  try clear c3b0
  try clear c3b1
  obtain ⟨kq, x15_1, rfl, HA, HJ1, HB⟩ := hcut
  cases kq with
  | zero => exact absurd HA.out (by simp [r11_Weights.j0])
  | succ kj1 =>
   have H := HA.out
   clear HA
   simp only [r11_Weights.j0] at H
   by_cases c4 : x15_1 = true
   ·subst c4
    have H1 : (some ((([] : List Int)), 1)) = some (r1, r2) := by rw [if_pos rfl] at H; exact H
    clear H
    have H := H1
    clear H1
    obtain ⟨y274, hy274⟩ : ∃ y_ : List Int, y_ = (([] : List Int)) := ⟨_, rfl⟩
    replace H : (some (y274, 1)) = some (r1, r2) := by first | (rw [hy274]; with_reducible exact H) | (have H2_ := (yV _ _).symm.trans H; rw [hy274]; with_reducible exact H2_) | (have H2_ := (yV _ _).symm.trans H; with_reducible exact H2_) | with_reducible exact H | (rw [hy274]; exact H) | exact H
    have Ny274 := zK hy274
    clear hy274
    simp only [yZ, ya] at H
    obtain ⟨rfl, rfl⟩ := H
    go_wp2_with (first | ((with_reducible refine gate_dst (N := 16) rfl ?_); refine Kd.R_lit (Kd.int .i64) _ 2 ?hg (N := 16) ?hd (xs := ([] : List Int)) (inner := []) (ok := fun _ => True) (okp := fun _ => True) ?hr ?hp (fun _ hk => hk) trivial (Below.refl _ _) (yN _) (by simp) ?_; (case hd => rfl); (case hg => rfl); (case hr => first | (go_simp; done) | (go_simp; rfl)); (case hp => exact (Reps.none _ _)); intro v275 w5 ho6 hb hg_ hnew_; clear hg_ hnew_; (first | rw [← Ny274.out] at ho6 | (simp only [Int.reduceToNat] at ho6; rw [← Ny274.out] at ho6)); have n0_ := zK (Kd.R_lower ho6 (yK (by repeat (first | (with_reducible first | exact HB.out | apply zJ | apply zD | apply zE) | exact HB.out)))); have n1_ := zK (yL (by repeat (first | (with_reducible first | exact HB.out | apply zJ | apply zD | apply zE) | exact HB.out)) hb); clear HB; have HO276 := n0_; have HB := n1_; clear n0_ n1_ hb ho6))
    go_ret2
    exact ⟨_, by first | rfl | (simp [errW_none, errW_some] <;> rfl) | (simp [*, errW_none, errW_some] <;> rfl), by (with_reducible repeat (first | apply zL | apply zM | apply zN)); exact HO276.out, by repeat (first | (with_reducible first | exact HB.out | apply zJ | apply zD | apply zE) | exact HB.out)⟩
   ·replace c4 := yh.mpr c4
    subst c4
    have H1 : (if 0 < (l0.length : Int) then (r11_Weights.l0 kj1 l0 (rd l0 0) 0) else (none)) = some (r1, r2) := by rw [if_neg (show ¬ (false = true) by decide)] at H; exact H
    clear H
    have H := H1
    clear H1
    by_cases c7 : 0 < (l0.length : Int)
    ·rw [if_pos c7] at H
     have c7b0 : decide (0 < (l0.length : Int)) = true := yC c7
     have c7b1 : decide (0 < l0.length) = true := yC (by omega)
     clear c7
     have H' := zK H
     clear H
     have p277 : 0 ≤ (0 : Int) := (by omega)
     have q277 : 0 < (l0.length : Int) := yB (by first | (with_reducible assumption) | assumption)
     obtain ⟨ad277, e277, hx277_0⟩ := Kd.at_int HR0.out 0 p277 q277
     cases e277
     have qi277 : (0 < l0.length) = True := yg (by omega)
     (try rw [show ((0 : Int)).toNat = 0 from rfl] at hx277_0)
     (try rw [Addr.add_zero'] at hx277_0)
     replace hx277_0 := (HB.out.cell (World.block_lt_of_cell? w _ hx277_0)).trans hx277_0
     replace p277 := yg p277
     replace q277 := yg q277
     go_wp2
     go_loopg [4, 5] kj1 (fun kq v4 v5 w' => ∃ (x4_2 : Int) (x5_2 : Int), v4 = .int .i64 x4_2 ∧ v5 = .int .i64 x5_2 ∧ Aside0 (r11_Weights.l0 kq l0 x4_2 x5_2 = some (r1, r2)) ∧ Aside0 (kq ≤ kj1) ∧ Aside0 (Below w.heap.size w w'))
     case atStart => exact ⟨(rd l0 0), (0), (by first | rfl | (simp; done) | (simp [*]; done)), (by first | rfl | (simp; done) | (simp [*]; done)), H', ⟨yN _⟩, ⟨by repeat (first | (with_reducible first | exact HB.out | apply zJ | apply zD | apply zE) | exact HB.out)⟩⟩
     case round =>
      clear H'
      try clear p2
      try clear q2
      try clear hx2
      try clear qi2
      try clear c3
      try clear c3b0
      try clear c3b1
      try clear c4
      try clear c7
      try clear c7b0
      try clear c7b1
      try clear hx277_0
      try clear p2
      try clear p277
      try clear q277
      obtain ⟨x4_2, x5_2, rfl, rfl, HA, HK2, HB⟩ := hrel
      cases gk with
      | zero => exact absurd HA.out (by simp [r11_Weights.l0])
      | succ k2 =>
       have H := HA.out
       clear HA
       simp only [r11_Weights.l0] at H
       by_cases c8 : x5_2 < (l0.length : Int)
       ·rw [if_pos c8] at H
        have c8b0 : decide (x5_2 < (l0.length : Int)) = true := yC c8
        clear c8
        by_cases c9 : 0 ≤ x5_2
        ·rw [if_pos c9] at H
         have c9b0 : decide (0 ≤ x5_2) = true := yC c9
         clear c9
         by_cases c10 : (rd l0 x5_2) > x4_2
         ·rw [if_pos c10] at H
          have c10b0 : decide (x4_2 < (rd l0 x5_2)) = true := yC c10
          clear c10
          have H' := zK H
          clear H
          have p278 : 0 ≤ (x5_2 : Int) := yB (by first | (with_reducible assumption) | assumption)
          have q278 : x5_2 < (l0.length : Int) := yB (by first | (with_reducible assumption) | assumption)
          obtain ⟨ad278, e278, hx278_0⟩ := Kd.at_int HR0.out x5_2 p278 q278
          obtain rfl : ad277 = ad278 := (by injection e278)
          replace hx278_0 := (HB.out.cell (World.block_lt_of_cell? w _ hx278_0)).trans hx278_0
          replace p278 := yg p278
          replace q278 := yg q278
          have p279 : 0 ≤ (x5_2 : Int) := yB (by first | (with_reducible assumption) | assumption)
          have q279 : x5_2 < (l0.length : Int) := yB (by first | (with_reducible assumption) | assumption)
          obtain ⟨ad279, e279, hx279_0⟩ := Kd.at_int HR0.out x5_2 p279 q279
          obtain rfl : ad277 = ad279 := (by injection e279)
          replace hx279_0 := (HB.out.cell (World.block_lt_of_cell? w _ hx279_0)).trans hx279_0
          replace p279 := yg p279
          replace q279 := yg q279
          go_wp2
          go_roundg k2
          case measure => have := HJ1.out; have := HK2.out; omega
          case rel => exact ⟨(rd l0 x5_2), (wrap64 (x5_2 + 1)), (by first | rfl | (simp; done) | (simp [*]; done)), (by first | rfl | (simp; done) | (simp [*]; done)), H', ⟨by have := HJ1.out; have := HK2.out; omega⟩, ⟨by repeat (first | (with_reducible first | exact HB.out | apply zJ | apply zD | apply zE) | exact HB.out)⟩⟩
         ·rw [if_neg c10] at H
          have c10b0 : decide (x4_2 < (rd l0 x5_2)) = false := yD c10
          clear c10
          have H' := zK H
          clear H
          have p278 : 0 ≤ (x5_2 : Int) := yB (by first | (with_reducible assumption) | assumption)
          have q278 : x5_2 < (l0.length : Int) := yB (by first | (with_reducible assumption) | assumption)
          obtain ⟨ad278, e278, hx278_0⟩ := Kd.at_int HR0.out x5_2 p278 q278
          obtain rfl : ad277 = ad278 := (by injection e278)
          replace hx278_0 := (HB.out.cell (World.block_lt_of_cell? w _ hx278_0)).trans hx278_0
          replace p278 := yg p278
          replace q278 := yg q278
          go_wp2
          go_roundg k2
          case measure => have := HJ1.out; have := HK2.out; omega
          case rel => exact ⟨(x4_2), (wrap64 (x5_2 + 1)), (by first | rfl | (simp; done) | (simp [*]; done)), (by first | rfl | (simp; done) | (simp [*]; done)), H', ⟨by have := HJ1.out; have := HK2.out; omega⟩, ⟨by repeat (first | (with_reducible first | exact HB.out | apply zJ | apply zD | apply zE) | exact HB.out)⟩⟩
        ·rw [if_neg c9] at H
         exact absurd H (by simp)
       ·rw [if_neg c8] at H
        have c8b0 : decide (x5_2 < (l0.length : Int)) = false := yD c8
        clear c8
        obtain ⟨y280, hy280⟩ : ∃ y_ : List Int, y_ = (([] : List Int)) := ⟨_, rfl⟩
        replace H : (r11_Weights.l1 k2 l0 x4_2 y280 0) = some (r1, r2) := by first | (rw [hy280]; with_reducible exact H) | (have H2_ := (yV _ _).symm.trans H; rw [hy280]; with_reducible exact H2_) | (have H2_ := (yV _ _).symm.trans H; with_reducible exact H2_) | with_reducible exact H | (rw [hy280]; exact H) | exact H
        have Ny280 := zK hy280
        clear hy280
        have H' := zK H
        clear H
        go_wp2_with (first | ((with_reducible refine gate_dst (N := 36) rfl ?_); refine Kd.R_lit (Kd.int .i64) _ 2 ?hg (N := 36) ?hd (xs := ([] : List Int)) (inner := []) (ok := fun _ => True) (okp := fun _ => True) ?hr ?hp (fun _ hk => hk) trivial (Below.refl _ _) (yN _) (by simp) ?_; (case hd => rfl); (case hg => rfl); (case hr => first | (go_simp; done) | (go_simp; rfl)); (case hp => exact (Reps.none _ _)); intro v281 w11 ho12 hb hg_ hnew_; clear hg_ hnew_; (first | rw [← Ny280.out] at ho12 | (simp only [Int.reduceToNat] at ho12; rw [← Ny280.out] at ho12)); have n0_ := zK (Kd.R_lower ho12 (yK (by repeat (first | (with_reducible first | exact HB.out | apply zJ | apply zD | apply zE) | exact HB.out)))); have n1_ := zK (yL (by repeat (first | (with_reducible first | exact HB.out | apply zJ | apply zD | apply zE) | exact HB.out)) hb); clear HB; have HO282 := n0_; have HB := n1_; clear n0_ n1_ hb ho12))
        go_loopg [6, 7] k2 (fun kq v6 v7 w' => ∃ (x6_3 : List Int) (x7_3 : Int), v7 = .int .i64 x7_3 ∧ Aside0 (r11_Weights.l1 kq l0 x4_2 x6_3 x7_3 = some (r1, r2)) ∧ Aside0 (kq ≤ k2) ∧ Aside0 (Kd.R (Kd.int .i64) 2 w' w.heap.size (fun _ => True) v6 x6_3) ∧ Aside0 (Below w.heap.size w w'))
        case atStart => exact ⟨(y280), (0), (by first | rfl | (simp; done) | (simp [*]; done)), H', ⟨yN _⟩, ⟨by (with_reducible repeat (first | apply zL | apply zM | apply zN)); exact HO282.out⟩, ⟨by repeat (first | (with_reducible first | exact HB.out | apply zJ | apply zD | apply zE) | exact HB.out)⟩⟩
        case round =>
         clear H'
         try clear c1
         try clear p2
         try clear q2
         try clear hx2
         try clear qi2
         try clear c3
         try clear c3b0
         try clear c3b1
         try clear c4
         try clear p6
         try clear c7
         try clear c7b0
         try clear c7b1
         try clear c8
         try clear c8b0
         try clear c9
         try clear c9b0
         try clear c10
         try clear c10b0
         try clear hx277_0
         try clear hx278_0
         try clear hx279_0
         try clear p2
         try clear p277
         try clear p278
         try clear p279
         try clear q2
         try clear q277
         try clear q278
         try clear q279
         obtain ⟨x6_3, x7_3, rfl, HA, HK3, HO_6, HB⟩ := hrel
         cases gk with
         | zero => exact absurd HA.out (by simp [r11_Weights.l1])
         | succ k3 =>
          have H := HA.out
          clear HA
          simp only [r11_Weights.l1] at H
          by_cases c13 : x7_3 < (l0.length : Int)
          ·rw [if_pos c13] at H
           have c13b0 : decide (x7_3 < (l0.length : Int)) = true := yC c13
           clear c13
           by_cases c14 : 0 ≤ x7_3
           ·rw [if_pos c14] at H
            have c14b0 : decide (0 ≤ x7_3) = true := yC c14
            clear c14
            replace H := yA.mp H
            obtain ⟨t284, A150, H⟩ := H
            replace H : ((r02_Exp2.f k3 (wrap64 (256 * t284))).bind fun t285 => (if x6_3.length < 17592186044416 then (r11_Weights.l1 k3 l0 x4_2 (x6_3 ++ [t285]) (wrap64 (x7_3 + 1))) else (none))) = some (r1, r2) := H
            have A15 := zK A150
            clear A150
            replace H := yA.mp H
            obtain ⟨t285, A160, H⟩ := H
            replace H : (if x6_3.length < 17592186044416 then (r11_Weights.l1 k3 l0 x4_2 (x6_3 ++ [t285]) (wrap64 (x7_3 + 1))) else (none)) = some (r1, r2) := H
            have A16 := zK A160
            clear A160
            by_cases c17 : x6_3.length < 17592186044416
            ·rw [if_pos c17] at H
             have LMc17 := zK c17
             clear c17
             obtain ⟨y286, hy286⟩ : ∃ y_ : List Int, y_ = (x6_3 ++ [t285]) := ⟨_, rfl⟩
             replace H : (r11_Weights.l1 k3 l0 x4_2 y286 (wrap64 (x7_3 + 1))) = some (r1, r2) := by first | (rw [hy286]; with_reducible exact H) | (have H2_ := (yV _ _).symm.trans H; rw [hy286]; with_reducible exact H2_) | (have H2_ := (yV _ _).symm.trans H; with_reducible exact H2_) | with_reducible exact H | (rw [hy286]; exact H) | exact H
             have Ny286 := zK hy286
             clear hy286
             have H' := zK H
             clear H
             have p283 : 0 ≤ (x7_3 : Int) := yB (by first | (with_reducible assumption) | assumption)
             have q283 : x7_3 < (l0.length : Int) := yB (by first | (with_reducible assumption) | assumption)
             obtain ⟨ad283, e283, hx283_0⟩ := Kd.at_int HR0.out x7_3 p283 q283
             obtain rfl : ad277 = ad283 := (by injection e283)
             replace hx283_0 := (HB.out.cell (World.block_lt_of_cell? w _ hx283_0)).trans hx283_0
             replace p283 := yg p283
             replace q283 := yg q283
             go_wp2_with (first | ((with_reducible refine gate_callee (f := 51) rfl ?_); refine goesL_ (some 49) rfl rfl Try.func51 (by kernel_rfl) rfl #[.int .i64 (rd l0 x7_3), .int .i64 x4_2] rfl (by (try simp only [yH, yI, yJ]); first | done | rfl | (simp only [yG, yF]; rfl)) ?_; (with_reducible refine (r11_distance.calls k3 (rd l0 x7_3) x4_2 t284 _ A15.out).mono ?_); rintro e w' ⟨rfl, ⟨nd, rfl⟩⟩; refine ⟨_, rfl, ?_⟩) | ((with_reducible refine gate_callee (f := 50) rfl ?_); refine goesL_ (some 51) rfl rfl Try.func50 (by kernel_rfl) rfl #[.int .i64 (wrap64 (256 * t284))] rfl (by (try simp only [yH, yI, yJ]); first | done | rfl | (simp only [yG, yF]; rfl)) ?_; (with_reducible refine (r02_Exp2.calls k3 (wrap64 (256 * t284)) t285 _ A16.out).mono ?_); rintro e w' ⟨rfl, ⟨nd, rfl⟩⟩; refine ⟨_, rfl, ?_⟩) | ((with_reducible refine gate_builtin (b := .append) (xs := #[.tmp 43, .tmp 52]) rfl ?_); at_builtin; refine Kd.R_append (Kd.int .i64) (w0 := w) w.heap.size rfl (.tmp 43) (.tmp 52) 24 2 (.int .i64 0) 8 rfl Try.underlying24 info2 rfl (by decide) (by omega) u6 x6_3 t285 [.int .i64 t285] (fun _ => True) (fun _ => False) rfl rfl ?aP (fun _ hk => hk.elim) ?aF ?aO ?aB ?aS ?aL ?_; (case aP => exact rfl); (case aB => exact (by repeat (first | (with_reducible first | exact HB.out | apply zJ | apply zD | apply zE) | exact HB.out))); (case aF => exact (fun _ _ => trivial)); (case aO => exact (by (with_reducible repeat (first | apply zL | apply zM | apply zN)); exact HO_6.out)); (case aS => exact (yK (by repeat (first | (with_reducible first | exact HB.out | apply zJ | apply zD | apply zE) | exact HB.out)))); (case aL => have := LMc17.out; omega); intro v287 w18 ho hb hg hat; rw [← Ny286.out] at ho; have n0_ := zK (hb); have n1_ := zK (ho); clear HB HO_6; have HB := n0_; have HO288 := n1_; clear n0_ n1_ ho hb hg hat))
             go_roundg k3
             case measure => have := HJ1.out; have := HK2.out; have := HK3.out; omega
             case rel => exact ⟨(y286), (wrap64 (x7_3 + 1)), (by first | rfl | (simp; done) | (simp [*]; done)), H', ⟨by have := HJ1.out; have := HK2.out; have := HK3.out; omega⟩, ⟨by (with_reducible repeat (first | apply zL | apply zM | apply zN)); exact HO288.out⟩, ⟨by repeat (first | (with_reducible first | exact HB.out | apply zJ | apply zD | apply zE) | exact HB.out)⟩⟩
            ·rw [if_neg c17] at H
             exact absurd H (by simp)
           ·rw [if_neg c14] at H
            exact absurd H (by simp)
          ·rw [if_neg c13] at H
           have c13b0 : decide (x7_3 < (l0.length : Int)) = false := yD c13
           clear c13
           simp only [yZ, ya] at H
           obtain ⟨rfl, rfl⟩ := H
           go_wp2
           go_ret2
           exact ⟨_, by first | rfl | (simp [errW_none, errW_some] <;> rfl) | (simp [*, errW_none, errW_some] <;> rfl), by (with_reducible repeat (first | apply zL | apply zM | apply zN)); exact HO_6.out, by repeat (first | (with_reducible first | exact HB.out | apply zJ | apply zD | apply zE) | exact HB.out)⟩
    ·rw [if_neg c7] at H
     exact absurd H (by simp)

/-! ### r11_good: function 52 -/
def r11_good.l0 : Nat → List Int → Int → Int → Option (Int × Bool)
 | 0, _, _, _ => none
 | k + 1, x0, x4, x5 => if x5 < (x0.length : Int) then (if 0 ≤ x5 then (if (rd x0 x5) < 0 then (some (0, false)) else (if (rd x0 x5) > 1073741824 then (some (0, false)) else (r11_good.l0 k x0 (wrap64 (x4 + (rd x0 x5))) (wrap64 (x5 + 1))))) else (none)) else (some (x4, decide (x4 > 0)))
def r11_good.f (k : Nat) (l0 : List Int) : Option (Int × Bool) := r11_good.l0 k l0 0 0
theorem r11_good.mono_l : ∀ k, (∀ y0 y1 y2, LeO (r11_good.l0 k y0 y1 y2) (r11_good.l0 (k + 1) y0 y1 y2))
 | 0 => fun _ _ _ r h => by simp [r11_good.l0] at h
 | k + 1 => by
  have ih0 := r11_good.mono_l k
  intros
  unfold r11_good.l0
  all_goals repeat' first
   | (with_reducible exact ih0 _ _ _)
   | (with_reducible exact yR _)
   | (with_reducible exact yO _)
   | (with_reducible refine yQ ?_ ?_)
   | (with_reducible refine yP ?_ (fun _ => ?_))
   | exact ih0 _ _ _
   | exact yO _
   | refine yQ ?_ ?_
   | refine yP ?_ (fun _ => ?_)
theorem r11_good.mono : ∀ a0 k, LeO (r11_good.f k a0) (r11_good.f (k + 1) a0) := by
 intro a0 k
 have ih0 := r11_good.mono_l k
 unfold r11_good.f
 repeat' first
   | (with_reducible exact ih0 _ _ _)
   | (with_reducible exact yR _)
   | (with_reducible exact yO _)
   | (with_reducible refine yQ ?_ ?_)
   | (with_reducible refine yP ?_ (fun _ => ?_))
   | exact ih0 _ _ _
   | exact yO _
   | refine yQ ?_ ?_
   | refine yP ?_ (fun _ => ?_)
set_option maxHeartbeats 8000000 in
set_option maxRecDepth 100000 in
theorem r11_good.calls (k : Nat) (A0 : Option Addr) (c0 : Nat) (l0 : List Int) (r1 : Int) (r2 : Bool) (w : World) (hr0 : Kd.C (Kd.int .i64) w A0 l0.length l0) (hc0 : l0.length ≤ c0) (h : r11_good.f k l0 = some (r1, r2)) :
  Calls Try.prog 52 #[.slice A0 l0.length c0] w fun e w' => e = .returned (.tuple #[.int .i64 r1, .bool r2]) ∧ Drawn0 w w' := by
 have HR0 := zK hr0
 have HC0 := zK hc0
 clear hr0 hc0
 have H : (r11_good.l0 k l0 0 0) = some (r1, r2) := h
 clear h
 have H' := zK H
 clear H
 go_enter Try.func52, Try.ntmps52
 go_wp2
 go_loopg [4, 5] k (fun kq v4 v5 w' => ∃ (x4_1 : Int) (x5_1 : Int), v4 = .int .i64 x4_1 ∧ v5 = .int .i64 x5_1 ∧ Aside0 (r11_good.l0 kq l0 x4_1 x5_1 = some (r1, r2)) ∧ Aside0 (kq ≤ k) ∧ Drawn0 w w')
 case atStart => exact ⟨(0), (0), (by first | rfl | (simp; done) | (simp [*]; done)), (by first | rfl | (simp; done) | (simp [*]; done)), H', ⟨yN _⟩, by repeat (first | exact Drawn0.refl _ | apply Drawn0.step)⟩
 case round =>
  clear H'
  obtain ⟨x4_1, x5_1, rfl, rfl, HA, HK1, ⟨m1, rfl⟩⟩ := hrel
  cases gk with
  | zero => exact absurd HA.out (by simp [r11_good.l0])
  | succ k1 =>
   have H := HA.out
   clear HA
   simp only [r11_good.l0] at H
   by_cases c2 : x5_1 < (l0.length : Int)
   ·rw [if_pos c2] at H
    have c2b0 : decide (x5_1 < (l0.length : Int)) = true := yC c2
    clear c2
    by_cases c3 : 0 ≤ x5_1
    ·rw [if_pos c3] at H
     have c3b0 : decide (0 ≤ x5_1) = true := yC c3
     clear c3
     by_cases c4 : (rd l0 x5_1) < 0
     ·rw [if_pos c4] at H
      have c4b0 : decide ((rd l0 x5_1) < 0) = true := yC c4
      clear c4
      simp only [yZ, ya] at H
      obtain ⟨rfl, rfl⟩ := H
      have p289 : 0 ≤ (x5_1 : Int) := yB (by first | (with_reducible assumption) | assumption)
      have q289 : x5_1 < (l0.length : Int) := yB (by first | (with_reducible assumption) | assumption)
      obtain ⟨ad289, e289, hx289_0⟩ := Kd.at_int HR0.out x5_1 p289 q289
      cases e289
      replace p289 := yg p289
      replace q289 := yg q289
      go_wp2
      go_ret2
      exact ⟨by first | rfl | (simp; done) | (simp [*]; done), by repeat (first | exact Drawn0.refl _ | apply Drawn0.step)⟩
     ·rw [if_neg c4] at H
      have c4b0 : decide ((rd l0 x5_1) < 0) = false := yD c4
      clear c4
      by_cases c5 : (rd l0 x5_1) > 1073741824
      ·rw [if_pos c5] at H
       have c5b0 : decide (1073741824 < (rd l0 x5_1)) = true := yC c5
       clear c5
       simp only [yZ, ya] at H
       obtain ⟨rfl, rfl⟩ := H
       have p289 : 0 ≤ (x5_1 : Int) := yB (by first | (with_reducible assumption) | assumption)
       have q289 : x5_1 < (l0.length : Int) := yB (by first | (with_reducible assumption) | assumption)
       obtain ⟨ad289, e289, hx289_0⟩ := Kd.at_int HR0.out x5_1 p289 q289
       cases e289
       replace p289 := yg p289
       replace q289 := yg q289
       have p290 : 0 ≤ (x5_1 : Int) := yB (by first | (with_reducible assumption) | assumption)
       have q290 : x5_1 < (l0.length : Int) := yB (by first | (with_reducible assumption) | assumption)
       obtain ⟨ad290, e290, hx290_0⟩ := Kd.at_int HR0.out x5_1 p290 q290
       obtain rfl : ad289 = ad290 := (by injection e290)
       replace p290 := yg p290
       replace q290 := yg q290
       go_wp2
       go_ret2
       exact ⟨by first | rfl | (simp; done) | (simp [*]; done), by repeat (first | exact Drawn0.refl _ | apply Drawn0.step)⟩
      ·rw [if_neg c5] at H
       have c5b0 : decide (1073741824 < (rd l0 x5_1)) = false := yD c5
       clear c5
       have H' := zK H
       clear H
       have p289 : 0 ≤ (x5_1 : Int) := yB (by first | (with_reducible assumption) | assumption)
       have q289 : x5_1 < (l0.length : Int) := yB (by first | (with_reducible assumption) | assumption)
       obtain ⟨ad289, e289, hx289_0⟩ := Kd.at_int HR0.out x5_1 p289 q289
       cases e289
       replace p289 := yg p289
       replace q289 := yg q289
       have p290 : 0 ≤ (x5_1 : Int) := yB (by first | (with_reducible assumption) | assumption)
       have q290 : x5_1 < (l0.length : Int) := yB (by first | (with_reducible assumption) | assumption)
       obtain ⟨ad290, e290, hx290_0⟩ := Kd.at_int HR0.out x5_1 p290 q290
       obtain rfl : ad289 = ad290 := (by injection e290)
       replace p290 := yg p290
       replace q290 := yg q290
       have p291 : 0 ≤ (x5_1 : Int) := yB (by first | (with_reducible assumption) | assumption)
       have q291 : x5_1 < (l0.length : Int) := yB (by first | (with_reducible assumption) | assumption)
       obtain ⟨ad291, e291, hx291_0⟩ := Kd.at_int HR0.out x5_1 p291 q291
       obtain rfl : ad289 = ad291 := (by injection e291)
       replace p291 := yg p291
       replace q291 := yg q291
       go_wp2
       go_roundg k1
       case measure => have := HK1.out; omega
       case rel => exact ⟨(wrap64 (x4_1 + (rd l0 x5_1))), (wrap64 (x5_1 + 1)), (by first | rfl | (simp; done) | (simp [*]; done)), (by first | rfl | (simp; done) | (simp [*]; done)), H', ⟨by have := HK1.out; omega⟩, by repeat (first | exact Drawn0.refl _ | apply Drawn0.step)⟩
    ·rw [if_neg c3] at H
     exact absurd H (by simp)
   ·rw [if_neg c2] at H
    have c2b0 : decide (x5_1 < (l0.length : Int)) = false := yD c2
    clear c2
    simp only [yZ, ya] at H
    obtain ⟨rfl, rfl⟩ := H
    go_wp2
    go_ret2
    exact ⟨by first | rfl | (simp; done) | (simp [*]; done), by repeat (first | exact Drawn0.refl _ | apply Drawn0.step)⟩

end Go.Proofs.Ytmjepdhjginelaa.B
