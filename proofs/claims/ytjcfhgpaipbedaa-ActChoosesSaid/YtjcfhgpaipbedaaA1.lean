-- Printed by this session's own driver (wip/tools/xprint.py) over the kit's printer; given functions are this session's own.
import Derived.Test.YtjcfhgpaipbedaaA0
import Derived.Test.YtjcfhgpaipbedaaExp
import Derived.Test.YtjcfhgpaipbedaaTable
namespace Go.Proofs.Ytjcfhgpaipbedaa.A
open Go.RowKit Go.Proofs.YtjcfhgpaipbedaaW.PrintWords Go.Proofs.YtjcfhgpaipbedaaW.PrintLast Go.Proofs.YtjcfhgpaipbedaaW.PrintMore
attribute [local go_sem] max2_int min2_int max_two min_two max_three min_three max_four min_four   -- for this text's walks alone
set_option linter.unusedVariables false
set_option linter.unusedSimpArgs false

/-! ### act_bends_1: function 41 -/
def act_bends_1.f (a0 : Int) : Option (Int) := some (IntKind.i8.wrap (mx a0 0))
set_option maxHeartbeats 8000000 in
set_option maxRecDepth 100000 in
theorem act_bends_1.calls (a0 : Int) (r : Int) (w : World) (h : act_bends_1.f a0 = some r) :
  Calls Try.prog 41 #[.int .i64 a0] w fun e w' => e = .returned (.int .i8 r) ∧ Below w.heap.size w w' := by
 have HB := zK (Below.refl w.heap.size w)
 have H : (some (IntKind.i8.wrap (mx a0 0))) = some r := h
 clear h
 obtain ⟨ji2, hji2⟩ : ∃ j_ : Int, (mx a0 0) = j_ := ⟨_, rfl⟩
 replace H : (some (IntKind.i8.wrap (ji2))) = some r := by first | (rw [hji2] at H; exact H) | (simp only [hji2] at H ⊢; exact H)
 (try (have hji2l : 0 ≤ ji2 := by (rw [← hji2]; unfold mx; (repeat' split) <;> omega)))
 (try (have hji2m : 0 ≤ ji2 := by omega))
 have hji2_ : (if a0 < 0 then 0 else a0) = ji2 := hji2
 obtain rfl := yY H
 go_enter Try.func41, Try.ntmps41
 go_wp2
 go_ret
 exact ⟨by first | rfl | (simp [errW_none, errW_some] <;> rfl) | (simp only [← hji2]; first | rfl | (simp [errW_none, errW_some] <;> rfl)) | (simp [*, errW_none, errW_some] <;> rfl), by repeat (first | (with_reducible first | exact HB.out | apply zJ | apply zD | apply zE) | exact HB.out)⟩

/-! ### fixed_Floor: function 59 -/
def fixed_Floor.f (a0 : Int) (a1 : Int) : Option (Int × Int × Int) := if a1 < 1 then (some (0, 0, 21)) else (if a1 = 0 then (none) else (if (Int.tmod a0 a1) < 0 then (some (wrap64 ((wrap64 (Int.tdiv a0 a1)) - 1), wrap64 ((Int.tmod a0 a1) + a1), 0)) else (some (wrap64 (Int.tdiv a0 a1), Int.tmod a0 a1, 0))))
set_option maxHeartbeats 8000000 in
set_option maxRecDepth 100000 in
theorem fixed_Floor.calls (a0 : Int) (a1 : Int) (r1 : Int) (r2 : Int) (r3 : Int) (w : World) (h : fixed_Floor.f a0 a1 = some (r1, r2, r3)) :
  Calls Try.prog 59 #[.int .i64 a0, .int .i64 a1] w fun e w' => e = .returned (.tuple #[.int .i64 r1, .int .i64 r2, .int .i64 r3]) ∧ Drawn0 w w' := by
 have H : (if a1 < 1 then (some (0, 0, 21)) else (if a1 = 0 then (none) else (if (Int.tmod a0 a1) < 0 then (some (wrap64 ((wrap64 (Int.tdiv a0 a1)) - 1), wrap64 ((Int.tmod a0 a1) + a1), 0)) else (some (wrap64 (Int.tdiv a0 a1), Int.tmod a0 a1, 0))))) = some (r1, r2, r3) := h
 clear h
 by_cases c3 : a1 < 1
 ·rw [if_pos c3] at H
  have c3b0 : decide (a1 < 1) = true := yC c3
  clear c3
  simp only [yZ, ya] at H
  obtain ⟨rfl, rfl, rfl⟩ := H
  go_enter Try.func59, Try.ntmps59
  go_wp2
  repeat (go_quiet (fail); try go_wp2)
  go_ret3
  exact ⟨by first | rfl | (simp; done) | (simp [*]; done), by repeat (first | exact Drawn0.refl _ | apply Drawn0.step)⟩
 ·rw [if_neg c3] at H
  have c3b0 : decide (a1 < 1) = false := yD c3
  clear c3
  by_cases c4 : a1 = 0
  ·rw [if_pos c4] at H
   exact absurd H (by simp)
  ·rw [if_neg c4] at H
   have c4b0 : (a1 == 0) = false := beq_eq_false_iff_ne.mpr c4
   have c4b1 : (a1 != 0) = true := bne_iff_ne.mpr c4
   by_cases c5 : (Int.tmod a0 a1) < 0
   ·rw [if_pos c5] at H
    have c5b0 : decide ((Int.tmod a0 a1) < 0) = true := yC c5
    clear c5
    simp only [yZ, ya] at H
    obtain ⟨rfl, rfl, rfl⟩ := H
    go_enter Try.func59, Try.ntmps59
    go_wp2
    repeat (go_quiet (fail); try go_wp2)
    go_ret3
    exact ⟨by first | rfl | (simp; done) | (simp [*]; done), by repeat (first | exact Drawn0.refl _ | apply Drawn0.step)⟩
   ·rw [if_neg c5] at H
    have c5b0 : decide ((Int.tmod a0 a1) < 0) = false := yD c5
    clear c5
    simp only [yZ, ya] at H
    obtain ⟨rfl, rfl, rfl⟩ := H
    go_enter Try.func59, Try.ntmps59
    go_wp2
    repeat (go_quiet (fail); try go_wp2)
    go_ret3
    exact ⟨by first | rfl | (simp; done) | (simp [*]; done), by repeat (first | exact Drawn0.refl _ | apply Drawn0.step)⟩

/-! ### fixed_Near: function 61 -/
def fixed_Near.f (a0 : Int) (a1 : Int) : Option (Int × Int) := (fixed_Floor.f a0 a1).bind fun bt101 => (if bt101.2.2 = 0 then (if bt101.2.1 > (wrap64 (a1 - bt101.2.1)) then (some (wrap64 (bt101.1 + 1), 0)) else (if bt101.2.1 = (wrap64 (a1 - bt101.2.1)) then (if (Go.bits .and .i64 bt101.1 1) = 1 then (some (wrap64 (bt101.1 + 1), 0)) else (some (bt101.1, 0))) else (some (bt101.1, 0)))) else (some (0, bt101.2.2)))
set_option maxHeartbeats 8000000 in
set_option maxRecDepth 100000 in
theorem fixed_Near.calls (a0 : Int) (a1 : Int) (r1 : Int) (r2 : Int) (w : World) (h : fixed_Near.f a0 a1 = some (r1, r2)) :
  Calls Try.prog 61 #[.int .i64 a0, .int .i64 a1] w fun e w' => e = .returned (.tuple #[.int .i64 r1, .int .i64 r2]) ∧ Drawn0 w w' := by
 have H : ((fixed_Floor.f a0 a1).bind fun bt101 => (if bt101.2.2 = 0 then (if bt101.2.1 > (wrap64 (a1 - bt101.2.1)) then (some (wrap64 (bt101.1 + 1), 0)) else (if bt101.2.1 = (wrap64 (a1 - bt101.2.1)) then (if (Go.bits .and .i64 bt101.1 1) = 1 then (some (wrap64 (bt101.1 + 1), 0)) else (some (bt101.1, 0))) else (some (bt101.1, 0)))) else (some (0, bt101.2.2)))) = some (r1, r2) := h
 clear h
 replace H := yA.mp H
 obtain ⟨⟨t101, t102, t103⟩, A30, H⟩ := H
 replace H : (if t103 = 0 then (if t102 > (wrap64 (a1 - t102)) then (some (wrap64 (t101 + 1), 0)) else (if t102 = (wrap64 (a1 - t102)) then (if (Go.bits .and .i64 t101 1) = 1 then (some (wrap64 (t101 + 1), 0)) else (some (t101, 0))) else (some (t101, 0)))) else (some (0, t103))) = some (r1, r2) := H
 have A3 := zK A30
 clear A30
 by_cases c4 : t103 = 0
 ·rw [if_pos c4] at H
  have c4b0 : (t103 == 0) = true := beq_iff_eq.mpr c4
  have c4b1 : (t103 != 0) = false := bne_eq_false_iff_eq.mpr c4
  clear c4
  by_cases c5 : t102 > (wrap64 (a1 - t102))
  ·rw [if_pos c5] at H
   have c5b0 : decide ((wrap64 (a1 - t102)) < t102) = true := yC c5
   clear c5
   simp only [yZ, ya] at H
   obtain ⟨rfl, rfl⟩ := H
   go_enter Try.func61, Try.ntmps61
   go_wp2_with (first | ((with_reducible refine gate_callee (f := 59) rfl ?_); refine goesL_ (some 12) rfl rfl Try.func59 (by kernel_rfl) rfl #[.int .i64 a0, .int .i64 a1] rfl (by (try simp only [yH, yI, yJ]); first | done | rfl | (simp only [yG, yF]; rfl)) ?_; (with_reducible refine (fixed_Floor.calls a0 a1 t101 t102 t103 _ A3.out).mono ?_); rintro e w' ⟨rfl, ⟨nd, rfl⟩⟩; refine ⟨_, rfl, ?_⟩))
   go_ret2
   exact ⟨by first | rfl | (simp; done) | (simp [*]; done), by repeat (first | exact Drawn0.refl _ | apply Drawn0.step)⟩
  ·rw [if_neg c5] at H
   have c5b0 : decide ((wrap64 (a1 - t102)) < t102) = false := yD c5
   clear c5
   by_cases c6 : t102 = (wrap64 (a1 - t102))
   ·rw [if_pos c6] at H
    have c6b0 : (t102 == (wrap64 (a1 - t102))) = true := beq_iff_eq.mpr c6
    have c6b1 : (t102 != (wrap64 (a1 - t102))) = false := bne_eq_false_iff_eq.mpr c6
    clear c6
    by_cases c7 : (Go.bits .and .i64 t101 1) = 1
    ·rw [if_pos c7] at H
     have c7b0 : ((Go.bits .and .i64 t101 1) == 1) = true := beq_iff_eq.mpr c7
     have c7b1 : ((Go.bits .and .i64 t101 1) != 1) = false := bne_eq_false_iff_eq.mpr c7
     clear c7
     simp only [yZ, ya] at H
     obtain ⟨rfl, rfl⟩ := H
     go_enter Try.func61, Try.ntmps61
     go_wp2_with (first | ((with_reducible refine gate_callee (f := 59) rfl ?_); refine goesL_ (some 12) rfl rfl Try.func59 (by kernel_rfl) rfl #[.int .i64 a0, .int .i64 a1] rfl (by (try simp only [yH, yI, yJ]); first | done | rfl | (simp only [yG, yF]; rfl)) ?_; (with_reducible refine (fixed_Floor.calls a0 a1 t101 t102 t103 _ A3.out).mono ?_); rintro e w' ⟨rfl, ⟨nd, rfl⟩⟩; refine ⟨_, rfl, ?_⟩))
     go_ret2
     exact ⟨by first | rfl | (simp; done) | (simp [*]; done), by repeat (first | exact Drawn0.refl _ | apply Drawn0.step)⟩
    ·rw [if_neg c7] at H
     have c7b0 : ((Go.bits .and .i64 t101 1) == 1) = false := beq_eq_false_iff_ne.mpr c7
     have c7b1 : ((Go.bits .and .i64 t101 1) != 1) = true := bne_iff_ne.mpr c7
     simp only [yZ, ya] at H
     obtain ⟨rfl, rfl⟩ := H
     go_enter Try.func61, Try.ntmps61
     go_wp2_with (first | ((with_reducible refine gate_callee (f := 59) rfl ?_); refine goesL_ (some 12) rfl rfl Try.func59 (by kernel_rfl) rfl #[.int .i64 a0, .int .i64 a1] rfl (by (try simp only [yH, yI, yJ]); first | done | rfl | (simp only [yG, yF]; rfl)) ?_; (with_reducible refine (fixed_Floor.calls a0 a1 t101 t102 t103 _ A3.out).mono ?_); rintro e w' ⟨rfl, ⟨nd, rfl⟩⟩; refine ⟨_, rfl, ?_⟩))
     go_ret2
     exact ⟨by first | rfl | (simp; done) | (simp [*]; done), by repeat (first | exact Drawn0.refl _ | apply Drawn0.step)⟩
   ·rw [if_neg c6] at H
    have c6b0 : (t102 == (wrap64 (a1 - t102))) = false := beq_eq_false_iff_ne.mpr c6
    have c6b1 : (t102 != (wrap64 (a1 - t102))) = true := bne_iff_ne.mpr c6
    simp only [yZ, ya] at H
    obtain ⟨rfl, rfl⟩ := H
    go_enter Try.func61, Try.ntmps61
    go_wp2_with (first | ((with_reducible refine gate_callee (f := 59) rfl ?_); refine goesL_ (some 12) rfl rfl Try.func59 (by kernel_rfl) rfl #[.int .i64 a0, .int .i64 a1] rfl (by (try simp only [yH, yI, yJ]); first | done | rfl | (simp only [yG, yF]; rfl)) ?_; (with_reducible refine (fixed_Floor.calls a0 a1 t101 t102 t103 _ A3.out).mono ?_); rintro e w' ⟨rfl, ⟨nd, rfl⟩⟩; refine ⟨_, rfl, ?_⟩))
    go_ret2
    exact ⟨by first | rfl | (simp; done) | (simp [*]; done), by repeat (first | exact Drawn0.refl _ | apply Drawn0.step)⟩
 ·rw [if_neg c4] at H
  have c4b0 : (t103 == 0) = false := beq_eq_false_iff_ne.mpr c4
  have c4b1 : (t103 != 0) = true := bne_iff_ne.mpr c4
  simp only [yZ, ya] at H
  obtain ⟨rfl, rfl⟩ := H
  go_enter Try.func61, Try.ntmps61
  go_wp2_with (first | ((with_reducible refine gate_callee (f := 59) rfl ?_); refine goesL_ (some 12) rfl rfl Try.func59 (by kernel_rfl) rfl #[.int .i64 a0, .int .i64 a1] rfl (by (try simp only [yH, yI, yJ]); first | done | rfl | (simp only [yG, yF]; rfl)) ?_; (with_reducible refine (fixed_Floor.calls a0 a1 t101 t102 t103 _ A3.out).mono ?_); rintro e w' ⟨rfl, ⟨nd, rfl⟩⟩; refine ⟨_, rfl, ?_⟩))
  go_ret2
  exact ⟨by first | rfl | (simp; done) | (simp [*]; done), by repeat (first | exact Drawn0.refl _ | apply Drawn0.step)⟩

/-! ### fixed_Round: function 46 -/
def fixed_Round.f (a0 : Int) (a1 : Int) : Option (Int × Int) := if a1 < 0 then (some (0, 20)) else (if a1 > 62 then (some (0, 20)) else (if 0 ≤ a1 then ((fixed_Near.f a0 (shl .i64 1 a1)).bind fun bt104 => (some (bt104.1, bt104.2))) else (none)))
set_option maxHeartbeats 8000000 in
set_option maxRecDepth 100000 in
theorem fixed_Round.calls (a0 : Int) (a1 : Int) (r1 : Int) (r2 : Int) (w : World) (h : fixed_Round.f a0 a1 = some (r1, r2)) :
  Calls Try.prog 46 #[.int .i64 a0, .int .i64 a1] w fun e w' => e = .returned (.tuple #[.int .i64 r1, .int .i64 r2]) ∧ Drawn0 w w' := by
 have H : (if a1 < 0 then (some (0, 20)) else (if a1 > 62 then (some (0, 20)) else (if 0 ≤ a1 then ((fixed_Near.f a0 (shl .i64 1 a1)).bind fun bt104 => (some (bt104.1, bt104.2))) else (none)))) = some (r1, r2) := h
 clear h
 by_cases c3 : a1 < 0
 ·rw [if_pos c3] at H
  have c3b0 : decide (a1 < 0) = true := yC c3
  clear c3
  simp only [yZ, ya] at H
  obtain ⟨rfl, rfl⟩ := H
  go_enter Try.func46, Try.ntmps46
  go_wp2
  go_ret2
  exact ⟨by first | rfl | (simp; done) | (simp [*]; done), by repeat (first | exact Drawn0.refl _ | apply Drawn0.step)⟩
 ·rw [if_neg c3] at H
  have c3b0 : decide (a1 < 0) = false := yD c3
  clear c3
  by_cases c4 : a1 > 62
  ·rw [if_pos c4] at H
   have c4b0 : decide (62 < a1) = true := yC c4
   clear c4
   simp only [yZ, ya] at H
   obtain ⟨rfl, rfl⟩ := H
   go_enter Try.func46, Try.ntmps46
   go_wp2
   go_ret2
   exact ⟨by first | rfl | (simp; done) | (simp [*]; done), by repeat (first | exact Drawn0.refl _ | apply Drawn0.step)⟩
  ·rw [if_neg c4] at H
   have c4b0 : decide (62 < a1) = false := yD c4
   clear c4
   by_cases c5 : 0 ≤ a1
   ·rw [if_pos c5] at H
    have c5b0 := yg c5
    have c5b1 : decide (0 ≤ a1) = true := yC c5
    clear c5
    obtain ⟨ji6, hji6⟩ : ∃ j_ : Int, (shl .i64 1 a1) = j_ := ⟨_, rfl⟩
    replace H : ((fixed_Near.f a0 (ji6)).bind fun bt104 => (some (bt104.1, bt104.2))) = some (r1, r2) := by first | (rw [hji6] at H; exact H) | (simp only [hji6] at H ⊢; exact H)
    have hji6_ : (IntKind.i64.wrap (1 * 2 ^ min a1.toNat 64)) = ji6 := hji6
    have hji6z : a1 ≤ 64 → (IntKind.i64.wrap (1 * 2 ^ a1.toNat)) = ji6 := shl_small hji6
    have hji6u : (IntKind.i64.wrap (2 ^ min a1.toNat 64)) = ji6 := by have h_ := hji6_; rw [Int.one_mul] at h_; exact h_
    have hji6v : a1 ≤ 64 → (IntKind.i64.wrap (2 ^ a1.toNat)) = ji6 := fun hle_ => by have h_ := hji6z hle_; rw [Int.one_mul] at h_; exact h_
    have hji6y : (wrap64 (1 * 2 ^ min a1.toNat 64)) = ji6 := (i64_w _).symm.trans hji6_
    have hji6x : a1 ≤ 64 → (wrap64 (1 * 2 ^ a1.toNat)) = ji6 := fun h_ => (i64_w _).symm.trans (hji6z h_)
    replace H := yA.mp H
    obtain ⟨⟨t104, t105⟩, A70, H⟩ := H
    replace H : (some (t104, t105)) = some (r1, r2) := H
    have A7 := zK A70
    clear A70
    simp only [yZ, ya] at H
    obtain ⟨rfl, rfl⟩ := H
    go_enter Try.func46, Try.ntmps46
    go_wp2_with (first | ((with_reducible refine gate_callee (f := 61) rfl ?_); refine goesL_ (some 15) rfl rfl Try.func61 (by kernel_rfl) rfl #[.int .i64 a0, .int .i64 ji6] rfl (by (try simp only [yH, yI, yJ]); first | done | (simp only [hji6]; rfl) | rfl | (simp only [yG, yF]; rfl)) ?_; (with_reducible refine (fixed_Near.calls a0 ji6 t104 t105 _ A7.out).mono ?_); rintro e w' ⟨rfl, ⟨nd, rfl⟩⟩; refine ⟨_, rfl, ?_⟩))
    go_ret2
    exact ⟨by first | rfl | (simp; done) | (simp only [← hji6] <;> (first | rfl | simp)) | (simp [*]; done), by repeat (first | exact Drawn0.refl _ | apply Drawn0.step)⟩
   ·rw [if_neg c5] at H
    exact absurd H (by simp)

/-! ### fixed_Clamp: function 62 -/
def fixed_Clamp.f (a0 : Int) (a1 : Int) (a2 : Int) : Option (Int) := if a0 < a1 then (some a1) else (if a0 > a2 then (some a2) else (some a0))
set_option maxHeartbeats 8000000 in
set_option maxRecDepth 100000 in
theorem fixed_Clamp.calls (a0 : Int) (a1 : Int) (a2 : Int) (r : Int) (w : World) (h : fixed_Clamp.f a0 a1 a2 = some r) :
  Calls Try.prog 62 #[.int .i64 a0, .int .i64 a1, .int .i64 a2] w fun e w' => e = .returned (.int .i64 r) ∧ Drawn0 w w' := by
 have H : (if a0 < a1 then (some a1) else (if a0 > a2 then (some a2) else (some a0))) = some r := h
 clear h
 by_cases c4 : a0 < a1
 ·rw [if_pos c4] at H
  have c4b0 : decide (a0 < a1) = true := yC c4
  clear c4
  obtain rfl := yY H
  go_enter Try.func62, Try.ntmps62
  go_wp2
  go_ret
  exact ⟨by first | rfl | (simp; done) | (simp [*]; done), by repeat (first | exact Drawn0.refl _ | apply Drawn0.step)⟩
 ·rw [if_neg c4] at H
  have c4b0 : decide (a0 < a1) = false := yD c4
  clear c4
  by_cases c5 : a0 > a2
  ·rw [if_pos c5] at H
   have c5b0 : decide (a2 < a0) = true := yC c5
   clear c5
   obtain rfl := yY H
   go_enter Try.func62, Try.ntmps62
   go_wp2
   go_ret
   exact ⟨by first | rfl | (simp; done) | (simp [*]; done), by repeat (first | exact Drawn0.refl _ | apply Drawn0.step)⟩
  ·rw [if_neg c5] at H
   have c5b0 : decide (a2 < a0) = false := yD c5
   clear c5
   obtain rfl := yY H
   go_enter Try.func62, Try.ntmps62
   go_wp2
   go_ret
   exact ⟨by first | rfl | (simp; done) | (simp [*]; done), by repeat (first | exact Drawn0.refl _ | apply Drawn0.step)⟩

/-! ### fixed_Narrow: function 47 -/
def fixed_Narrow.f (a0 : Int) : Option (Int) := (fixed_Clamp.f a0 (-127) 127).bind fun t106 => (some (IntKind.i8.wrap (t106)))
set_option maxHeartbeats 8000000 in
set_option maxRecDepth 100000 in
theorem fixed_Narrow.calls (a0 : Int) (r : Int) (w : World) (h : fixed_Narrow.f a0 = some r) :
  Calls Try.prog 47 #[.int .i64 a0] w fun e w' => e = .returned (.int .i8 r) ∧ Drawn0 w w' := by
 have H : ((fixed_Clamp.f a0 (-127) 127).bind fun t106 => (some (IntKind.i8.wrap (t106)))) = some r := h
 clear h
 replace H := yA.mp H
 obtain ⟨t106, A20, H⟩ := H
 replace H : (some (IntKind.i8.wrap (t106))) = some r := H
 have A2 := zK A20
 clear A20
 obtain rfl := yY H
 go_enter Try.func47, Try.ntmps47
 go_wp2_with (first | ((with_reducible refine gate_callee (f := 62) rfl ?_); refine goesL_ (some 4) rfl rfl Try.func62 (by kernel_rfl) rfl #[.int .i64 a0, .int .i64 (-127), .int .i64 127] rfl (by (try simp only [yH, yI, yJ]); first | done | rfl | (simp only [yG, yF]; rfl)) ?_; (with_reducible refine (fixed_Clamp.calls a0 (-127) 127 t106 _ A2.out).mono ?_); rintro e w' ⟨rfl, ⟨nd, rfl⟩⟩; refine ⟨_, rfl, ?_⟩))
 go_ret
 exact ⟨by first | rfl | (simp; done) | (simp [*]; done), by repeat (first | exact Drawn0.refl _ | apply Drawn0.step)⟩

/-! ### act_narrow: function 27 -/
def act_narrow.f (a0 : Int) (a1 : Int) : Option (Int) := (fixed_Round.f a0 a1).bind fun bt107 => ((fixed_Narrow.f bt107.1).bind fun t109 => (some t109))
set_option maxHeartbeats 8000000 in
set_option maxRecDepth 100000 in
theorem act_narrow.calls (a0 : Int) (a1 : Int) (r : Int) (w : World) (h : act_narrow.f a0 a1 = some r) :
  Calls Try.prog 27 #[.int .i64 a0, .int .i64 a1] w fun e w' => e = .returned (.int .i8 r) ∧ Drawn0 w w' := by
 have H : ((fixed_Round.f a0 a1).bind fun bt107 => ((fixed_Narrow.f bt107.1).bind fun t109 => (some t109))) = some r := h
 clear h
 replace H := yA.mp H
 obtain ⟨⟨t107, t108⟩, A30, H⟩ := H
 replace H : ((fixed_Narrow.f t107).bind fun t109 => (some t109)) = some r := H
 have A3 := zK A30
 clear A30
 replace H := yA.mp H
 obtain ⟨t109, A40, H⟩ := H
 replace H : (some t109) = some r := H
 have A4 := zK A40
 clear A40
 obtain rfl := yY H
 go_enter Try.func27, Try.ntmps27
 go_wp2_with (first | ((with_reducible refine gate_callee (f := 46) rfl ?_); refine goesL_ (some 10) rfl rfl Try.func46 (by kernel_rfl) rfl #[.int .i64 a0, .int .i64 a1] rfl (by (try simp only [yH, yI, yJ]); first | done | rfl | (simp only [yG, yF]; rfl)) ?_; (with_reducible refine (fixed_Round.calls a0 a1 t107 t108 _ A3.out).mono ?_); rintro e w' ⟨rfl, ⟨nd, rfl⟩⟩; refine ⟨_, rfl, ?_⟩) | ((with_reducible refine gate_callee (f := 47) rfl ?_); refine goesL_ (some 14) rfl rfl Try.func47 (by kernel_rfl) rfl #[.int .i64 t107] rfl (by (try simp only [yH, yI, yJ]); first | done | rfl | (simp only [yG, yF]; rfl)) ?_; (with_reducible refine (fixed_Narrow.calls t107 t109 _ A4.out).mono ?_); rintro e w' ⟨rfl, ⟨nd, rfl⟩⟩; refine ⟨_, rfl, ?_⟩))
 go_ret
 exact ⟨by first | rfl | (simp; done) | (simp [*]; done), by repeat (first | exact Drawn0.refl _ | apply Drawn0.step)⟩

/-! ### fixed_Exp2: function 38 -/
def fixed_Exp2.f (a0 : Int) : Option Int := if -9223372036854775808 ≤ a0 ∧ a0 ≤ 9223372036854775807 then some (Go.Proofs.Ytjcfhgpaipbedaa.St.expF a0) else none
theorem fixed_Exp2.calls (a0 : Int) (r : Int) (w : World) (h : fixed_Exp2.f a0 = some r) :
  Calls Try.prog 38 #[.int .i64 a0] w fun e w' => e = .returned (.int .i64 r) ∧ Below w.heap.size w w' := by
 unfold fixed_Exp2.f at h
 split at h
 ·rename_i hn
  injection h with h
  subst h
  exact Go.Proofs.Ytjcfhgpaipbedaa.St.exp_calls a0 w hn
 ·cases h

/-! ### act_soft: function 43 -/
def act_soft.f : Nat → Int → Option (Int)
 | 0, _ => none
 | k + 1, a0 => if a0 < 0 then ((act_soft.f k (wrap64 (-a0))).bind fun t110 => (some (wrap64 (64 - t110)))) else ((fixed_Exp2.f (wrap64 ((-8192) * a0))).bind fun t111 => ((fixed_Floor.f 68719476736 (wrap64 (1073741824 + t111))).bind fun bt112 => (some bt112.1)))
theorem act_soft.mono_l : ∀ k, (∀ y0, LeO (act_soft.f k y0) (act_soft.f (k + 1) y0))
 | 0 => fun _ r h => by simp [act_soft.f] at h
 | k + 1 => by
  have ih0 := act_soft.mono_l k
  intros
  unfold act_soft.f
  all_goals repeat' first
   | (with_reducible exact ih0 _)
   | (with_reducible exact yR _)
   | (with_reducible exact yO _)
   | (with_reducible refine yQ ?_ ?_)
   | (with_reducible refine yP ?_ (fun _ => ?_))
   | exact ih0 _
   | exact yO _
   | refine yQ ?_ ?_
   | refine yP ?_ (fun _ => ?_)
theorem act_soft.mono : ∀ a0 k, LeO (act_soft.f k a0) (act_soft.f (k + 1) a0) := by
 intro a0 k
 have ih0 := act_soft.mono_l k
 exact ih0 a0
set_option maxHeartbeats 8000000 in
set_option maxRecDepth 100000 in
theorem act_soft.calls (k : Nat) : ∀ (a0 : Int) (r : Int) (w : World) (h : act_soft.f k a0 = some r),
  Calls Try.prog 43 #[.int .i64 a0] w fun e w' => e = .returned (.int .i64 r) ∧ Below w.heap.size w w' := by
 induction k using Nat.strongRecOn with
 | _ k ih =>
 intro a0 r w h
 cases k with
 | zero => exact absurd h (by simp [act_soft.f])
 | succ k =>
 simp only [act_soft.f] at h
 have HB := zK (Below.refl w.heap.size w)
 have H : (if a0 < 0 then ((act_soft.f k (wrap64 (-a0))).bind fun t110 => (some (wrap64 (64 - t110)))) else ((fixed_Exp2.f (wrap64 ((-8192) * a0))).bind fun t111 => ((fixed_Floor.f 68719476736 (wrap64 (1073741824 + t111))).bind fun bt112 => (some bt112.1)))) = some r := h
 clear h
 by_cases c2 : a0 < 0
 ·rw [if_pos c2] at H
  have c2b0 : decide (a0 < 0) = true := yC c2
  clear c2
  replace H := yA.mp H
  obtain ⟨t110, A30, H⟩ := H
  replace H : (some (wrap64 (64 - t110))) = some r := H
  have A3 := zK A30
  clear A30
  obtain rfl := yY H
  go_enter Try.func43, Try.ntmps43
  go_wp2_with (first | ((with_reducible refine gate_callee (f := 43) rfl ?_); refine goesL_ (some 10) rfl rfl Try.func43 (by kernel_rfl) rfl #[.int .i64 (wrap64 (-a0))] rfl (by (try simp only [yH, yI, yJ]); first | done | rfl | (simp only [yG, yF]; rfl)) ?_; (with_reducible refine (ih k (by omega) (wrap64 (-a0)) t110 _ A3.out).mono ?_); rintro e w4 ⟨rfl, hb⟩; refine ⟨_, rfl, ?_⟩; have n0_ := zK (yL (by repeat (first | (with_reducible first | exact HB.out | apply zJ | apply zD | apply zE) | exact HB.out)) hb); clear HB; have HB := n0_; clear n0_; (try clear hb); (try clear hb2); (try clear hk); (try clear hi)))
  go_ret
  exact ⟨by first | rfl | (simp [errW_none, errW_some] <;> rfl) | (simp [*, errW_none, errW_some] <;> rfl), by repeat (first | (with_reducible first | exact HB.out | apply zJ | apply zD | apply zE) | exact HB.out)⟩
 ·rw [if_neg c2] at H
  have c2b0 : decide (a0 < 0) = false := yD c2
  clear c2
  replace H := yA.mp H
  obtain ⟨t111, A50, H⟩ := H
  replace H : ((fixed_Floor.f 68719476736 (wrap64 (1073741824 + t111))).bind fun bt112 => (some bt112.1)) = some r := H
  have A5 := zK A50
  clear A50
  replace H := yA.mp H
  obtain ⟨⟨t112, t113, t114⟩, A60, H⟩ := H
  replace H : (some t112) = some r := H
  have A6 := zK A60
  clear A60
  obtain rfl := yY H
  go_enter Try.func43, Try.ntmps43
  go_wp2_with (first | ((with_reducible refine gate_callee (f := 38) rfl ?_); refine goesL_ (some 15) rfl rfl Try.func38 (by kernel_rfl) rfl #[.int .i64 (wrap64 ((-8192) * a0))] rfl (by (try simp only [yH, yI, yJ]); first | done | rfl | (simp only [yG, yF]; rfl)) ?_; (with_reducible refine (fixed_Exp2.calls (wrap64 ((-8192) * a0)) t111 _ A5.out).mono ?_); rintro e w7 ⟨rfl, hb⟩; refine ⟨_, rfl, ?_⟩; have n0_ := zK (yL (by repeat (first | (with_reducible first | exact HB.out | apply zJ | apply zD | apply zE) | exact HB.out)) hb); clear HB; have HB := n0_; clear n0_; (try clear hb); (try clear hb2); (try clear hk); (try clear hi)) | ((with_reducible refine gate_callee (f := 59) rfl ?_); refine goesL_ (some 17) rfl rfl Try.func59 (by kernel_rfl) rfl #[.int .i64 68719476736, .int .i64 (wrap64 (1073741824 + t111))] rfl (by (try simp only [yH, yI, yJ]); first | done | rfl | (simp only [yG, yF]; rfl)) ?_; (with_reducible refine (fixed_Floor.calls 68719476736 (wrap64 (1073741824 + t111)) t112 t113 t114 _ A6.out).mono ?_); rintro e w' ⟨rfl, ⟨nd, rfl⟩⟩; refine ⟨_, rfl, ?_⟩))
  go_ret
  exact ⟨by first | rfl | (simp [errW_none, errW_some] <;> rfl) | (simp [*, errW_none, errW_some] <;> rfl), by repeat (first | (with_reducible first | exact HB.out | apply zJ | apply zD | apply zE) | exact HB.out)⟩

/-! ### act_bends_2: function 42 -/
def act_bends_2.f (k : Nat) (a0 : Int) : Option (Int) := (act_soft.f k a0).bind fun t115 => ((act_narrow.f (wrap64 (a0 * t115)) 6).bind fun t116 => (some t116))
theorem act_bends_2.mono : ∀ a0 k, LeO (act_bends_2.f k a0) (act_bends_2.f (k + 1) a0) := by
 intro a0 k
 unfold act_bends_2.f
 repeat' first
   | (with_reducible exact act_soft.mono _ _)
   | (with_reducible exact yR _)
   | (with_reducible exact yO _)
   | (with_reducible refine yQ ?_ ?_)
   | (with_reducible refine yP ?_ (fun _ => ?_))
   | exact act_soft.mono _ _
   | exact yO _
   | refine yQ ?_ ?_
   | refine yP ?_ (fun _ => ?_)
set_option maxHeartbeats 8000000 in
set_option maxRecDepth 100000 in
theorem act_bends_2.calls (k : Nat) (a0 : Int) (r : Int) (w : World) (h : act_bends_2.f k a0 = some r) :
  Calls Try.prog 42 #[.int .i64 a0] w fun e w' => e = .returned (.int .i8 r) ∧ Below w.heap.size w w' := by
 have HB := zK (Below.refl w.heap.size w)
 have H : ((act_soft.f k a0).bind fun t115 => ((act_narrow.f (wrap64 (a0 * t115)) 6).bind fun t116 => (some t116))) = some r := h
 clear h
 replace H := yA.mp H
 obtain ⟨t115, A20, H⟩ := H
 replace H : ((act_narrow.f (wrap64 (a0 * t115)) 6).bind fun t116 => (some t116)) = some r := H
 have A2 := zK A20
 clear A20
 replace H := yA.mp H
 obtain ⟨t116, A30, H⟩ := H
 replace H : (some t116) = some r := H
 have A3 := zK A30
 clear A30
 obtain rfl := yY H
 go_enter Try.func42, Try.ntmps42
 go_wp2_with (first | ((with_reducible refine gate_callee (f := 43) rfl ?_); refine goesL_ (some 5) rfl rfl Try.func43 (by kernel_rfl) rfl #[.int .i64 a0] rfl (by (try simp only [yH, yI, yJ]); first | done | rfl | (simp only [yG, yF]; rfl)) ?_; (with_reducible refine (act_soft.calls k a0 t115 _ A2.out).mono ?_); rintro e w4 ⟨rfl, hb⟩; refine ⟨_, rfl, ?_⟩; have n0_ := zK (yL (by repeat (first | (with_reducible first | exact HB.out | apply zJ | apply zD | apply zE) | exact HB.out)) hb); clear HB; have HB := n0_; clear n0_; (try clear hb); (try clear hb2); (try clear hk); (try clear hi)) | ((with_reducible refine gate_callee (f := 27) rfl ?_); refine goesL_ (some 7) rfl rfl Try.func27 (by kernel_rfl) rfl #[.int .i64 (wrap64 (a0 * t115)), .int .i64 6] rfl (by (try simp only [yH, yI, yJ]); first | done | rfl | (simp only [yG, yF]; rfl)) ?_; (with_reducible refine (act_narrow.calls (wrap64 (a0 * t115)) 6 t116 _ A3.out).mono ?_); rintro e w' ⟨rfl, ⟨nd, rfl⟩⟩; refine ⟨_, rfl, ?_⟩))
 go_ret
 exact ⟨by first | rfl | (simp [errW_none, errW_some] <;> rfl) | (simp [*, errW_none, errW_some] <;> rfl), by repeat (first | (with_reducible first | exact HB.out | apply zJ | apply zD | apply zE) | exact HB.out)⟩

/-! ### act_bends_3: function 44 -/
def act_bends_3.f (a0 : Int) : Option (Int) := (act_narrow.f (wrap64 ((mx a0 0) * (mx a0 0))) 7).bind fun t117 => (some t117)
set_option maxHeartbeats 8000000 in
set_option maxRecDepth 100000 in
theorem act_bends_3.calls (a0 : Int) (r : Int) (w : World) (h : act_bends_3.f a0 = some r) :
  Calls Try.prog 44 #[.int .i64 a0] w fun e w' => e = .returned (.int .i8 r) ∧ Below w.heap.size w w' := by
 have HB := zK (Below.refl w.heap.size w)
 have H : ((act_narrow.f (wrap64 ((mx a0 0) * (mx a0 0))) 7).bind fun t117 => (some t117)) = some r := h
 clear h
 obtain ⟨ji2, hji2⟩ : ∃ j_ : Int, (mx a0 0) = j_ := ⟨_, rfl⟩
 replace H : ((act_narrow.f (wrap64 ((ji2) * (ji2))) 7).bind fun t117 => (some t117)) = some r := by first | (rw [hji2] at H; exact H) | (simp only [hji2] at H ⊢; exact H)
 (try (have hji2l : 0 ≤ ji2 := by (rw [← hji2]; unfold mx; (repeat' split) <;> omega)))
 (try (have hji2m : 0 ≤ ji2 := by omega))
 have hji2_ : (if a0 < 0 then 0 else a0) = ji2 := hji2
 replace H := yA.mp H
 obtain ⟨t117, A40, H⟩ := H
 replace H : (some t117) = some r := H
 have A4 := zK A40
 clear A40
 obtain rfl := yY H
 go_enter Try.func44, Try.ntmps44
 go_wp2_with (first | ((with_reducible refine gate_callee (f := 27) rfl ?_); refine goesL_ (some 8) rfl rfl Try.func27 (by kernel_rfl) rfl #[.int .i64 (wrap64 ((ji2) * (ji2))), .int .i64 7] rfl (by (try simp only [yH, yI, yJ]); first | done | (simp only [hji2]; rfl) | rfl | (simp only [yG, yF]; rfl)) ?_; (with_reducible refine (act_narrow.calls (wrap64 ((ji2) * (ji2))) 7 t117 _ A4.out).mono ?_); rintro e w' ⟨rfl, ⟨nd, rfl⟩⟩; refine ⟨_, rfl, ?_⟩))
 go_ret
 exact ⟨by first | rfl | (simp [errW_none, errW_some] <;> rfl) | (simp only [← hji2]; first | rfl | (simp [errW_none, errW_some] <;> rfl)) | (simp [*, errW_none, errW_some] <;> rfl), by repeat (first | (with_reducible first | exact HB.out | apply zJ | apply zD | apply zE) | exact HB.out)⟩

/-! ### act_Table: function 11 -/
def tab1 (i : Nat) : Int := (act_bends_1.f (Go.Proofs.Ytjcfhgpaipbedaa.St.i8of i)).getD 0
def tab2 (i : Nat) : Int := (act_bends_2.f 2 (Go.Proofs.Ytjcfhgpaipbedaa.St.i8of i)).getD 0
def tab3 (i : Nat) : Int := (act_bends_3.f (Go.Proofs.Ytjcfhgpaipbedaa.St.i8of i)).getD 0
def act_Table.f (a0 : Int) : Option (List Int × Int) :=
 if -9223372036854775808 ≤ a0 ∧ a0 ≤ 9223372036854775807 then some (if a0 = 1 then ((List.range 256).map tab1, 0) else if a0 = 2 then ((List.range 256).map tab2, 0) else if a0 = 3 then ((List.range 256).map tab3, 0) else ([], 121)) else none
theorem tab1_ok : ∀ i : Fin 256, act_bends_1.f (Go.Proofs.Ytjcfhgpaipbedaa.St.i8of i.1) = some (tab1 i.1) := by decide +kernel
theorem tab2_ok : ∀ i : Fin 256, act_bends_2.f 2 (Go.Proofs.Ytjcfhgpaipbedaa.St.i8of i.1) = some (tab2 i.1) := by decide +kernel
theorem tab3_ok : ∀ i : Fin 256, act_bends_3.f (Go.Proofs.Ytjcfhgpaipbedaa.St.i8of i.1) = some (tab3 i.1) := by decide +kernel
set_option maxHeartbeats 1000000 in
theorem act_Table.calls (a0 : Int) (r1 : List Int) (r2 : Int) (w : World) (h : act_Table.f a0 = some (r1, r2)) :
  Calls Try.prog 11 #[.int .i64 a0] w fun e w' => ∃ v0_ : Value, e = .returned (.tuple #[v0_, .int .i64 r2]) ∧ Kd.R (Kd.int .i8) 30 w' w.heap.size (fun _ => True) v0_ r1 ∧ Below w.heap.size w w' := by
 unfold act_Table.f at h
 split at h
 rotate_left
 ·cases h
 rename_i hr
 have h0 : (Lit.int .i64 a0).wf = true := by
  show (decide (IntKind.i64.min ≤ a0) && decide (a0 ≤ IntKind.i64.max)) = true
  rw [Bool.and_eq_true, decide_eq_true_eq, decide_eq_true_eq]
  exact hr
 injection h with h
 have done : ∀ g : Nat → Int, Calls Try.prog 11 #[.int .i64 a0] w (fun e w' => ∃ v, e = .returned (.tuple #[v, .int .i64 0]) ∧ w'.ownsRow w.heap.size 30 1 v 256 ((List.range 256).map fun i => .int .i8 (g i)) ∧ Below w.heap.size w w') → ((List.range 256).map g, (0 : Int)) = (r1, r2) →
   Calls Try.prog 11 #[.int .i64 a0] w fun e w' => ∃ v0_ : Value, e = .returned (.tuple #[v0_, .int .i64 r2]) ∧ Kd.R (Kd.int .i8) 30 w' w.heap.size (fun _ => True) v0_ r1 ∧ Below w.heap.size w w' := by
  intro g hc hr
  injection hr with h1 h2
  subst h1 h2
  refine hc.mono ?_
  rintro e w' ⟨v, rfl, ho, hb⟩
  refine ⟨v, rfl, Kd.R_of_own (enc := Value.int .i8) ?_ (fun _ _ => trivial), hb⟩
  have e1 : ((List.range 256).map g).length = 256 := by rw [List.length_map, List.length_range]
  rw [e1]
  have e2 : encs (Value.int .i8) ((List.range 256).map g) = (List.range 256).map fun i => Value.int .i8 (g i) := by
   show ((List.range 256).map g).map _ = _
   rw [List.map_map]
   rfl
  rw [e2]
  exact ho
 by_cases c1 : a0 = 1
 ·rw [if_pos c1] at h
  exact done tab1 (Go.Proofs.Ytjcfhgpaipbedaa.St.table_some a0 41 tab1 w h0 (by rw [if_pos c1]; rfl) (fun _ _ => by kernel_rfl) (fun W i hi => act_bends_1.calls _ _ W (tab1_ok ⟨i, hi⟩))) h
 rw [if_neg c1] at h
 by_cases c2 : a0 = 2
 ·rw [if_pos c2] at h
  exact done tab2 (Go.Proofs.Ytjcfhgpaipbedaa.St.table_some a0 42 tab2 w h0 (by rw [if_neg c1, if_pos c2]; rfl) (fun _ _ => by kernel_rfl) (fun W i hi => act_bends_2.calls 2 _ _ W (tab2_ok ⟨i, hi⟩))) h
 rw [if_neg c2] at h
 by_cases c3 : a0 = 3
 ·rw [if_pos c3] at h
  exact done tab3 (Go.Proofs.Ytjcfhgpaipbedaa.St.table_some a0 44 tab3 w h0 (by rw [if_neg c1, if_neg c2, if_pos c3]; rfl) (fun _ _ => by kernel_rfl) (fun W i hi => act_bends_3.calls _ _ W (tab3_ok ⟨i, hi⟩))) h
 rw [if_neg c3] at h
 injection h with h1 h2
 subst h1 h2
 refine (Go.Proofs.Ytjcfhgpaipbedaa.St.table_none a0 w h0 (by omega)).mono ?_
 rintro e w' ⟨rfl, hb⟩
 exact ⟨_, rfl, Kd.R_nil _ _ _ _ _, hb⟩

end Go.Proofs.Ytjcfhgpaipbedaa.A
