-- Printed by this session's own driver (wip/tools/xprint.py) over the kit's printer; given functions are this session's own.
import Derived.Test.YtgolghimefageaaC0
namespace Go.Proofs.Ytgolghimefageaa.C
open Go.RowKit Go.Proofs.YtgolghimefageaaW.PrintWords Go.Proofs.YtgolghimefageaaW.PrintLast Go.Proofs.YtgolghimefageaaW.PrintMore
attribute [local go_sem] max2_int min2_int max_two min_two max_three min_three max_four min_four   -- for this text's walks alone
set_option linter.unusedVariables false
set_option linter.unusedSimpArgs false

-- NOT PRINTED: function 14 (queue_New_int64_string)

-- NOT PRINTED: function 16 (queue_Queue_int64_string_Len)

-- NOT PRINTED: function 52 (queue_element_int64_string_52)

/-! ### cmp_isNaN_int: function 76 -/
def cmp_isNaN_int.f (a0 : Int) : Option (Bool) := some (a0 != a0)
set_option maxHeartbeats 8000000 in
set_option maxRecDepth 100000 in
theorem cmp_isNaN_int.calls (a0 : Int) (r : Bool) (w : World) (h : cmp_isNaN_int.f a0 = some r) :
  Calls Try.prog 76 #[.int .i64 a0] w fun e w' => e = .returned (.bool r) ∧ Drawn0 w w' := by
 have H : (some (a0 != a0)) = some r := h
 clear h
 obtain rfl := yY H
 go_enter Try.func76, Try.ntmps76
 go_wp2
 go_ret
 exact ⟨by first | rfl | (simp; done) | (simp [*]; done), by repeat (first | exact Drawn0.refl _ | apply Drawn0.step)⟩

/-! ### cmp_Compare_int: function 63 -/
def cmp_Compare_int.f (a0 : Int) (a1 : Int) : Option (Int) := (cmp_isNaN_int.f a0).bind fun t101 => ((cmp_isNaN_int.f a1).bind fun t102 => (if t101 = true then (if t102 = true then (some 0) else (some (-1))) else (if t102 = true then (some 1) else (if a0 < a1 then (some (-1)) else (if a0 > a1 then (some 1) else (some 0))))))
set_option maxHeartbeats 8000000 in
set_option maxRecDepth 100000 in
theorem cmp_Compare_int.calls (a0 : Int) (a1 : Int) (r : Int) (w : World) (h : cmp_Compare_int.f a0 a1 = some r) :
  Calls Try.prog 63 #[.int .i64 a0, .int .i64 a1] w fun e w' => e = .returned (.int .i64 r) ∧ Drawn0 w w' := by
 have H : ((cmp_isNaN_int.f a0).bind fun t101 => ((cmp_isNaN_int.f a1).bind fun t102 => (if t101 = true then (if t102 = true then (some 0) else (some (-1))) else (if t102 = true then (some 1) else (if a0 < a1 then (some (-1)) else (if a0 > a1 then (some 1) else (some 0))))))) = some r := h
 clear h
 replace H := yA.mp H
 obtain ⟨t101, A30, H⟩ := H
 replace H : ((cmp_isNaN_int.f a1).bind fun t102 => (if t101 = true then (if t102 = true then (some 0) else (some (-1))) else (if t102 = true then (some 1) else (if a0 < a1 then (some (-1)) else (if a0 > a1 then (some 1) else (some 0)))))) = some r := H
 have A3 := zK A30
 clear A30
 replace H := yA.mp H
 obtain ⟨t102, A40, H⟩ := H
 replace H : (if t101 = true then (if t102 = true then (some 0) else (some (-1))) else (if t102 = true then (some 1) else (if a0 < a1 then (some (-1)) else (if a0 > a1 then (some 1) else (some 0))))) = some r := H
 have A4 := zK A40
 clear A40
 by_cases c5 : t101 = true
 ·subst c5
  have H1 : (if t102 = true then (some 0) else (some (-1))) = some r := by rw [if_pos rfl] at H; exact H
  clear H
  have H := H1
  clear H1
  by_cases c6 : t102 = true
  ·subst c6
   have H1 : (some 0) = some r := by rw [if_pos rfl] at H; exact H
   clear H
   have H := H1
   clear H1
   obtain rfl := yY H
   go_enter Try.func63, Try.ntmps63
   go_wp2_with (first | ((with_reducible refine gate_callee (f := 76) rfl ?_); refine goesL_ (some 8) rfl rfl Try.func76 (by kernel_rfl) rfl #[.int .i64 a0] rfl (by (try simp only [yH, yI, yJ]); first | done | rfl | (simp only [yG, yF]; rfl)) ?_; (with_reducible refine (cmp_isNaN_int.calls a0 true _ A3.out).mono ?_); rintro e w' ⟨rfl, ⟨nd, rfl⟩⟩; refine ⟨_, rfl, ?_⟩) | ((with_reducible refine gate_callee (f := 76) rfl ?_); refine goesL_ (some 10) rfl rfl Try.func76 (by kernel_rfl) rfl #[.int .i64 a1] rfl (by (try simp only [yH, yI, yJ]); first | done | rfl | (simp only [yG, yF]; rfl)) ?_; (with_reducible refine (cmp_isNaN_int.calls a1 true _ A4.out).mono ?_); rintro e w' ⟨rfl, ⟨nd, rfl⟩⟩; refine ⟨_, rfl, ?_⟩))
   go_ret
   exact ⟨by first | rfl | (simp; done) | (simp [*]; done), by repeat (first | exact Drawn0.refl _ | apply Drawn0.step)⟩
  ·replace c6 := yh.mpr c6
   subst c6
   have H1 : (some (-1)) = some r := by rw [if_neg (show ¬ (false = true) by decide)] at H; exact H
   clear H
   have H := H1
   clear H1
   obtain rfl := yY H
   go_enter Try.func63, Try.ntmps63
   go_wp2_with (first | ((with_reducible refine gate_callee (f := 76) rfl ?_); refine goesL_ (some 8) rfl rfl Try.func76 (by kernel_rfl) rfl #[.int .i64 a0] rfl (by (try simp only [yH, yI, yJ]); first | done | rfl | (simp only [yG, yF]; rfl)) ?_; (with_reducible refine (cmp_isNaN_int.calls a0 true _ A3.out).mono ?_); rintro e w' ⟨rfl, ⟨nd, rfl⟩⟩; refine ⟨_, rfl, ?_⟩) | ((with_reducible refine gate_callee (f := 76) rfl ?_); refine goesL_ (some 10) rfl rfl Try.func76 (by kernel_rfl) rfl #[.int .i64 a1] rfl (by (try simp only [yH, yI, yJ]); first | done | rfl | (simp only [yG, yF]; rfl)) ?_; (with_reducible refine (cmp_isNaN_int.calls a1 false _ A4.out).mono ?_); rintro e w' ⟨rfl, ⟨nd, rfl⟩⟩; refine ⟨_, rfl, ?_⟩))
   go_ret
   exact ⟨by first | rfl | (simp; done) | (simp [*]; done), by repeat (first | exact Drawn0.refl _ | apply Drawn0.step)⟩
 ·replace c5 := yh.mpr c5
  subst c5
  have H1 : (if t102 = true then (some 1) else (if a0 < a1 then (some (-1)) else (if a0 > a1 then (some 1) else (some 0)))) = some r := by rw [if_neg (show ¬ (false = true) by decide)] at H; exact H
  clear H
  have H := H1
  clear H1
  by_cases c7 : t102 = true
  ·subst c7
   have H1 : (some 1) = some r := by rw [if_pos rfl] at H; exact H
   clear H
   have H := H1
   clear H1
   obtain rfl := yY H
   go_enter Try.func63, Try.ntmps63
   go_wp2_with (first | ((with_reducible refine gate_callee (f := 76) rfl ?_); refine goesL_ (some 8) rfl rfl Try.func76 (by kernel_rfl) rfl #[.int .i64 a0] rfl (by (try simp only [yH, yI, yJ]); first | done | rfl | (simp only [yG, yF]; rfl)) ?_; (with_reducible refine (cmp_isNaN_int.calls a0 false _ A3.out).mono ?_); rintro e w' ⟨rfl, ⟨nd, rfl⟩⟩; refine ⟨_, rfl, ?_⟩) | ((with_reducible refine gate_callee (f := 76) rfl ?_); refine goesL_ (some 10) rfl rfl Try.func76 (by kernel_rfl) rfl #[.int .i64 a1] rfl (by (try simp only [yH, yI, yJ]); first | done | rfl | (simp only [yG, yF]; rfl)) ?_; (with_reducible refine (cmp_isNaN_int.calls a1 true _ A4.out).mono ?_); rintro e w' ⟨rfl, ⟨nd, rfl⟩⟩; refine ⟨_, rfl, ?_⟩))
   go_ret
   exact ⟨by first | rfl | (simp; done) | (simp [*]; done), by repeat (first | exact Drawn0.refl _ | apply Drawn0.step)⟩
  ·replace c7 := yh.mpr c7
   subst c7
   have H1 : (if a0 < a1 then (some (-1)) else (if a0 > a1 then (some 1) else (some 0))) = some r := by rw [if_neg (show ¬ (false = true) by decide)] at H; exact H
   clear H
   have H := H1
   clear H1
   by_cases c8 : a0 < a1
   ·rw [if_pos c8] at H
    have c8b0 : decide (a0 < a1) = true := yC c8
    clear c8
    obtain rfl := yY H
    go_enter Try.func63, Try.ntmps63
    go_wp2_with (first | ((with_reducible refine gate_callee (f := 76) rfl ?_); refine goesL_ (some 8) rfl rfl Try.func76 (by kernel_rfl) rfl #[.int .i64 a0] rfl (by (try simp only [yH, yI, yJ]); first | done | rfl | (simp only [yG, yF]; rfl)) ?_; (with_reducible refine (cmp_isNaN_int.calls a0 false _ A3.out).mono ?_); rintro e w' ⟨rfl, ⟨nd, rfl⟩⟩; refine ⟨_, rfl, ?_⟩) | ((with_reducible refine gate_callee (f := 76) rfl ?_); refine goesL_ (some 10) rfl rfl Try.func76 (by kernel_rfl) rfl #[.int .i64 a1] rfl (by (try simp only [yH, yI, yJ]); first | done | rfl | (simp only [yG, yF]; rfl)) ?_; (with_reducible refine (cmp_isNaN_int.calls a1 false _ A4.out).mono ?_); rintro e w' ⟨rfl, ⟨nd, rfl⟩⟩; refine ⟨_, rfl, ?_⟩))
    go_ret
    exact ⟨by first | rfl | (simp; done) | (simp [*]; done), by repeat (first | exact Drawn0.refl _ | apply Drawn0.step)⟩
   ·rw [if_neg c8] at H
    have c8b0 : decide (a0 < a1) = false := yD c8
    clear c8
    by_cases c9 : a0 > a1
    ·rw [if_pos c9] at H
     have c9b0 : decide (a1 < a0) = true := yC c9
     clear c9
     obtain rfl := yY H
     go_enter Try.func63, Try.ntmps63
     go_wp2_with (first | ((with_reducible refine gate_callee (f := 76) rfl ?_); refine goesL_ (some 8) rfl rfl Try.func76 (by kernel_rfl) rfl #[.int .i64 a0] rfl (by (try simp only [yH, yI, yJ]); first | done | rfl | (simp only [yG, yF]; rfl)) ?_; (with_reducible refine (cmp_isNaN_int.calls a0 false _ A3.out).mono ?_); rintro e w' ⟨rfl, ⟨nd, rfl⟩⟩; refine ⟨_, rfl, ?_⟩) | ((with_reducible refine gate_callee (f := 76) rfl ?_); refine goesL_ (some 10) rfl rfl Try.func76 (by kernel_rfl) rfl #[.int .i64 a1] rfl (by (try simp only [yH, yI, yJ]); first | done | rfl | (simp only [yG, yF]; rfl)) ?_; (with_reducible refine (cmp_isNaN_int.calls a1 false _ A4.out).mono ?_); rintro e w' ⟨rfl, ⟨nd, rfl⟩⟩; refine ⟨_, rfl, ?_⟩))
     go_ret
     exact ⟨by first | rfl | (simp; done) | (simp [*]; done), by repeat (first | exact Drawn0.refl _ | apply Drawn0.step)⟩
    ·rw [if_neg c9] at H
     have c9b0 : decide (a1 < a0) = false := yD c9
     clear c9
     obtain rfl := yY H
     go_enter Try.func63, Try.ntmps63
     go_wp2_with (first | ((with_reducible refine gate_callee (f := 76) rfl ?_); refine goesL_ (some 8) rfl rfl Try.func76 (by kernel_rfl) rfl #[.int .i64 a0] rfl (by (try simp only [yH, yI, yJ]); first | done | rfl | (simp only [yG, yF]; rfl)) ?_; (with_reducible refine (cmp_isNaN_int.calls a0 false _ A3.out).mono ?_); rintro e w' ⟨rfl, ⟨nd, rfl⟩⟩; refine ⟨_, rfl, ?_⟩) | ((with_reducible refine gate_callee (f := 76) rfl ?_); refine goesL_ (some 10) rfl rfl Try.func76 (by kernel_rfl) rfl #[.int .i64 a1] rfl (by (try simp only [yH, yI, yJ]); first | done | rfl | (simp only [yG, yF]; rfl)) ?_; (with_reducible refine (cmp_isNaN_int.calls a1 false _ A4.out).mono ?_); rintro e w' ⟨rfl, ⟨nd, rfl⟩⟩; refine ⟨_, rfl, ?_⟩))
     go_ret
     exact ⟨by first | rfl | (simp; done) | (simp [*]; done), by repeat (first | exact Drawn0.refl _ | apply Drawn0.step)⟩

/-! ### cmp_isNaN_int64: function 59 -/
def cmp_isNaN_int64.f (a0 : Int) : Option (Bool) := some (a0 != a0)
set_option maxHeartbeats 8000000 in
set_option maxRecDepth 100000 in
theorem cmp_isNaN_int64.calls (a0 : Int) (r : Bool) (w : World) (h : cmp_isNaN_int64.f a0 = some r) :
  Calls Try.prog 59 #[.int .i64 a0] w fun e w' => e = .returned (.bool r) ∧ Drawn0 w w' := by
 have H : (some (a0 != a0)) = some r := h
 clear h
 obtain rfl := yY H
 go_enter Try.func59, Try.ntmps59
 go_wp2
 go_ret
 exact ⟨by first | rfl | (simp; done) | (simp [*]; done), by repeat (first | exact Drawn0.refl _ | apply Drawn0.step)⟩

/-! ### cmp_Compare_int64: function 68 -/
def cmp_Compare_int64.f (a0 : Int) (a1 : Int) : Option (Int) := (cmp_isNaN_int64.f a0).bind fun t103 => ((cmp_isNaN_int64.f a1).bind fun t104 => (if t103 = true then (if t104 = true then (some 0) else (some (-1))) else (if t104 = true then (some 1) else (if a0 < a1 then (some (-1)) else (if a0 > a1 then (some 1) else (some 0))))))
set_option maxHeartbeats 8000000 in
set_option maxRecDepth 100000 in
theorem cmp_Compare_int64.calls (a0 : Int) (a1 : Int) (r : Int) (w : World) (h : cmp_Compare_int64.f a0 a1 = some r) :
  Calls Try.prog 68 #[.int .i64 a0, .int .i64 a1] w fun e w' => e = .returned (.int .i64 r) ∧ Drawn0 w w' := by
 have H : ((cmp_isNaN_int64.f a0).bind fun t103 => ((cmp_isNaN_int64.f a1).bind fun t104 => (if t103 = true then (if t104 = true then (some 0) else (some (-1))) else (if t104 = true then (some 1) else (if a0 < a1 then (some (-1)) else (if a0 > a1 then (some 1) else (some 0))))))) = some r := h
 clear h
 replace H := yA.mp H
 obtain ⟨t103, A30, H⟩ := H
 replace H : ((cmp_isNaN_int64.f a1).bind fun t104 => (if t103 = true then (if t104 = true then (some 0) else (some (-1))) else (if t104 = true then (some 1) else (if a0 < a1 then (some (-1)) else (if a0 > a1 then (some 1) else (some 0)))))) = some r := H
 have A3 := zK A30
 clear A30
 replace H := yA.mp H
 obtain ⟨t104, A40, H⟩ := H
 replace H : (if t103 = true then (if t104 = true then (some 0) else (some (-1))) else (if t104 = true then (some 1) else (if a0 < a1 then (some (-1)) else (if a0 > a1 then (some 1) else (some 0))))) = some r := H
 have A4 := zK A40
 clear A40
 by_cases c5 : t103 = true
 ·subst c5
  have H1 : (if t104 = true then (some 0) else (some (-1))) = some r := by rw [if_pos rfl] at H; exact H
  clear H
  have H := H1
  clear H1
  by_cases c6 : t104 = true
  ·subst c6
   have H1 : (some 0) = some r := by rw [if_pos rfl] at H; exact H
   clear H
   have H := H1
   clear H1
   obtain rfl := yY H
   go_enter Try.func68, Try.ntmps68
   go_wp2_with (first | ((with_reducible refine gate_callee (f := 59) rfl ?_); refine goesL_ (some 8) rfl rfl Try.func59 (by kernel_rfl) rfl #[.int .i64 a0] rfl (by (try simp only [yH, yI, yJ]); first | done | rfl | (simp only [yG, yF]; rfl)) ?_; (with_reducible refine (cmp_isNaN_int64.calls a0 true _ A3.out).mono ?_); rintro e w' ⟨rfl, ⟨nd, rfl⟩⟩; refine ⟨_, rfl, ?_⟩) | ((with_reducible refine gate_callee (f := 59) rfl ?_); refine goesL_ (some 10) rfl rfl Try.func59 (by kernel_rfl) rfl #[.int .i64 a1] rfl (by (try simp only [yH, yI, yJ]); first | done | rfl | (simp only [yG, yF]; rfl)) ?_; (with_reducible refine (cmp_isNaN_int64.calls a1 true _ A4.out).mono ?_); rintro e w' ⟨rfl, ⟨nd, rfl⟩⟩; refine ⟨_, rfl, ?_⟩))
   go_ret
   exact ⟨by first | rfl | (simp; done) | (simp [*]; done), by repeat (first | exact Drawn0.refl _ | apply Drawn0.step)⟩
  ·replace c6 := yh.mpr c6
   subst c6
   have H1 : (some (-1)) = some r := by rw [if_neg (show ¬ (false = true) by decide)] at H; exact H
   clear H
   have H := H1
   clear H1
   obtain rfl := yY H
   go_enter Try.func68, Try.ntmps68
   go_wp2_with (first | ((with_reducible refine gate_callee (f := 59) rfl ?_); refine goesL_ (some 8) rfl rfl Try.func59 (by kernel_rfl) rfl #[.int .i64 a0] rfl (by (try simp only [yH, yI, yJ]); first | done | rfl | (simp only [yG, yF]; rfl)) ?_; (with_reducible refine (cmp_isNaN_int64.calls a0 true _ A3.out).mono ?_); rintro e w' ⟨rfl, ⟨nd, rfl⟩⟩; refine ⟨_, rfl, ?_⟩) | ((with_reducible refine gate_callee (f := 59) rfl ?_); refine goesL_ (some 10) rfl rfl Try.func59 (by kernel_rfl) rfl #[.int .i64 a1] rfl (by (try simp only [yH, yI, yJ]); first | done | rfl | (simp only [yG, yF]; rfl)) ?_; (with_reducible refine (cmp_isNaN_int64.calls a1 false _ A4.out).mono ?_); rintro e w' ⟨rfl, ⟨nd, rfl⟩⟩; refine ⟨_, rfl, ?_⟩))
   go_ret
   exact ⟨by first | rfl | (simp; done) | (simp [*]; done), by repeat (first | exact Drawn0.refl _ | apply Drawn0.step)⟩
 ·replace c5 := yh.mpr c5
  subst c5
  have H1 : (if t104 = true then (some 1) else (if a0 < a1 then (some (-1)) else (if a0 > a1 then (some 1) else (some 0)))) = some r := by rw [if_neg (show ¬ (false = true) by decide)] at H; exact H
  clear H
  have H := H1
  clear H1
  by_cases c7 : t104 = true
  ·subst c7
   have H1 : (some 1) = some r := by rw [if_pos rfl] at H; exact H
   clear H
   have H := H1
   clear H1
   obtain rfl := yY H
   go_enter Try.func68, Try.ntmps68
   go_wp2_with (first | ((with_reducible refine gate_callee (f := 59) rfl ?_); refine goesL_ (some 8) rfl rfl Try.func59 (by kernel_rfl) rfl #[.int .i64 a0] rfl (by (try simp only [yH, yI, yJ]); first | done | rfl | (simp only [yG, yF]; rfl)) ?_; (with_reducible refine (cmp_isNaN_int64.calls a0 false _ A3.out).mono ?_); rintro e w' ⟨rfl, ⟨nd, rfl⟩⟩; refine ⟨_, rfl, ?_⟩) | ((with_reducible refine gate_callee (f := 59) rfl ?_); refine goesL_ (some 10) rfl rfl Try.func59 (by kernel_rfl) rfl #[.int .i64 a1] rfl (by (try simp only [yH, yI, yJ]); first | done | rfl | (simp only [yG, yF]; rfl)) ?_; (with_reducible refine (cmp_isNaN_int64.calls a1 true _ A4.out).mono ?_); rintro e w' ⟨rfl, ⟨nd, rfl⟩⟩; refine ⟨_, rfl, ?_⟩))
   go_ret
   exact ⟨by first | rfl | (simp; done) | (simp [*]; done), by repeat (first | exact Drawn0.refl _ | apply Drawn0.step)⟩
  ·replace c7 := yh.mpr c7
   subst c7
   have H1 : (if a0 < a1 then (some (-1)) else (if a0 > a1 then (some 1) else (some 0))) = some r := by rw [if_neg (show ¬ (false = true) by decide)] at H; exact H
   clear H
   have H := H1
   clear H1
   by_cases c8 : a0 < a1
   ·rw [if_pos c8] at H
    have c8b0 : decide (a0 < a1) = true := yC c8
    clear c8
    obtain rfl := yY H
    go_enter Try.func68, Try.ntmps68
    go_wp2_with (first | ((with_reducible refine gate_callee (f := 59) rfl ?_); refine goesL_ (some 8) rfl rfl Try.func59 (by kernel_rfl) rfl #[.int .i64 a0] rfl (by (try simp only [yH, yI, yJ]); first | done | rfl | (simp only [yG, yF]; rfl)) ?_; (with_reducible refine (cmp_isNaN_int64.calls a0 false _ A3.out).mono ?_); rintro e w' ⟨rfl, ⟨nd, rfl⟩⟩; refine ⟨_, rfl, ?_⟩) | ((with_reducible refine gate_callee (f := 59) rfl ?_); refine goesL_ (some 10) rfl rfl Try.func59 (by kernel_rfl) rfl #[.int .i64 a1] rfl (by (try simp only [yH, yI, yJ]); first | done | rfl | (simp only [yG, yF]; rfl)) ?_; (with_reducible refine (cmp_isNaN_int64.calls a1 false _ A4.out).mono ?_); rintro e w' ⟨rfl, ⟨nd, rfl⟩⟩; refine ⟨_, rfl, ?_⟩))
    go_ret
    exact ⟨by first | rfl | (simp; done) | (simp [*]; done), by repeat (first | exact Drawn0.refl _ | apply Drawn0.step)⟩
   ·rw [if_neg c8] at H
    have c8b0 : decide (a0 < a1) = false := yD c8
    clear c8
    by_cases c9 : a0 > a1
    ·rw [if_pos c9] at H
     have c9b0 : decide (a1 < a0) = true := yC c9
     clear c9
     obtain rfl := yY H
     go_enter Try.func68, Try.ntmps68
     go_wp2_with (first | ((with_reducible refine gate_callee (f := 59) rfl ?_); refine goesL_ (some 8) rfl rfl Try.func59 (by kernel_rfl) rfl #[.int .i64 a0] rfl (by (try simp only [yH, yI, yJ]); first | done | rfl | (simp only [yG, yF]; rfl)) ?_; (with_reducible refine (cmp_isNaN_int64.calls a0 false _ A3.out).mono ?_); rintro e w' ⟨rfl, ⟨nd, rfl⟩⟩; refine ⟨_, rfl, ?_⟩) | ((with_reducible refine gate_callee (f := 59) rfl ?_); refine goesL_ (some 10) rfl rfl Try.func59 (by kernel_rfl) rfl #[.int .i64 a1] rfl (by (try simp only [yH, yI, yJ]); first | done | rfl | (simp only [yG, yF]; rfl)) ?_; (with_reducible refine (cmp_isNaN_int64.calls a1 false _ A4.out).mono ?_); rintro e w' ⟨rfl, ⟨nd, rfl⟩⟩; refine ⟨_, rfl, ?_⟩))
     go_ret
     exact ⟨by first | rfl | (simp; done) | (simp [*]; done), by repeat (first | exact Drawn0.refl _ | apply Drawn0.step)⟩
    ·rw [if_neg c9] at H
     have c9b0 : decide (a1 < a0) = false := yD c9
     clear c9
     obtain rfl := yY H
     go_enter Try.func68, Try.ntmps68
     go_wp2_with (first | ((with_reducible refine gate_callee (f := 59) rfl ?_); refine goesL_ (some 8) rfl rfl Try.func59 (by kernel_rfl) rfl #[.int .i64 a0] rfl (by (try simp only [yH, yI, yJ]); first | done | rfl | (simp only [yG, yF]; rfl)) ?_; (with_reducible refine (cmp_isNaN_int64.calls a0 false _ A3.out).mono ?_); rintro e w' ⟨rfl, ⟨nd, rfl⟩⟩; refine ⟨_, rfl, ?_⟩) | ((with_reducible refine gate_callee (f := 59) rfl ?_); refine goesL_ (some 10) rfl rfl Try.func59 (by kernel_rfl) rfl #[.int .i64 a1] rfl (by (try simp only [yH, yI, yJ]); first | done | rfl | (simp only [yG, yF]; rfl)) ?_; (with_reducible refine (cmp_isNaN_int64.calls a1 false _ A4.out).mono ?_); rintro e w' ⟨rfl, ⟨nd, rfl⟩⟩; refine ⟨_, rfl, ?_⟩))
     go_ret
     exact ⟨by first | rfl | (simp; done) | (simp [*]; done), by repeat (first | exact Drawn0.refl _ | apply Drawn0.step)⟩

-- NOT PRINTED: function 53 (queue_compare_int64_string)

-- NOT PRINTED: function 69 (queue_element_int64_string_69)

-- NOT PRINTED: function 81 (queue_element_int64_string_81)

-- NOT PRINTED: function 78 (queue_element_int64_string_78)

-- NOT PRINTED: function 70 (queue_element_int64_string_70)

-- NOT PRINTED: function 54 (queue_element_int64_string_54)

-- NOT PRINTED: function 35 (queue_Queue_int64_string_place)

-- NOT PRINTED: function 17 (queue_Queue_int64_string_Put)

-- NOT PRINTED: function 37 (queue_Queue_int64_string_at)

-- NOT PRINTED: function 71 (queue_element_int64_string_71)

-- NOT PRINTED: function 72 (queue_element_int64_string_72)

-- NOT PRINTED: function 55 (queue_Queue_int64_string_take)

-- NOT PRINTED: function 38 (queue_Queue_int64_string_out)

-- NOT PRINTED: function 19 (queue_Queue_int64_string_Pop)

-- NOT PRINTED: function 8 (w06_awake)

-- NOT PRINTED: function 22 (queue_New_int64_int)

-- NOT PRINTED: function 56 (queue_element_int64_int_56)

-- NOT PRINTED: function 57 (queue_compare_int64_int)

-- NOT PRINTED: function 73 (queue_element_int64_int_73)

-- NOT PRINTED: function 82 (queue_element_int64_int_82)

-- NOT PRINTED: function 79 (queue_element_int64_int_79)

-- NOT PRINTED: function 74 (queue_element_int64_int_74)

-- NOT PRINTED: function 58 (queue_element_int64_int_58)

-- NOT PRINTED: function 39 (queue_Queue_int64_int_place)

-- NOT PRINTED: function 23 (queue_Queue_int64_int_Put)

/-! ### r06_in: function 40 -/
def r06_in.l0 : Nat → List (S68) → Bool → List (S68) → Int → Int → Int → ByteArray → Int → Option ((List (S68)))
 | 0, _, _, _, _, _, _, _, _ => none
 | k + 1, x5, x6, x10, x11, x12, Y0, Y1, Y2 => if x12 < x11 then (if 0 ≤ x12 then (if x12 < (x10.length : Int) then (if x6 = true then (if x5.length < 4398046511104 then (r06_in.l0 k (x5 ++ [(⟨(rd_T68 x10 x12).f0, (rd_T68 x10 x12).f1, (rd_T68 x10 x12).f2⟩ : S68)]) x6 x10 x11 (wrap64 (x12 + 1)) Y0 Y1 Y2) else (none)) else (if Y0 < ((rd_T68 x10 x12).f0) then (if x5.length < 4398046511104 then ((some (x5 ++ [(⟨Y0, Y1, Y2⟩ : S68)] : List (S68))).bind fun y114 => (if y114.length < 4398046511104 then (r06_in.l0 k (y114 ++ [(⟨(rd_T68 x10 x12).f0, (rd_T68 x10 x12).f1, (rd_T68 x10 x12).f2⟩ : S68)]) true x10 x11 (wrap64 (x12 + 1)) Y0 Y1 Y2) else (none))) else (none)) else (if x5.length < 4398046511104 then (r06_in.l0 k (x5 ++ [(⟨(rd_T68 x10 x12).f0, (rd_T68 x10 x12).f1, (rd_T68 x10 x12).f2⟩ : S68)]) x6 x10 x11 (wrap64 (x12 + 1)) Y0 Y1 Y2) else (none)))) else (none)) else (none)) else (if x6 = true then (some x5) else (if x5.length < 4398046511104 then (some (x5 ++ [(⟨Y0, Y1, Y2⟩ : S68)])) else (none)))
def r06_in.f (k : Nat) (l0 : List (S68)) (a1_0 : Int) (a1_1 : ByteArray) (a1_2 : Int) : Option ((List (S68))) := r06_in.l0 k (([] : List (S68))) false l0 (l0.length : Int) 0 a1_0 a1_1 a1_2
theorem r06_in.mono_l : ∀ k, (∀ y0 y1 y2 y3 y4 y5 y6 y7, LeO (r06_in.l0 k y0 y1 y2 y3 y4 y5 y6 y7) (r06_in.l0 (k + 1) y0 y1 y2 y3 y4 y5 y6 y7))
 | 0 => fun _ _ _ _ _ _ _ _ r h => by simp [r06_in.l0] at h
 | k + 1 => by
  have ih0 := r06_in.mono_l k
  intros
  unfold r06_in.l0
  all_goals repeat' first
   | (with_reducible exact ih0 _ _ _ _ _ _ _ _)
   | (with_reducible exact yR _)
   | (with_reducible exact yO _)
   | (with_reducible refine yQ ?_ ?_)
   | (with_reducible refine yP ?_ (fun _ => ?_))
   | exact ih0 _ _ _ _ _ _ _ _
   | exact yO _
   | refine yQ ?_ ?_
   | refine yP ?_ (fun _ => ?_)
theorem r06_in.mono : ∀ a0 a1 a2 a3 k, LeO (r06_in.f k a0 a1 a2 a3) (r06_in.f (k + 1) a0 a1 a2 a3) := by
 intro a0 a1 a2 a3 k
 have ih0 := r06_in.mono_l k
 unfold r06_in.f
 repeat' first
   | (with_reducible exact ih0 _ _ _ _ _ _ _ _)
   | (with_reducible exact yR _)
   | (with_reducible exact yO _)
   | (with_reducible refine yQ ?_ ?_)
   | (with_reducible refine yP ?_ (fun _ => ?_))
   | exact ih0 _ _ _ _ _ _ _ _
   | exact yO _
   | refine yQ ?_ ?_
   | refine yP ?_ (fun _ => ?_)
set_option maxHeartbeats 8000000 in
set_option maxRecDepth 100000 in
theorem r06_in.calls (k : Nat) (A0 : Option Addr) (c0 : Nat) (l0 : List (S68)) (a1_0 : Int) (a1_1 : ByteArray) (a1_2 : Int) (r : List (S68)) (w : World) (hr0 : Kd.C k68 w A0 l0.length l0) (hc0 : l0.length ≤ c0) (h : r06_in.f k l0 a1_0 a1_1 a1_2 = some r) :
  Calls Try.prog 40 #[.slice A0 l0.length c0, .agg #[.int .i64 a1_0, .string a1_1, .int .i64 a1_2]] w fun e w' => ∃ v0_ : Value, e = .returned (v0_) ∧ Kd.R k68 68 w' w.heap.size (fun _ => True) v0_ r ∧ Below w.heap.size w w' := by
 have hu68 := Try.underlying68
 have HR0 := zK hr0
 have HC0 := zK hc0
 clear hr0 hc0
 have HB := zK (Below.refl w.heap.size w)
 have H : (r06_in.l0 k (([] : List (S68))) false l0 (l0.length : Int) 0 a1_0 a1_1 a1_2) = some r := h
 clear h
 obtain ⟨y106, hy106⟩ : ∃ y_ : List (S68), y_ = (([] : List (S68))) := ⟨_, rfl⟩
 replace H : (r06_in.l0 k y106 false l0 (l0.length : Int) 0 a1_0 a1_1 a1_2) = some r := by first | (rw [hy106]; with_reducible exact H) | (have H2_ := (yV _ _).symm.trans H; rw [hy106]; with_reducible exact H2_) | (have H2_ := (yV _ _).symm.trans H; with_reducible exact H2_) | with_reducible exact H | (rw [hy106]; exact H) | exact H
 have Ny106 := zK hy106
 clear hy106
 have H' := zK H
 clear H
 go_enter Try.func40, Try.ntmps40
 go_wp2_with (first | ((with_reducible refine gate_dst (N := 3) rfl ?_); refine box_event ?hg (N := 3) ?hd (cs := #[.int .i64 a1_0, .string a1_1, .int .i64 a1_2]) (t := 68) ?hr ?_; (case hd => rfl); (case hg => rfl); (case hr => first | (go_simp; done) | (go_simp; rfl)); intro Z16 hg w3 hbox hb; have n0_ := zK (yL (by repeat (first | (with_reducible first | exact HB.out | apply zJ | apply zD | apply zE) | exact HB.out)) hb); have n1_ := zK (hbox); have n2_ := zK ((by rw [hg]; exact (yK (by repeat (first | (with_reducible first | exact HB.out | apply zJ | apply zD | apply zE) | exact HB.out))) : w.heap.size ≤ Z16)); have n3_ := zK ((by rw [hg]; exact (yK (by repeat (first | (with_reducible first | exact HB.out | apply zJ | apply zD | apply zE) | exact HB.out))) : w.heap.size ≤ Z16)); clear HB; have HB := n0_; have Z0 := n1_; have Z8 := n2_; have Z4 := n3_; clear n0_ n1_ n2_ n3_ hb hbox hg) | ((with_reducible refine gate_dst (N := 9) rfl ?_); refine Kd.R_lit k68 _ 68 ?hg (N := 9) ?hd (xs := ([] : List (S68))) (inner := []) (ok := fun _ => True) (okp := fun _ => True) ?hr ?hp (fun _ hk => hk) trivial (Below.refl _ _) (yN _) (by simp) ?_; (case hd => rfl); (case hg => rfl); (case hr => first | (go_simp; done) | (go_simp; rfl)); (case hp => exact (Reps.none _ _)); intro v107 w4 ho5 hb hg_ hnew_; clear hg_ hnew_; (first | rw [← Ny106.out] at ho5 | (simp only [Int.reduceToNat] at ho5; rw [← Ny106.out] at ho5)); have n0_ := zK (Kd.R_lower (Kd.R_newB ho5 (g := Z16) (o := .cells #[.int .i64 a1_0, .string a1_1, .int .i64 a1_2] 68 (0, 0)) (by (with_reducible repeat (first | refine zF ?_ _ | refine zH ?_ | refine zG ?_ _)); exact Z0.out)) (yK (by repeat (first | (with_reducible first | exact HB.out | apply zJ | apply zD | apply zE | refine zI ?_ Z4.out) | exact HB.out)))); have n1_ := zK (zP (g := Z16) (o := .cells #[.int .i64 a1_0, .string a1_1, .int .i64 a1_2] 68 (0, 0)) (by (with_reducible repeat (first | refine zF ?_ _ | refine zH ?_ | refine zG ?_ _)); exact Z0.out) hb); have n2_ := zK (yL (by repeat (first | (with_reducible first | exact HB.out | apply zJ | apply zD | apply zE | refine zI ?_ Z4.out) | exact HB.out)) hb); clear Z0 HB; have HO108 := n0_; have Z0 := n1_; have HB := n2_; clear n0_ n1_ n2_ hb ho5))
 go_loopg [5, 6, 12] k (fun kq v5 v6 v12 w' => ∃ (x5_1 : List (S68)) (x6_1 : Bool) (x12_1 : Int), v6 = .bool x6_1 ∧ v12 = .int .i64 x12_1 ∧ Aside0 (r06_in.l0 kq x5_1 x6_1 l0 (l0.length : Int) x12_1 a1_0 a1_1 a1_2 = some r) ∧ Aside0 (kq ≤ k) ∧ Aside0 (Kd.R k68 68 w' w.heap.size (fun k_ => k_ ≠ Z16) v5 x5_1) ∧ Aside0 (w'.heap[Z16]? = some (.cells #[.int .i64 a1_0, .string a1_1, .int .i64 a1_2] 68 (0, 0))) ∧ Aside0 (Below w.heap.size w w'))
 case atStart => exact ⟨(y106), (false), (0), (by first | rfl | (simp; done) | (simp [*]; done)), (by first | rfl | (simp; done) | (simp [*]; done)), H', ⟨yN _⟩, ⟨by (with_reducible repeat (first | apply zL | apply zM | apply zN)); exact yd HO108.out (fun _ hk => hk.2)⟩, ⟨by (with_reducible repeat (first | refine zF ?_ _ | refine zH ?_ | refine zG ?_ _)); exact Z0.out⟩, ⟨by repeat (first | (with_reducible first | exact HB.out | apply zJ | apply zD | apply zE | refine zI ?_ Z4.out) | exact HB.out)⟩⟩
 case round =>
  clear H'
  try clear p2
  try clear c4
  obtain ⟨x5_1, x6_1, x12_1, rfl, rfl, HA, HK1, HO_5, Z0, HB⟩ := hrel
  cases gk with
  | zero => exact absurd HA.out (by simp [r06_in.l0])
  | succ k1 =>
   have H := HA.out
   clear HA
   simp only [r06_in.l0] at H
   by_cases c6 : x12_1 < (l0.length : Int)
   ·rw [if_pos c6] at H
    have c6b0 : decide (x12_1 < (l0.length : Int)) = true := yC c6
    clear c6
    by_cases c7 : 0 ≤ x12_1
    ·rw [if_pos c7] at H
     have c7b0 : decide (0 ≤ x12_1) = true := yC c7
     clear c7
     by_cases c8 : x12_1 < (l0.length : Int)
     ·rw [if_pos c8] at H
      have c8b0 : decide (x12_1 < (l0.length : Int)) = true := yC c8
      clear c8
      by_cases c9 : x6_1 = true
      ·subst c9
       have H1 : (if x5_1.length < 4398046511104 then (r06_in.l0 k1 (x5_1 ++ [(⟨(rd_T68 l0 x12_1).f0, (rd_T68 l0 x12_1).f1, (rd_T68 l0 x12_1).f2⟩ : S68)]) true l0 (l0.length : Int) (wrap64 (x12_1 + 1)) a1_0 a1_1 a1_2) else (none)) = some r := by rw [if_pos rfl] at H; exact H
       clear H
       have H := H1
       clear H1
       by_cases c10 : x5_1.length < 4398046511104
       ·rw [if_pos c10] at H
        have LMc10 := zK c10
        clear c10
        obtain ⟨y111, hy111⟩ : ∃ y_ : List (S68), y_ = (x5_1 ++ [(⟨(rd_T68 l0 x12_1).f0, (rd_T68 l0 x12_1).f1, (rd_T68 l0 x12_1).f2⟩ : S68)]) := ⟨_, rfl⟩
        replace H : (r06_in.l0 k1 y111 true l0 (l0.length : Int) (wrap64 (x12_1 + 1)) a1_0 a1_1 a1_2) = some r := by first | (rw [hy111]; with_reducible exact H) | (have H2_ := (yV _ _).symm.trans H; rw [hy111]; with_reducible exact H2_) | (have H2_ := (yV _ _).symm.trans H; with_reducible exact H2_) | with_reducible exact H | (rw [hy111]; exact H) | exact H
        have Ny111 := zK hy111
        clear hy111
        have H' := zK H
        clear H
        have p109 : 0 ≤ (x12_1 : Int) := yB (by first | (with_reducible assumption) | assumption)
        have q109 : x12_1 < (l0.length : Int) := yB (by first | (with_reducible assumption) | assumption)
        obtain ⟨ad109, e109, hx109_0, hx109_1, hx109_2⟩ := at_T68 HR0.out x12_1 p109 q109
        cases e109
        replace hx109_0 := (HB.out.cell (World.block_lt_of_cell? w _ hx109_0)).trans hx109_0
        replace hx109_1 := (HB.out.cell (World.block_lt_of_cell? w _ hx109_1)).trans hx109_1
        replace hx109_2 := (HB.out.cell (World.block_lt_of_cell? w _ hx109_2)).trans hx109_2
        replace p109 := yg p109
        replace q109 := yg q109
        go_wp2_with (first | ((with_reducible refine gate_dst (N := 8) rfl ?_); refine box_event ?hg (N := 8) ?hd (cs := #[.int .i64 0, .string (⟨#[]⟩ : ByteArray), .int .i64 0]) (t := 68) ?hr ?_; (case hd => rfl); (case hg => rfl); (case hr => first | (go_simp; done) | (go_simp; rfl)); intro Z17 hg w11 hbox hb; have n0_ := zK (yb (yk (by (with_reducible repeat (first | apply zL | apply zM | apply zN)); exact HO_5.out) Z17 (Nat.le_of_eq hg.symm)) hb); have n1_ := zK (zP (g := Z16) (o := .cells #[.int .i64 a1_0, .string a1_1, .int .i64 a1_2] 68 (0, 0)) (by (with_reducible repeat (first | refine zF ?_ _ | refine zH ?_ | refine zG ?_ _)); exact Z0.out) hb); have n2_ := zK (yL (by repeat (first | (with_reducible first | exact HB.out | apply zJ | apply zD | apply zE | refine zI ?_ Z4.out) | exact HB.out)) hb); have n3_ := zK (hbox); have n4_ := zK ((by rw [hg]; exact (yK (by repeat (first | (with_reducible first | exact HB.out | apply zJ | apply zD | apply zE | refine zI ?_ Z4.out) | exact HB.out))) : w.heap.size ≤ Z17)); have n5_ := zK ((by rw [hg]; exact (yK (by repeat (first | (with_reducible first | exact HB.out | apply zJ | apply zD | apply zE | refine zI ?_ Z4.out) | exact HB.out))) : w.heap.size ≤ Z17)); have n6_ := zK ((by rw [hg]; exact ym (yo (g := Z16) (o := .cells #[.int .i64 a1_0, .string a1_1, .int .i64 a1_2] 68 (0, 0)) (by (with_reducible repeat (first | refine zF ?_ _ | refine zH ?_ | refine zG ?_ _)); exact Z0.out)) : Z16 ≠ Z17)); have n7_ := zK ((by rw [hg]; exact yn (yo (g := Z16) (o := .cells #[.int .i64 a1_0, .string a1_1, .int .i64 a1_2] 68 (0, 0)) (by (with_reducible repeat (first | refine zF ?_ _ | refine zH ?_ | refine zG ?_ _)); exact Z0.out)) : Z17 ≠ Z16)); clear HO_5 Z0 HB; have HO_5 := n0_; have Z0 := n1_; have HB := n2_; have Z1 := n3_; have Z9 := n4_; have Z5 := n5_; have Z12 := n6_; have Z13 := n7_; clear n0_ n1_ n2_ n3_ n4_ n5_ n6_ n7_ hb hbox hg; have hnb12 := Z13.out; have hnc12 := Z12.out; have hcz13_0 : w11.cell? ⟨Z17, 0, none⟩ = some (.int .i64 0) := (zO Z1.out 0).trans rfl; have hcz13_1 : w11.cell? ⟨Z17, 1, none⟩ = some (.string (⟨#[]⟩ : ByteArray)) := (zO Z1.out 1).trans rfl; have hcz13_2 : w11.cell? ⟨Z17, 2, none⟩ = some (.int .i64 0) := (zO Z1.out 2).trans rfl; have hfz13_0 := yE Z1.out 0; have hfz13_1 := yE Z1.out 1; have hfz13_2 := yE Z1.out 2) | ((with_reducible refine gate_builtin (b := .append) (xs := #[.tmp 29, .tmp 31]) rfl ?_); at_builtin; refine Kd.R_append k68 (w0 := w) w.heap.size rfl (.tmp 29) (.tmp 31) 52 68 (.agg #[(.int .i64 0), (.string ⟨#[]⟩), (.int .i64 0)]) 32 rfl Try.underlying52 info68 rfl (by decide) (by omega) u5 x5_1 (⟨(rd_T68 l0 x12_1).f0, (rd_T68 l0 x12_1).f1, (rd_T68 l0 x12_1).f2⟩ : S68) [.int .i64 ((rd_T68 l0 x12_1).f0), .string ((rd_T68 l0 x12_1).f1), .int .i64 ((rd_T68 l0 x12_1).f2)] (fun k_ => k_ ≠ Z16 ∧ k_ ≠ Z17) (fun _ => False) rfl (by first | (go_simp; done) | (go_simp; rfl)) ?aP (fun _ hk => hk.elim) ?aF ?aO ?aB ?aS ?aL ?_; (case aP => exact k68_mkM _ _ _ (⟨(rd_T68 l0 x12_1).f0, (rd_T68 l0 x12_1).f1, (rd_T68 l0 x12_1).f2⟩ : S68)); (case aB => exact (by repeat (first | (with_reducible first | exact HB.out | apply zJ | apply zD | apply zE | refine zI ?_ Z4.out | refine zI ?_ Z5.out) | exact HB.out))); (case aF => exact (fun k_ hk => ⟨Kd.freshB (g := Z16) (o := .cells #[.int .i64 a1_0, .string a1_1, .int .i64 a1_2] 68 (0, 0)) (by (with_reducible repeat (first | refine zF ?_ _ | refine zH ?_ | refine zG ?_ _)); refine blk_far ?_ Z12.out _; (with_reducible repeat (first | refine zF ?_ _ | refine zH ?_ | refine zG ?_ _)); refine blk_far ?_ Z12.out _; (with_reducible repeat (first | refine zF ?_ _ | refine zH ?_ | refine zG ?_ _)); refine blk_far ?_ Z12.out _; (with_reducible repeat (first | refine zF ?_ _ | refine zH ?_ | refine zG ?_ _)); exact Z0.out) k_ hk, Kd.freshB (g := Z17) (o := .cells #[.int .i64 ((rd_T68 l0 x12_1).f0), .string ((rd_T68 l0 x12_1).f1), .int .i64 ((rd_T68 l0 x12_1).f2)] 68 (0, 0)) (by (with_reducible repeat (first | refine zF ?_ _ | refine zH ?_ | refine zG ?_ _)); refine blk_put (cs := #[.int .i64 ((rd_T68 l0 x12_1).f0), .string ((rd_T68 l0 x12_1).f1), .int .i64 0]) ?_ 2 _ rfl; (with_reducible repeat (first | refine zF ?_ _ | refine zH ?_ | refine zG ?_ _)); refine blk_put (cs := #[.int .i64 ((rd_T68 l0 x12_1).f0), .string (⟨#[]⟩ : ByteArray), .int .i64 0]) ?_ 1 _ rfl; (with_reducible repeat (first | refine zF ?_ _ | refine zH ?_ | refine zG ?_ _)); refine blk_put (cs := #[.int .i64 0, .string (⟨#[]⟩ : ByteArray), .int .i64 0]) ?_ 0 _ rfl; (with_reducible repeat (first | refine zF ?_ _ | refine zH ?_ | refine zG ?_ _)); exact Z1.out) k_ hk⟩)); (case aO => exact (by (with_reducible repeat (first | apply zL | apply zM | apply zN)); exact yd (Kd.R_far (p := ⟨Z17, 2, none⟩) (Kd.R_far (p := ⟨Z17, 1, none⟩) (Kd.R_far (p := ⟨Z17, 0, none⟩) (yd HO_5.out (fun k_ hk => (⟨hk, hk.2⟩ : _ ∧ k_ ≠ Z17))) (fun _ hk => hk.2) (.int .i64 ((rd_T68 l0 x12_1).f0))) (fun _ hk => hk.2) (.string ((rd_T68 l0 x12_1).f1))) (fun _ hk => hk.2) (.int .i64 ((rd_T68 l0 x12_1).f2))) (fun _ hk => ⟨hk.1.1, hk.1.2⟩))); (case aS => exact (yK (by repeat (first | (with_reducible first | exact HB.out | apply zJ | apply zD | apply zE | refine zI ?_ Z4.out | refine zI ?_ Z5.out) | exact HB.out)))); (case aL => have := LMc10.out; omega); intro v112 w14 ho hb hg hat; rw [← Ny111.out] at ho; have n0_ := zK (blk_grown (g := Z16) (o := .cells #[.int .i64 a1_0, .string a1_1, .int .i64 a1_2] 68 (0, 0)) (by (with_reducible repeat (first | refine zF ?_ _ | refine zH ?_ | refine zG ?_ _)); refine blk_far ?_ Z12.out _; (with_reducible repeat (first | refine zF ?_ _ | refine zH ?_ | refine zG ?_ _)); refine blk_far ?_ Z12.out _; (with_reducible repeat (first | refine zF ?_ _ | refine zH ?_ | refine zG ?_ _)); refine blk_far ?_ Z12.out _; (with_reducible repeat (first | refine zF ?_ _ | refine zH ?_ | refine zG ?_ _)); exact Z0.out) hg (Kd.R_away HO_5.out (fun _ hk => hk.1))); have n1_ := zK (blk_grown (g := Z17) (o := .cells #[.int .i64 ((rd_T68 l0 x12_1).f0), .string ((rd_T68 l0 x12_1).f1), .int .i64 ((rd_T68 l0 x12_1).f2)] 68 (0, 0)) (by (with_reducible repeat (first | refine zF ?_ _ | refine zH ?_ | refine zG ?_ _)); refine blk_put (cs := #[.int .i64 ((rd_T68 l0 x12_1).f0), .string ((rd_T68 l0 x12_1).f1), .int .i64 0]) ?_ 2 _ rfl; (with_reducible repeat (first | refine zF ?_ _ | refine zH ?_ | refine zG ?_ _)); refine blk_put (cs := #[.int .i64 ((rd_T68 l0 x12_1).f0), .string (⟨#[]⟩ : ByteArray), .int .i64 0]) ?_ 1 _ rfl; (with_reducible repeat (first | refine zF ?_ _ | refine zH ?_ | refine zG ?_ _)); refine blk_put (cs := #[.int .i64 0, .string (⟨#[]⟩ : ByteArray), .int .i64 0]) ?_ 0 _ rfl; (with_reducible repeat (first | refine zF ?_ _ | refine zH ?_ | refine zG ?_ _)); exact Z1.out) hg (Kd.R_away HO_5.out (fun _ hk => hk.2))); have n2_ := zK (hb); have n3_ := zK (ho); clear Z0 Z1 HB HO_5; have Z0 := n0_; have Z1 := n1_; have HB := n2_; have HO113 := n3_; clear n0_ n1_ n2_ n3_ ho hb hg hat))
        go_roundg k1
        case measure => have := HK1.out; omega
        case rel => exact ⟨(y111), (true), (wrap64 (x12_1 + 1)), (by first | rfl | (simp; done) | (simp [*]; done)), (by first | rfl | (simp; done) | (simp [*]; done)), H', ⟨by have := HK1.out; omega⟩, ⟨by (with_reducible repeat (first | apply zL | apply zM | apply zN)); exact yd HO113.out (fun _ hk => hk.1)⟩, ⟨by (with_reducible repeat (first | refine zF ?_ _ | refine zH ?_ | refine zG ?_ _)); exact Z0.out⟩, ⟨by repeat (first | (with_reducible first | exact HB.out | apply zJ | apply zD | apply zE | refine zI ?_ Z4.out | refine zI ?_ Z5.out) | exact HB.out)⟩⟩
       ·rw [if_neg c10] at H
        exact absurd H (by simp)
      ·replace c9 := yh.mpr c9
       subst c9
       have H1 : (if a1_0 < ((rd_T68 l0 x12_1).f0) then (if x5_1.length < 4398046511104 then ((some (x5_1 ++ [(⟨a1_0, a1_1, a1_2⟩ : S68)] : List (S68))).bind fun y114 => (if y114.length < 4398046511104 then (r06_in.l0 k1 (y114 ++ [(⟨(rd_T68 l0 x12_1).f0, (rd_T68 l0 x12_1).f1, (rd_T68 l0 x12_1).f2⟩ : S68)]) true l0 (l0.length : Int) (wrap64 (x12_1 + 1)) a1_0 a1_1 a1_2) else (none))) else (none)) else (if x5_1.length < 4398046511104 then (r06_in.l0 k1 (x5_1 ++ [(⟨(rd_T68 l0 x12_1).f0, (rd_T68 l0 x12_1).f1, (rd_T68 l0 x12_1).f2⟩ : S68)]) false l0 (l0.length : Int) (wrap64 (x12_1 + 1)) a1_0 a1_1 a1_2) else (none))) = some r := by rw [if_neg (show ¬ (false = true) by decide)] at H; exact H
       clear H
       have H := H1
       clear H1
       by_cases c15 : a1_0 < ((rd_T68 l0 x12_1).f0)
       ·rw [if_pos c15] at H
        have c15b0 : decide (a1_0 < ((rd_T68 l0 x12_1).f0)) = true := yC c15
        clear c15
        by_cases c16 : x5_1.length < 4398046511104
        ·rw [if_pos c16] at H
         have LMc16 := zK c16
         clear c16
         obtain ⟨y114, hy114⟩ : ∃ y_ : List (S68), y_ = (x5_1 ++ [(⟨a1_0, a1_1, a1_2⟩ : S68)]) := ⟨_, rfl⟩
         replace H : (if y114.length < 4398046511104 then (r06_in.l0 k1 (y114 ++ [(⟨(rd_T68 l0 x12_1).f0, (rd_T68 l0 x12_1).f1, (rd_T68 l0 x12_1).f2⟩ : S68)]) true l0 (l0.length : Int) (wrap64 (x12_1 + 1)) a1_0 a1_1 a1_2) else (none)) = some r := by first | (rw [hy114]; with_reducible exact H) | (have H2_ := (yV _ _).symm.trans H; rw [hy114]; with_reducible exact H2_) | (have H2_ := (yV _ _).symm.trans H; with_reducible exact H2_) | with_reducible exact H | (rw [hy114]; exact H) | exact H
         have Ny114 := zK hy114
         clear hy114
         by_cases c17 : y114.length < 4398046511104
         ·rw [if_pos c17] at H
          have LMc17 := zK c17
          clear c17
          obtain ⟨y117, hy117⟩ : ∃ y_ : List (S68), y_ = (y114 ++ [(⟨(rd_T68 l0 x12_1).f0, (rd_T68 l0 x12_1).f1, (rd_T68 l0 x12_1).f2⟩ : S68)]) := ⟨_, rfl⟩
          replace H : (r06_in.l0 k1 y117 true l0 (l0.length : Int) (wrap64 (x12_1 + 1)) a1_0 a1_1 a1_2) = some r := by first | (rw [hy117]; with_reducible exact H) | (have H2_ := (yV _ _).symm.trans H; rw [hy117]; with_reducible exact H2_) | (have H2_ := (yV _ _).symm.trans H; with_reducible exact H2_) | with_reducible exact H | (rw [hy117]; exact H) | exact H
          have Ny117 := zK hy117
          clear hy117
          have H' := zK H
          clear H
          have p109 : 0 ≤ (x12_1 : Int) := yB (by first | (with_reducible assumption) | assumption)
          have q109 : x12_1 < (l0.length : Int) := yB (by first | (with_reducible assumption) | assumption)
          obtain ⟨ad109, e109, hx109_0, hx109_1, hx109_2⟩ := at_T68 HR0.out x12_1 p109 q109
          cases e109
          replace hx109_0 := (HB.out.cell (World.block_lt_of_cell? w _ hx109_0)).trans hx109_0
          replace hx109_1 := (HB.out.cell (World.block_lt_of_cell? w _ hx109_1)).trans hx109_1
          replace hx109_2 := (HB.out.cell (World.block_lt_of_cell? w _ hx109_2)).trans hx109_2
          replace p109 := yg p109
          replace q109 := yg q109
          go_wp2_with (first | ((with_reducible refine gate_dst (N := 8) rfl ?_); refine box_event ?hg (N := 8) ?hd (cs := #[.int .i64 0, .string (⟨#[]⟩ : ByteArray), .int .i64 0]) (t := 68) ?hr ?_; (case hd => rfl); (case hg => rfl); (case hr => first | (go_simp; done) | (go_simp; rfl)); intro Z17 hg w18 hbox hb; have n0_ := zK (yb (yk (by (with_reducible repeat (first | apply zL | apply zM | apply zN)); exact HO_5.out) Z17 (Nat.le_of_eq hg.symm)) hb); have n1_ := zK (zP (g := Z16) (o := .cells #[.int .i64 a1_0, .string a1_1, .int .i64 a1_2] 68 (0, 0)) (by (with_reducible repeat (first | refine zF ?_ _ | refine zH ?_ | refine zG ?_ _)); exact Z0.out) hb); have n2_ := zK (yL (by repeat (first | (with_reducible first | exact HB.out | apply zJ | apply zD | apply zE | refine zI ?_ Z4.out) | exact HB.out)) hb); have n3_ := zK (hbox); have n4_ := zK ((by rw [hg]; exact (yK (by repeat (first | (with_reducible first | exact HB.out | apply zJ | apply zD | apply zE | refine zI ?_ Z4.out) | exact HB.out))) : w.heap.size ≤ Z17)); have n5_ := zK ((by rw [hg]; exact (yK (by repeat (first | (with_reducible first | exact HB.out | apply zJ | apply zD | apply zE | refine zI ?_ Z4.out) | exact HB.out))) : w.heap.size ≤ Z17)); have n6_ := zK ((by rw [hg]; exact ym (yo (g := Z16) (o := .cells #[.int .i64 a1_0, .string a1_1, .int .i64 a1_2] 68 (0, 0)) (by (with_reducible repeat (first | refine zF ?_ _ | refine zH ?_ | refine zG ?_ _)); exact Z0.out)) : Z16 ≠ Z17)); have n7_ := zK ((by rw [hg]; exact yn (yo (g := Z16) (o := .cells #[.int .i64 a1_0, .string a1_1, .int .i64 a1_2] 68 (0, 0)) (by (with_reducible repeat (first | refine zF ?_ _ | refine zH ?_ | refine zG ?_ _)); exact Z0.out)) : Z17 ≠ Z16)); clear HO_5 Z0 HB; have HO_5 := n0_; have Z0 := n1_; have HB := n2_; have Z1 := n3_; have Z9 := n4_; have Z5 := n5_; have Z12 := n6_; have Z13 := n7_; clear n0_ n1_ n2_ n3_ n4_ n5_ n6_ n7_ hb hbox hg; have hnb19 := Z13.out; have hnc19 := Z12.out; have hcz20_0 : w18.cell? ⟨Z17, 0, none⟩ = some (.int .i64 0) := (zO Z1.out 0).trans rfl; have hcz20_1 : w18.cell? ⟨Z17, 1, none⟩ = some (.string (⟨#[]⟩ : ByteArray)) := (zO Z1.out 1).trans rfl; have hcz20_2 : w18.cell? ⟨Z17, 2, none⟩ = some (.int .i64 0) := (zO Z1.out 2).trans rfl; have hfz20_0 := yE Z1.out 0; have hfz20_1 := yE Z1.out 1; have hfz20_2 := yE Z1.out 2; have hcz21_0 : w18.cell? ⟨Z16, 0, none⟩ = some (.int .i64 a1_0) := (zO Z0.out 0).trans rfl; have hcz21_1 : w18.cell? ⟨Z16, 1, none⟩ = some (.string a1_1) := (zO Z0.out 1).trans rfl; have hcz21_2 : w18.cell? ⟨Z16, 2, none⟩ = some (.int .i64 a1_2) := (zO Z0.out 2).trans rfl; have hfz21_0 := yE Z0.out 0; have hfz21_1 := yE Z0.out 1; have hfz21_2 := yE Z0.out 2) | ((with_reducible refine gate_builtin (b := .append) (xs := #[.tmp 25, .tmp 27]) rfl ?_); at_builtin; refine Kd.R_append k68 (w0 := w) w.heap.size rfl (.tmp 25) (.tmp 27) 52 68 (.agg #[(.int .i64 0), (.string ⟨#[]⟩), (.int .i64 0)]) 32 rfl Try.underlying52 info68 rfl (by decide) (by omega) u5 x5_1 (⟨a1_0, a1_1, a1_2⟩ : S68) [.int .i64 a1_0, .string a1_1, .int .i64 a1_2] (fun k_ => k_ ≠ Z16 ∧ k_ ≠ Z17) (fun _ => False) rfl (by first | (go_simp; done) | (go_simp; rfl)) ?aP (fun _ hk => hk.elim) ?aF ?aO ?aB ?aS ?aL ?_; (case aP => exact k68_mkM _ _ _ (⟨a1_0, a1_1, a1_2⟩ : S68)); (case aB => exact (by repeat (first | (with_reducible first | exact HB.out | apply zJ | apply zD | apply zE | refine zI ?_ Z4.out | refine zI ?_ Z5.out) | exact HB.out))); (case aF => exact (fun k_ hk => ⟨Kd.freshB (g := Z16) (o := .cells #[.int .i64 a1_0, .string a1_1, .int .i64 a1_2] 68 (0, 0)) (by (with_reducible repeat (first | refine zF ?_ _ | refine zH ?_ | refine zG ?_ _)); refine blk_far ?_ Z12.out _; (with_reducible repeat (first | refine zF ?_ _ | refine zH ?_ | refine zG ?_ _)); refine blk_far ?_ Z12.out _; (with_reducible repeat (first | refine zF ?_ _ | refine zH ?_ | refine zG ?_ _)); refine blk_far ?_ Z12.out _; (with_reducible repeat (first | refine zF ?_ _ | refine zH ?_ | refine zG ?_ _)); exact Z0.out) k_ hk, Kd.freshB (g := Z17) (o := .cells #[.int .i64 ((rd_T68 l0 x12_1).f0), .string ((rd_T68 l0 x12_1).f1), .int .i64 ((rd_T68 l0 x12_1).f2)] 68 (0, 0)) (by (with_reducible repeat (first | refine zF ?_ _ | refine zH ?_ | refine zG ?_ _)); refine blk_put (cs := #[.int .i64 ((rd_T68 l0 x12_1).f0), .string ((rd_T68 l0 x12_1).f1), .int .i64 0]) ?_ 2 _ rfl; (with_reducible repeat (first | refine zF ?_ _ | refine zH ?_ | refine zG ?_ _)); refine blk_put (cs := #[.int .i64 ((rd_T68 l0 x12_1).f0), .string (⟨#[]⟩ : ByteArray), .int .i64 0]) ?_ 1 _ rfl; (with_reducible repeat (first | refine zF ?_ _ | refine zH ?_ | refine zG ?_ _)); refine blk_put (cs := #[.int .i64 0, .string (⟨#[]⟩ : ByteArray), .int .i64 0]) ?_ 0 _ rfl; (with_reducible repeat (first | refine zF ?_ _ | refine zH ?_ | refine zG ?_ _)); exact Z1.out) k_ hk⟩)); (case aO => exact (by (with_reducible repeat (first | apply zL | apply zM | apply zN)); exact yd (Kd.R_far (p := ⟨Z17, 2, none⟩) (Kd.R_far (p := ⟨Z17, 1, none⟩) (Kd.R_far (p := ⟨Z17, 0, none⟩) (yd HO_5.out (fun k_ hk => (⟨hk, hk.2⟩ : _ ∧ k_ ≠ Z17))) (fun _ hk => hk.2) (.int .i64 ((rd_T68 l0 x12_1).f0))) (fun _ hk => hk.2) (.string ((rd_T68 l0 x12_1).f1))) (fun _ hk => hk.2) (.int .i64 ((rd_T68 l0 x12_1).f2))) (fun _ hk => ⟨hk.1.1, hk.1.2⟩))); (case aS => exact (yK (by repeat (first | (with_reducible first | exact HB.out | apply zJ | apply zD | apply zE | refine zI ?_ Z4.out | refine zI ?_ Z5.out) | exact HB.out)))); (case aL => have := LMc16.out; omega); intro v115 w22 ho hb hg hat; rw [← Ny114.out] at ho; have n0_ := zK (blk_grown (g := Z16) (o := .cells #[.int .i64 a1_0, .string a1_1, .int .i64 a1_2] 68 (0, 0)) (by (with_reducible repeat (first | refine zF ?_ _ | refine zH ?_ | refine zG ?_ _)); refine blk_far ?_ Z12.out _; (with_reducible repeat (first | refine zF ?_ _ | refine zH ?_ | refine zG ?_ _)); refine blk_far ?_ Z12.out _; (with_reducible repeat (first | refine zF ?_ _ | refine zH ?_ | refine zG ?_ _)); refine blk_far ?_ Z12.out _; (with_reducible repeat (first | refine zF ?_ _ | refine zH ?_ | refine zG ?_ _)); exact Z0.out) hg (Kd.R_away HO_5.out (fun _ hk => hk.1))); have n1_ := zK (blk_grown (g := Z17) (o := .cells #[.int .i64 ((rd_T68 l0 x12_1).f0), .string ((rd_T68 l0 x12_1).f1), .int .i64 ((rd_T68 l0 x12_1).f2)] 68 (0, 0)) (by (with_reducible repeat (first | refine zF ?_ _ | refine zH ?_ | refine zG ?_ _)); refine blk_put (cs := #[.int .i64 ((rd_T68 l0 x12_1).f0), .string ((rd_T68 l0 x12_1).f1), .int .i64 0]) ?_ 2 _ rfl; (with_reducible repeat (first | refine zF ?_ _ | refine zH ?_ | refine zG ?_ _)); refine blk_put (cs := #[.int .i64 ((rd_T68 l0 x12_1).f0), .string (⟨#[]⟩ : ByteArray), .int .i64 0]) ?_ 1 _ rfl; (with_reducible repeat (first | refine zF ?_ _ | refine zH ?_ | refine zG ?_ _)); refine blk_put (cs := #[.int .i64 0, .string (⟨#[]⟩ : ByteArray), .int .i64 0]) ?_ 0 _ rfl; (with_reducible repeat (first | refine zF ?_ _ | refine zH ?_ | refine zG ?_ _)); exact Z1.out) hg (Kd.R_away HO_5.out (fun _ hk => hk.2))); have n2_ := zK (hb); have n3_ := zK (ho); clear Z0 Z1 HB HO_5; have Z0 := n0_; have Z1 := n1_; have HB := n2_; have HO116 := n3_; clear n0_ n1_ n2_ n3_ ho hb hg hat; have hcz23_0 : w22.cell? ⟨Z17, 0, none⟩ = some (.int .i64 ((rd_T68 l0 x12_1).f0)) := (zO Z1.out 0).trans rfl; have hcz23_1 : w22.cell? ⟨Z17, 1, none⟩ = some (.string ((rd_T68 l0 x12_1).f1)) := (zO Z1.out 1).trans rfl; have hcz23_2 : w22.cell? ⟨Z17, 2, none⟩ = some (.int .i64 ((rd_T68 l0 x12_1).f2)) := (zO Z1.out 2).trans rfl; have hfz23_0 := yE Z1.out 0; have hfz23_1 := yE Z1.out 1; have hfz23_2 := yE Z1.out 2) | ((with_reducible refine gate_builtin (b := .append) (xs := #[.tmp 29, .tmp 31]) rfl ?_); at_builtin; refine Kd.R_append k68 (w0 := w) w.heap.size rfl (.tmp 29) (.tmp 31) 52 68 (.agg #[(.int .i64 0), (.string ⟨#[]⟩), (.int .i64 0)]) 32 rfl Try.underlying52 info68 rfl (by decide) (by omega) v115 y114 (⟨(rd_T68 l0 x12_1).f0, (rd_T68 l0 x12_1).f1, (rd_T68 l0 x12_1).f2⟩ : S68) [.int .i64 ((rd_T68 l0 x12_1).f0), .string ((rd_T68 l0 x12_1).f1), .int .i64 ((rd_T68 l0 x12_1).f2)] (fun k_ => k_ ≠ Z16 ∧ k_ ≠ Z17) (fun _ => False) rfl rfl ?aP (fun _ hk => hk.elim) ?aF ?aO ?aB ?aS ?aL ?_; (case aP => exact k68_mkM _ _ _ (⟨(rd_T68 l0 x12_1).f0, (rd_T68 l0 x12_1).f1, (rd_T68 l0 x12_1).f2⟩ : S68)); (case aB => exact (by repeat (first | (with_reducible first | exact HB.out | apply zJ | apply zD | apply zE | refine zI ?_ Z4.out | refine zI ?_ Z5.out) | exact HB.out))); (case aF => exact (fun k_ hk => ⟨Kd.freshB (g := Z16) (o := .cells #[.int .i64 a1_0, .string a1_1, .int .i64 a1_2] 68 (0, 0)) (by (with_reducible repeat (first | refine zF ?_ _ | refine zH ?_ | refine zG ?_ _)); exact Z0.out) k_ hk, Kd.freshB (g := Z17) (o := .cells #[.int .i64 ((rd_T68 l0 x12_1).f0), .string ((rd_T68 l0 x12_1).f1), .int .i64 ((rd_T68 l0 x12_1).f2)] 68 (0, 0)) (by (with_reducible repeat (first | refine zF ?_ _ | refine zH ?_ | refine zG ?_ _)); exact Z1.out) k_ hk⟩)); (case aO => exact (by (with_reducible repeat (first | apply zL | apply zM | apply zN)); exact HO116.out)); (case aS => exact (yK (by repeat (first | (with_reducible first | exact HB.out | apply zJ | apply zD | apply zE | refine zI ?_ Z4.out | refine zI ?_ Z5.out) | exact HB.out)))); (case aL => have := LMc17.out; omega); intro v118 w24 ho hb hg hat; rw [← Ny117.out] at ho; have n0_ := zK (blk_grown (g := Z16) (o := .cells #[.int .i64 a1_0, .string a1_1, .int .i64 a1_2] 68 (0, 0)) (by (with_reducible repeat (first | refine zF ?_ _ | refine zH ?_ | refine zG ?_ _)); exact Z0.out) hg (Kd.R_away HO116.out (fun _ hk => hk.1))); have n1_ := zK (blk_grown (g := Z17) (o := .cells #[.int .i64 ((rd_T68 l0 x12_1).f0), .string ((rd_T68 l0 x12_1).f1), .int .i64 ((rd_T68 l0 x12_1).f2)] 68 (0, 0)) (by (with_reducible repeat (first | refine zF ?_ _ | refine zH ?_ | refine zG ?_ _)); exact Z1.out) hg (Kd.R_away HO116.out (fun _ hk => hk.2))); have n2_ := zK (hb); have n3_ := zK (ho); clear Z0 Z1 HB HO116; have Z0 := n0_; have Z1 := n1_; have HB := n2_; have HO119 := n3_; clear n0_ n1_ n2_ n3_ ho hb hg hat))
          go_roundg k1
          case measure => have := HK1.out; omega
          case rel => exact ⟨(y117), (true), (wrap64 (x12_1 + 1)), (by first | rfl | (simp; done) | (simp [*]; done)), (by first | rfl | (simp; done) | (simp [*]; done)), H', ⟨by have := HK1.out; omega⟩, ⟨by (with_reducible repeat (first | apply zL | apply zM | apply zN)); exact yd HO119.out (fun _ hk => hk.1)⟩, ⟨by (with_reducible repeat (first | refine zF ?_ _ | refine zH ?_ | refine zG ?_ _)); exact Z0.out⟩, ⟨by repeat (first | (with_reducible first | exact HB.out | apply zJ | apply zD | apply zE | refine zI ?_ Z4.out | refine zI ?_ Z5.out) | exact HB.out)⟩⟩
         ·rw [if_neg c17] at H
          exact absurd H (by simp)
        ·rw [if_neg c16] at H
         exact absurd H (by simp)
       ·rw [if_neg c15] at H
        have c15b0 : decide (a1_0 < ((rd_T68 l0 x12_1).f0)) = false := yD c15
        clear c15
        by_cases c25 : x5_1.length < 4398046511104
        ·rw [if_pos c25] at H
         have LMc25 := zK c25
         clear c25
         obtain ⟨y120, hy120⟩ : ∃ y_ : List (S68), y_ = (x5_1 ++ [(⟨(rd_T68 l0 x12_1).f0, (rd_T68 l0 x12_1).f1, (rd_T68 l0 x12_1).f2⟩ : S68)]) := ⟨_, rfl⟩
         replace H : (r06_in.l0 k1 y120 false l0 (l0.length : Int) (wrap64 (x12_1 + 1)) a1_0 a1_1 a1_2) = some r := by first | (rw [hy120]; with_reducible exact H) | (have H2_ := (yV _ _).symm.trans H; rw [hy120]; with_reducible exact H2_) | (have H2_ := (yV _ _).symm.trans H; with_reducible exact H2_) | with_reducible exact H | (rw [hy120]; exact H) | exact H
         have Ny120 := zK hy120
         clear hy120
         have H' := zK H
         clear H
         have p109 : 0 ≤ (x12_1 : Int) := yB (by first | (with_reducible assumption) | assumption)
         have q109 : x12_1 < (l0.length : Int) := yB (by first | (with_reducible assumption) | assumption)
         obtain ⟨ad109, e109, hx109_0, hx109_1, hx109_2⟩ := at_T68 HR0.out x12_1 p109 q109
         cases e109
         replace hx109_0 := (HB.out.cell (World.block_lt_of_cell? w _ hx109_0)).trans hx109_0
         replace hx109_1 := (HB.out.cell (World.block_lt_of_cell? w _ hx109_1)).trans hx109_1
         replace hx109_2 := (HB.out.cell (World.block_lt_of_cell? w _ hx109_2)).trans hx109_2
         replace p109 := yg p109
         replace q109 := yg q109
         go_wp2_with (first | ((with_reducible refine gate_dst (N := 8) rfl ?_); refine box_event ?hg (N := 8) ?hd (cs := #[.int .i64 0, .string (⟨#[]⟩ : ByteArray), .int .i64 0]) (t := 68) ?hr ?_; (case hd => rfl); (case hg => rfl); (case hr => first | (go_simp; done) | (go_simp; rfl)); intro Z17 hg w26 hbox hb; have n0_ := zK (yb (yk (by (with_reducible repeat (first | apply zL | apply zM | apply zN)); exact HO_5.out) Z17 (Nat.le_of_eq hg.symm)) hb); have n1_ := zK (zP (g := Z16) (o := .cells #[.int .i64 a1_0, .string a1_1, .int .i64 a1_2] 68 (0, 0)) (by (with_reducible repeat (first | refine zF ?_ _ | refine zH ?_ | refine zG ?_ _)); exact Z0.out) hb); have n2_ := zK (yL (by repeat (first | (with_reducible first | exact HB.out | apply zJ | apply zD | apply zE | refine zI ?_ Z4.out) | exact HB.out)) hb); have n3_ := zK (hbox); have n4_ := zK ((by rw [hg]; exact (yK (by repeat (first | (with_reducible first | exact HB.out | apply zJ | apply zD | apply zE | refine zI ?_ Z4.out) | exact HB.out))) : w.heap.size ≤ Z17)); have n5_ := zK ((by rw [hg]; exact (yK (by repeat (first | (with_reducible first | exact HB.out | apply zJ | apply zD | apply zE | refine zI ?_ Z4.out) | exact HB.out))) : w.heap.size ≤ Z17)); have n6_ := zK ((by rw [hg]; exact ym (yo (g := Z16) (o := .cells #[.int .i64 a1_0, .string a1_1, .int .i64 a1_2] 68 (0, 0)) (by (with_reducible repeat (first | refine zF ?_ _ | refine zH ?_ | refine zG ?_ _)); exact Z0.out)) : Z16 ≠ Z17)); have n7_ := zK ((by rw [hg]; exact yn (yo (g := Z16) (o := .cells #[.int .i64 a1_0, .string a1_1, .int .i64 a1_2] 68 (0, 0)) (by (with_reducible repeat (first | refine zF ?_ _ | refine zH ?_ | refine zG ?_ _)); exact Z0.out)) : Z17 ≠ Z16)); clear HO_5 Z0 HB; have HO_5 := n0_; have Z0 := n1_; have HB := n2_; have Z1 := n3_; have Z9 := n4_; have Z5 := n5_; have Z12 := n6_; have Z13 := n7_; clear n0_ n1_ n2_ n3_ n4_ n5_ n6_ n7_ hb hbox hg; have hnb27 := Z13.out; have hnc27 := Z12.out; have hcz28_0 : w26.cell? ⟨Z17, 0, none⟩ = some (.int .i64 0) := (zO Z1.out 0).trans rfl; have hcz28_1 : w26.cell? ⟨Z17, 1, none⟩ = some (.string (⟨#[]⟩ : ByteArray)) := (zO Z1.out 1).trans rfl; have hcz28_2 : w26.cell? ⟨Z17, 2, none⟩ = some (.int .i64 0) := (zO Z1.out 2).trans rfl; have hfz28_0 := yE Z1.out 0; have hfz28_1 := yE Z1.out 1; have hfz28_2 := yE Z1.out 2; have hcz29_0 : w26.cell? ⟨Z16, 0, none⟩ = some (.int .i64 a1_0) := (zO Z0.out 0).trans rfl; have hcz29_1 : w26.cell? ⟨Z16, 1, none⟩ = some (.string a1_1) := (zO Z0.out 1).trans rfl; have hcz29_2 : w26.cell? ⟨Z16, 2, none⟩ = some (.int .i64 a1_2) := (zO Z0.out 2).trans rfl; have hfz29_0 := yE Z0.out 0; have hfz29_1 := yE Z0.out 1; have hfz29_2 := yE Z0.out 2) | ((with_reducible refine gate_builtin (b := .append) (xs := #[.tmp 29, .tmp 31]) rfl ?_); at_builtin; refine Kd.R_append k68 (w0 := w) w.heap.size rfl (.tmp 29) (.tmp 31) 52 68 (.agg #[(.int .i64 0), (.string ⟨#[]⟩), (.int .i64 0)]) 32 rfl Try.underlying52 info68 rfl (by decide) (by omega) u5 x5_1 (⟨(rd_T68 l0 x12_1).f0, (rd_T68 l0 x12_1).f1, (rd_T68 l0 x12_1).f2⟩ : S68) [.int .i64 ((rd_T68 l0 x12_1).f0), .string ((rd_T68 l0 x12_1).f1), .int .i64 ((rd_T68 l0 x12_1).f2)] (fun k_ => k_ ≠ Z16 ∧ k_ ≠ Z17) (fun _ => False) rfl (by first | (go_simp; done) | (go_simp; rfl)) ?aP (fun _ hk => hk.elim) ?aF ?aO ?aB ?aS ?aL ?_; (case aP => exact k68_mkM _ _ _ (⟨(rd_T68 l0 x12_1).f0, (rd_T68 l0 x12_1).f1, (rd_T68 l0 x12_1).f2⟩ : S68)); (case aB => exact (by repeat (first | (with_reducible first | exact HB.out | apply zJ | apply zD | apply zE | refine zI ?_ Z4.out | refine zI ?_ Z5.out) | exact HB.out))); (case aF => exact (fun k_ hk => ⟨Kd.freshB (g := Z16) (o := .cells #[.int .i64 a1_0, .string a1_1, .int .i64 a1_2] 68 (0, 0)) (by (with_reducible repeat (first | refine zF ?_ _ | refine zH ?_ | refine zG ?_ _)); refine blk_far ?_ Z12.out _; (with_reducible repeat (first | refine zF ?_ _ | refine zH ?_ | refine zG ?_ _)); refine blk_far ?_ Z12.out _; (with_reducible repeat (first | refine zF ?_ _ | refine zH ?_ | refine zG ?_ _)); refine blk_far ?_ Z12.out _; (with_reducible repeat (first | refine zF ?_ _ | refine zH ?_ | refine zG ?_ _)); exact Z0.out) k_ hk, Kd.freshB (g := Z17) (o := .cells #[.int .i64 ((rd_T68 l0 x12_1).f0), .string ((rd_T68 l0 x12_1).f1), .int .i64 ((rd_T68 l0 x12_1).f2)] 68 (0, 0)) (by (with_reducible repeat (first | refine zF ?_ _ | refine zH ?_ | refine zG ?_ _)); refine blk_put (cs := #[.int .i64 ((rd_T68 l0 x12_1).f0), .string ((rd_T68 l0 x12_1).f1), .int .i64 0]) ?_ 2 _ rfl; (with_reducible repeat (first | refine zF ?_ _ | refine zH ?_ | refine zG ?_ _)); refine blk_put (cs := #[.int .i64 ((rd_T68 l0 x12_1).f0), .string (⟨#[]⟩ : ByteArray), .int .i64 0]) ?_ 1 _ rfl; (with_reducible repeat (first | refine zF ?_ _ | refine zH ?_ | refine zG ?_ _)); refine blk_put (cs := #[.int .i64 0, .string (⟨#[]⟩ : ByteArray), .int .i64 0]) ?_ 0 _ rfl; (with_reducible repeat (first | refine zF ?_ _ | refine zH ?_ | refine zG ?_ _)); exact Z1.out) k_ hk⟩)); (case aO => exact (by (with_reducible repeat (first | apply zL | apply zM | apply zN)); exact yd (Kd.R_far (p := ⟨Z17, 2, none⟩) (Kd.R_far (p := ⟨Z17, 1, none⟩) (Kd.R_far (p := ⟨Z17, 0, none⟩) (yd HO_5.out (fun k_ hk => (⟨hk, hk.2⟩ : _ ∧ k_ ≠ Z17))) (fun _ hk => hk.2) (.int .i64 ((rd_T68 l0 x12_1).f0))) (fun _ hk => hk.2) (.string ((rd_T68 l0 x12_1).f1))) (fun _ hk => hk.2) (.int .i64 ((rd_T68 l0 x12_1).f2))) (fun _ hk => ⟨hk.1.1, hk.1.2⟩))); (case aS => exact (yK (by repeat (first | (with_reducible first | exact HB.out | apply zJ | apply zD | apply zE | refine zI ?_ Z4.out | refine zI ?_ Z5.out) | exact HB.out)))); (case aL => have := LMc25.out; omega); intro v121 w30 ho hb hg hat; rw [← Ny120.out] at ho; have n0_ := zK (blk_grown (g := Z16) (o := .cells #[.int .i64 a1_0, .string a1_1, .int .i64 a1_2] 68 (0, 0)) (by (with_reducible repeat (first | refine zF ?_ _ | refine zH ?_ | refine zG ?_ _)); refine blk_far ?_ Z12.out _; (with_reducible repeat (first | refine zF ?_ _ | refine zH ?_ | refine zG ?_ _)); refine blk_far ?_ Z12.out _; (with_reducible repeat (first | refine zF ?_ _ | refine zH ?_ | refine zG ?_ _)); refine blk_far ?_ Z12.out _; (with_reducible repeat (first | refine zF ?_ _ | refine zH ?_ | refine zG ?_ _)); exact Z0.out) hg (Kd.R_away HO_5.out (fun _ hk => hk.1))); have n1_ := zK (blk_grown (g := Z17) (o := .cells #[.int .i64 ((rd_T68 l0 x12_1).f0), .string ((rd_T68 l0 x12_1).f1), .int .i64 ((rd_T68 l0 x12_1).f2)] 68 (0, 0)) (by (with_reducible repeat (first | refine zF ?_ _ | refine zH ?_ | refine zG ?_ _)); refine blk_put (cs := #[.int .i64 ((rd_T68 l0 x12_1).f0), .string ((rd_T68 l0 x12_1).f1), .int .i64 0]) ?_ 2 _ rfl; (with_reducible repeat (first | refine zF ?_ _ | refine zH ?_ | refine zG ?_ _)); refine blk_put (cs := #[.int .i64 ((rd_T68 l0 x12_1).f0), .string (⟨#[]⟩ : ByteArray), .int .i64 0]) ?_ 1 _ rfl; (with_reducible repeat (first | refine zF ?_ _ | refine zH ?_ | refine zG ?_ _)); refine blk_put (cs := #[.int .i64 0, .string (⟨#[]⟩ : ByteArray), .int .i64 0]) ?_ 0 _ rfl; (with_reducible repeat (first | refine zF ?_ _ | refine zH ?_ | refine zG ?_ _)); exact Z1.out) hg (Kd.R_away HO_5.out (fun _ hk => hk.2))); have n2_ := zK (hb); have n3_ := zK (ho); clear Z0 Z1 HB HO_5; have Z0 := n0_; have Z1 := n1_; have HB := n2_; have HO122 := n3_; clear n0_ n1_ n2_ n3_ ho hb hg hat))
         go_roundg k1
         case measure => have := HK1.out; omega
         case rel => exact ⟨(y120), (false), (wrap64 (x12_1 + 1)), (by first | rfl | (simp; done) | (simp [*]; done)), (by first | rfl | (simp; done) | (simp [*]; done)), H', ⟨by have := HK1.out; omega⟩, ⟨by (with_reducible repeat (first | apply zL | apply zM | apply zN)); exact yd HO122.out (fun _ hk => hk.1)⟩, ⟨by (with_reducible repeat (first | refine zF ?_ _ | refine zH ?_ | refine zG ?_ _)); exact Z0.out⟩, ⟨by repeat (first | (with_reducible first | exact HB.out | apply zJ | apply zD | apply zE | refine zI ?_ Z4.out | refine zI ?_ Z5.out) | exact HB.out)⟩⟩
        ·rw [if_neg c25] at H
         exact absurd H (by simp)
     ·rw [if_neg c8] at H
      exact absurd H (by simp)
    ·rw [if_neg c7] at H
     exact absurd H (by simp)
   ·rw [if_neg c6] at H
    have c6b0 : decide (x12_1 < (l0.length : Int)) = false := yD c6
    clear c6
    by_cases c31 : x6_1 = true
    ·subst c31
     have H1 : (some x5_1) = some r := by rw [if_pos rfl] at H; exact H
     clear H
     have H := H1
     clear H1
     obtain rfl := yY H
     go_wp2
     go_ret
     exact ⟨_, by first | rfl | (simp [errW_none, errW_some] <;> rfl) | (simp [*, errW_none, errW_some] <;> rfl), by (with_reducible repeat (first | apply zL | apply zM | apply zN)); exact yd HO_5.out (fun _ hk => trivial), by repeat (first | (with_reducible first | exact HB.out | apply zJ | apply zD | apply zE | refine zI ?_ Z4.out) | exact HB.out)⟩
    ·replace c31 := yh.mpr c31
     subst c31
     have H1 : (if x5_1.length < 4398046511104 then (some (x5_1 ++ [(⟨a1_0, a1_1, a1_2⟩ : S68)])) else (none)) = some r := by rw [if_neg (show ¬ (false = true) by decide)] at H; exact H
     clear H
     have H := H1
     clear H1
     by_cases c32 : x5_1.length < 4398046511104
     ·rw [if_pos c32] at H
      have LMc32 := zK c32
      clear c32
      obtain ⟨y123, hy123⟩ : ∃ y_ : List (S68), y_ = (x5_1 ++ [(⟨a1_0, a1_1, a1_2⟩ : S68)]) := ⟨_, rfl⟩
      replace H : (some y123) = some r := by first | (rw [hy123]; with_reducible exact H) | (have H2_ := (yV _ _).symm.trans H; rw [hy123]; with_reducible exact H2_) | (have H2_ := (yV _ _).symm.trans H; with_reducible exact H2_) | with_reducible exact H | (rw [hy123]; exact H) | exact H
      have Ny123 := zK hy123
      clear hy123
      obtain rfl := yY H
      have hcz33_0 : wr.cell? ⟨Z16, 0, none⟩ = some (.int .i64 a1_0) := (zO Z0.out 0).trans rfl
      have hcz33_1 : wr.cell? ⟨Z16, 1, none⟩ = some (.string a1_1) := (zO Z0.out 1).trans rfl
      have hcz33_2 : wr.cell? ⟨Z16, 2, none⟩ = some (.int .i64 a1_2) := (zO Z0.out 2).trans rfl
      have hfz33_0 := yE Z0.out 0
      have hfz33_1 := yE Z0.out 1
      have hfz33_2 := yE Z0.out 2
      go_wp2_with (first | ((with_reducible refine gate_builtin (b := .append) (xs := #[.tmp 36, .tmp 38]) rfl ?_); at_builtin; refine Kd.R_append k68 (w0 := w) w.heap.size rfl (.tmp 36) (.tmp 38) 52 68 (.agg #[(.int .i64 0), (.string ⟨#[]⟩), (.int .i64 0)]) 32 rfl Try.underlying52 info68 rfl (by decide) (by omega) u5 x5_1 (⟨a1_0, a1_1, a1_2⟩ : S68) [.int .i64 a1_0, .string a1_1, .int .i64 a1_2] (fun k_ => k_ ≠ Z16) (fun _ => False) rfl rfl ?aP (fun _ hk => hk.elim) ?aF ?aO ?aB ?aS ?aL ?_; (case aP => exact k68_mkM _ _ _ (⟨a1_0, a1_1, a1_2⟩ : S68)); (case aB => exact (by repeat (first | (with_reducible first | exact HB.out | apply zJ | apply zD | apply zE | refine zI ?_ Z4.out) | exact HB.out))); (case aF => exact (fun k_ hk => Kd.freshB (g := Z16) (o := .cells #[.int .i64 a1_0, .string a1_1, .int .i64 a1_2] 68 (0, 0)) (by (with_reducible repeat (first | refine zF ?_ _ | refine zH ?_ | refine zG ?_ _)); exact Z0.out) k_ hk)); (case aO => exact (by (with_reducible repeat (first | apply zL | apply zM | apply zN)); exact HO_5.out)); (case aS => exact (yK (by repeat (first | (with_reducible first | exact HB.out | apply zJ | apply zD | apply zE | refine zI ?_ Z4.out) | exact HB.out)))); (case aL => have := LMc32.out; omega); intro v124 w34 ho hb hg hat; rw [← Ny123.out] at ho; have n0_ := zK (blk_grown (g := Z16) (o := .cells #[.int .i64 a1_0, .string a1_1, .int .i64 a1_2] 68 (0, 0)) (by (with_reducible repeat (first | refine zF ?_ _ | refine zH ?_ | refine zG ?_ _)); exact Z0.out) hg (Kd.R_away HO_5.out (fun _ hk => hk))); have n1_ := zK (hb); have n2_ := zK (ho); clear Z0 HB HO_5; have Z0 := n0_; have HB := n1_; have HO125 := n2_; clear n0_ n1_ n2_ ho hb hg hat))
      go_ret
      exact ⟨_, by first | rfl | (simp [errW_none, errW_some] <;> rfl) | (simp [*, errW_none, errW_some] <;> rfl), by (with_reducible repeat (first | apply zL | apply zM | apply zN)); exact yd HO125.out (fun _ hk => trivial), by repeat (first | (with_reducible first | exact HB.out | apply zJ | apply zD | apply zE | refine zI ?_ Z4.out) | exact HB.out)⟩
     ·rw [if_neg c32] at H
      exact absurd H (by simp)

/-! ### r06_Put: function 24 -/
def r06_Put.f (k : Nat) (a0_0 : Int) (l0_1 : List (S68)) (a0_2 : Int) (a1 : Int) (a2 : ByteArray) : Option (Int × (List (S68)) × Int × Int × Int) := if (l0_1.length : Int) ≥ a0_0 then (some (a0_0, l0_1, a0_2, 0, 61)) else ((r06_in.f k l0_1 a1 a2 a0_2).bind fun t128 => (some (a0_0, t128, wrap64 (a0_2 + 1), wrap64 ((wrap64 (a0_2 + 1)) - 1), 0)))
theorem r06_Put.mono : ∀ a0 a1 a2 a3 a4 k, LeO (r06_Put.f k a0 a1 a2 a3 a4) (r06_Put.f (k + 1) a0 a1 a2 a3 a4) := by
 intro a0 a1 a2 a3 a4 k
 unfold r06_Put.f
 repeat' first
   | (with_reducible exact r06_in.mono _ _ _ _ _)
   | (with_reducible exact yR _)
   | (with_reducible exact yO _)
   | (with_reducible refine yQ ?_ ?_)
   | (with_reducible refine yP ?_ (fun _ => ?_))
   | exact r06_in.mono _ _ _ _ _
   | exact yO _
   | refine yQ ?_ ?_
   | refine yP ?_ (fun _ => ?_)
set_option maxHeartbeats 8000000 in
set_option maxRecDepth 100000 in
theorem r06_Put.calls (k : Nat) (a0_0 : Int) (P0_1_ : Nat → Prop) (u9000_ : Value) (l0_1 : List (S68)) (a0_2 : Int) (a1 : Int) (a2 : ByteArray) (r1 : Int) (r2 : List (S68)) (r3 : Int) (r4 : Int) (r5 : Int) (w0 w : World) (hB : Below w0.heap.size w0 w) (ho0_1 : Kd.R k68 68 w w0.heap.size P0_1_ u9000_ l0_1) (h : r06_Put.f k a0_0 l0_1 a0_2 a1 a2 = some (r1, r2, r3, r4, r5)) :
  Calls Try.prog 24 #[.agg #[.int .i64 a0_0, u9000_, .int .i64 a0_2], .int .i64 a1, .string a2] w fun e w' => ∃ v1_ : Value, e = .returned (.tuple #[.agg #[.int .i64 r1, v1_, .int .i64 r3], .int .i64 r4, .int .i64 r5]) ∧ Kd.R k68 68 w' w0.heap.size (fun k_ => (P0_1_ k_ ∨ w.heap.size ≤ k_)) v1_ r2 ∧ Below w0.heap.size w0 w' ∧ Kept w w' (fun k_ => P0_1_ k_) := by
 have hu54 := Try.underlying54
 have hu68 := Try.underlying68
 have HO0_1 := zK (show Kd.R k68 68 w w0.heap.size (fun k_ => (P0_1_ k_ ∨ w.heap.size ≤ k_)) u9000_ l0_1 from yd ho0_1 (fun k_ hk => (.inl hk)))
 have HK := zK (Kept.refl w (fun k_ => P0_1_ k_))
 have HW0 := zK hB.size
 have HB := zK hB
 clear hB
 have H : (if (l0_1.length : Int) ≥ a0_0 then (some (a0_0, l0_1, a0_2, 0, 61)) else ((r06_in.f k l0_1 a1 a2 a0_2).bind fun t128 => (some (a0_0, t128, wrap64 (a0_2 + 1), wrap64 ((wrap64 (a0_2 + 1)) - 1), 0)))) = some (r1, r2, r3, r4, r5) := h
 clear h
 by_cases c4 : (l0_1.length : Int) ≥ a0_0
 ·rw [if_pos c4] at H
  have c4b0 : decide (a0_0 ≤ (l0_1.length : Int)) = true := yC c4
  clear c4
  simp only [yZ, ya] at H
  obtain ⟨rfl, rfl, rfl, rfl, rfl⟩ := H
  obtain ⟨Ao5, co5, eo5⟩ := Kd.R_slice HO0_1.out
  subst eo5
  go_enter Try.func24, Try.ntmps24
  go_wp2_with (first | ((with_reducible refine gate_dst (N := 3) rfl ?_); refine box_event ?hg (N := 3) ?hd (cs := #[.int .i64 a0_0, .slice Ao5 l0_1.length co5, .int .i64 a0_2]) (t := 54) ?hr ?_; (case hd => rfl); (case hg => rfl); (case hr => first | (go_simp; done) | (go_simp; rfl)); intro Z18 hg w6 hbox hb; have n0_ := zK (yb (by (with_reducible repeat (first | apply zL | apply zM | apply zN)); exact HO0_1.out) hb); have n1_ := zK (Kept.below (S := (fun k_ => P0_1_ k_)) (by repeat (first | (with_reducible first | exact HK.out | apply Kept.alloc | apply Kept.drewN | apply Kept.drew) | exact HK.out)) hb); have n2_ := zK (yL (by repeat (first | (with_reducible first | exact HB.out | apply zJ | apply zD | apply zE) | exact HB.out)) hb); have n3_ := zK (hbox); have n4_ := zK ((by rw [hg]; exact (by first | exact HK.out.1 | exact (show Kept w _ (fun k_ => P0_1_ k_) from by repeat (first | (with_reducible first | exact HK.out | apply Kept.alloc | apply Kept.drewN | apply Kept.drew) | exact HK.out)).1) : w.heap.size ≤ Z18)); have n5_ := zK ((by rw [hg]; exact (yK (by repeat (first | (with_reducible first | exact HB.out | apply zJ | apply zD | apply zE) | exact HB.out))) : w0.heap.size ≤ Z18)); clear HO0_1 HK HB; have HO0_1 := n0_; have HK := n1_; have HB := n2_; have Z2 := n3_; have Z10 := n4_; have Z6 := n5_; clear n0_ n1_ n2_ n3_ n4_ n5_ hb hbox hg) | ((with_reducible refine gate_dst (N := 6) rfl ?_); refine box_event ?hg (N := 6) ?hd (cs := #[.int .i64 0, .slice none 0 0, .int .i64 0]) (t := 54) ?hr ?_; (case hd => rfl); (case hg => rfl); (case hr => first | (go_simp; done) | (go_simp; rfl)); intro Z19 hg w7 hbox hb; have n0_ := zK (yb (by (with_reducible repeat (first | apply zL | apply zM | apply zN)); exact HO0_1.out) hb); have n1_ := zK (zP (g := Z18) (o := .cells #[.int .i64 a0_0, .slice Ao5 l0_1.length co5, .int .i64 a0_2] 54 (0, 0)) (by (with_reducible repeat (first | refine zF ?_ _ | refine zH ?_ | refine zG ?_ _)); exact Z2.out) hb); have n2_ := zK (Kept.below (S := (fun k_ => P0_1_ k_)) (by repeat (first | (with_reducible first | exact HK.out | apply Kept.alloc | apply Kept.drewN | apply Kept.drew | refine Kept.setCell ?_ (.inr Z10.out) _) | exact HK.out)) hb); have n3_ := zK (yL (by repeat (first | (with_reducible first | exact HB.out | apply zJ | apply zD | apply zE | refine zI ?_ Z6.out) | exact HB.out)) hb); have n4_ := zK (hbox); have n5_ := zK ((by rw [hg]; exact (by first | exact HK.out.1 | exact (show Kept w _ (fun k_ => P0_1_ k_) from by repeat (first | (with_reducible first | exact HK.out | apply Kept.alloc | apply Kept.drewN | apply Kept.drew | refine Kept.setCell ?_ (.inr Z10.out) _) | exact HK.out)).1) : w.heap.size ≤ Z19)); have n6_ := zK ((by rw [hg]; exact (yK (by repeat (first | (with_reducible first | exact HB.out | apply zJ | apply zD | apply zE | refine zI ?_ Z6.out) | exact HB.out))) : w0.heap.size ≤ Z19)); have n7_ := zK ((by rw [hg]; exact ym (yo (g := Z18) (o := .cells #[.int .i64 a0_0, .slice Ao5 l0_1.length co5, .int .i64 a0_2] 54 (0, 0)) (by (with_reducible repeat (first | refine zF ?_ _ | refine zH ?_ | refine zG ?_ _)); exact Z2.out)) : Z18 ≠ Z19)); have n8_ := zK ((by rw [hg]; exact yn (yo (g := Z18) (o := .cells #[.int .i64 a0_0, .slice Ao5 l0_1.length co5, .int .i64 a0_2] 54 (0, 0)) (by (with_reducible repeat (first | refine zF ?_ _ | refine zH ?_ | refine zG ?_ _)); exact Z2.out)) : Z19 ≠ Z18)); clear HO0_1 Z2 HK HB; have HO0_1 := n0_; have Z2 := n1_; have HK := n2_; have HB := n3_; have Z3 := n4_; have Z11 := n5_; have Z7 := n6_; have Z14 := n7_; have Z15 := n8_; clear n0_ n1_ n2_ n3_ n4_ n5_ n6_ n7_ n8_ hb hbox hg; have hnb8 := Z14.out; have hnc8 := Z15.out; have hcz9_0 : w7.cell? ⟨Z18, 0, none⟩ = some (.int .i64 a0_0) := (zO Z2.out 0).trans rfl; have hcz9_1 : w7.cell? ⟨Z18, 1, none⟩ = some (.slice Ao5 l0_1.length co5) := (zO Z2.out 1).trans rfl; have hcz9_2 : w7.cell? ⟨Z18, 2, none⟩ = some (.int .i64 a0_2) := (zO Z2.out 2).trans rfl; have hfz9_0 := yE Z2.out 0; have hfz9_1 := yE Z2.out 1; have hfz9_2 := yE Z2.out 2; have hcz10_0 : w7.cell? ⟨Z19, 0, none⟩ = some (.int .i64 0) := (zO Z3.out 0).trans rfl; have hcz10_1 : w7.cell? ⟨Z19, 1, none⟩ = some (.slice none 0 0) := (zO Z3.out 1).trans rfl; have hcz10_2 : w7.cell? ⟨Z19, 2, none⟩ = some (.int .i64 0) := (zO Z3.out 2).trans rfl; have hfz10_0 := yE Z3.out 0; have hfz10_1 := yE Z3.out 1; have hfz10_2 := yE Z3.out 2))
  refine bodyPost_ret (results_ctt rfl _ _ Z19 54 #[.int .i64 a0_0, .slice Ao5 l0_1.length co5, .int .i64 a0_2] (0, 0) _ rfl (by (with_reducible repeat (first | refine zF ?_ _ | refine zH ?_ | refine zG ?_ _)); refine blk_put (cs := #[.int .i64 a0_0, .slice Ao5 l0_1.length co5, .int .i64 0]) ?_ 2 _ rfl; (with_reducible repeat (first | refine zF ?_ _ | refine zH ?_ | refine zG ?_ _)); refine blk_put (cs := #[.int .i64 a0_0, .slice none 0 0, .int .i64 0]) ?_ 1 _ rfl; (with_reducible repeat (first | refine zF ?_ _ | refine zH ?_ | refine zG ?_ _)); refine blk_put (cs := #[.int .i64 0, .slice none 0 0, .int .i64 0]) ?_ 0 _ rfl; (with_reducible repeat (first | refine zF ?_ _ | refine zH ?_ | refine zG ?_ _)); exact Z3.out) Try.underlying54 rfl (by kernel_rfl)) rfl ?_
  exact ⟨_, by first | rfl | (simp [errW_none, errW_some] <;> rfl) | (simp [*, errW_none, errW_some] <;> rfl), by (with_reducible repeat (first | apply zL | apply zM | apply zN)); exact yd (Kd.R_far (p := ⟨Z19, 2, none⟩) (Kd.R_far (p := ⟨Z19, 1, none⟩) (Kd.R_far (p := ⟨Z19, 0, none⟩) (Kd.R_types HO0_1.out Z3.out (by decide)) (fun _ hk => hk.2) (.int .i64 a0_0)) (fun _ hk => hk.2) (.slice Ao5 l0_1.length co5)) (fun _ hk => hk.2) (.int .i64 a0_2)) (fun _ hk => hk.1), by repeat (first | (with_reducible first | exact HB.out | apply zJ | apply zD | apply zE | refine zI ?_ Z6.out | refine zI ?_ Z7.out) | exact HB.out), by repeat (first | (with_reducible first | exact HK.out | apply Kept.alloc | apply Kept.drewN | apply Kept.drew | refine Kept.setCell ?_ (.inr Z10.out) _ | refine Kept.setCell ?_ (.inr Z11.out) _) | exact HK.out)⟩
 ·rw [if_neg c4] at H
  have c4b0 : decide (a0_0 ≤ (l0_1.length : Int)) = false := yD c4
  clear c4
  replace H := yA.mp H
  obtain ⟨t128, A110, H⟩ := H
  replace H : (some (a0_0, t128, wrap64 (a0_2 + 1), wrap64 ((wrap64 (a0_2 + 1)) - 1), 0)) = some (r1, r2, r3, r4, r5) := H
  have A11 := zK A110
  clear A110
  simp only [yZ, ya] at H
  obtain ⟨rfl, rfl, rfl, rfl, rfl⟩ := H
  obtain ⟨Ao12, co12, eo12⟩ := Kd.R_slice HO0_1.out
  subst eo12
  go_enter Try.func24, Try.ntmps24
  try go_wp2_with (first | ((with_reducible refine gate_dst (N := 3) rfl ?_); refine box_event ?hg (N := 3) ?hd (cs := #[.int .i64 a0_0, .slice Ao12 l0_1.length co12, .int .i64 a0_2]) (t := 54) ?hr ?_; (case hd => rfl); (case hg => rfl); (case hr => first | (go_simp; done) | (go_simp; rfl)); intro Z18 hg w13 hbox hb; have n0_ := zK (yb (by (with_reducible repeat (first | apply zL | apply zM | apply zN)); exact HO0_1.out) hb); have n1_ := zK (Kept.below (S := (fun k_ => P0_1_ k_)) (by repeat (first | (with_reducible first | exact HK.out | apply Kept.alloc | apply Kept.drewN | apply Kept.drew) | exact HK.out)) hb); have n2_ := zK (yL (by repeat (first | (with_reducible first | exact HB.out | apply zJ | apply zD | apply zE) | exact HB.out)) hb); have n3_ := zK (hbox); have n4_ := zK ((by rw [hg]; exact (by first | exact HK.out.1 | exact (show Kept w _ (fun k_ => P0_1_ k_) from by repeat (first | (with_reducible first | exact HK.out | apply Kept.alloc | apply Kept.drewN | apply Kept.drew) | exact HK.out)).1) : w.heap.size ≤ Z18)); have n5_ := zK ((by rw [hg]; exact (yK (by repeat (first | (with_reducible first | exact HB.out | apply zJ | apply zD | apply zE) | exact HB.out))) : w0.heap.size ≤ Z18)); clear HO0_1 HK HB; have HO0_1 := n0_; have HK := n1_; have HB := n2_; have Z2 := n3_; have Z10 := n4_; have Z6 := n5_; clear n0_ n1_ n2_ n3_ n4_ n5_ hb hbox hg) | ((with_reducible refine gate_dst (N := 6) rfl ?_); refine box_event ?hg (N := 6) ?hd (cs := #[.int .i64 0, .slice none 0 0, .int .i64 0]) (t := 54) ?hr ?_; (case hd => rfl); (case hg => rfl); (case hr => first | (go_simp; done) | (go_simp; rfl)); intro Z19 hg w14 hbox hb; have n0_ := zK (yb (by (with_reducible repeat (first | apply zL | apply zM | apply zN)); exact HO0_1.out) hb); have n1_ := zK (zP (g := Z18) (o := .cells #[.int .i64 a0_0, .slice Ao12 l0_1.length co12, .int .i64 a0_2] 54 (0, 0)) (by (with_reducible repeat (first | refine zF ?_ _ | refine zH ?_ | refine zG ?_ _)); exact Z2.out) hb); have n2_ := zK (Kept.below (S := (fun k_ => P0_1_ k_)) (by repeat (first | (with_reducible first | exact HK.out | apply Kept.alloc | apply Kept.drewN | apply Kept.drew | refine Kept.setCell ?_ (.inr Z10.out) _) | exact HK.out)) hb); have n3_ := zK (yL (by repeat (first | (with_reducible first | exact HB.out | apply zJ | apply zD | apply zE | refine zI ?_ Z6.out) | exact HB.out)) hb); have n4_ := zK (hbox); have n5_ := zK ((by rw [hg]; exact (by first | exact HK.out.1 | exact (show Kept w _ (fun k_ => P0_1_ k_) from by repeat (first | (with_reducible first | exact HK.out | apply Kept.alloc | apply Kept.drewN | apply Kept.drew | refine Kept.setCell ?_ (.inr Z10.out) _) | exact HK.out)).1) : w.heap.size ≤ Z19)); have n6_ := zK ((by rw [hg]; exact (yK (by repeat (first | (with_reducible first | exact HB.out | apply zJ | apply zD | apply zE | refine zI ?_ Z6.out) | exact HB.out))) : w0.heap.size ≤ Z19)); have n7_ := zK ((by rw [hg]; exact ym (yo (g := Z18) (o := .cells #[.int .i64 a0_0, .slice Ao12 l0_1.length co12, .int .i64 a0_2] 54 (0, 0)) (by (with_reducible repeat (first | refine zF ?_ _ | refine zH ?_ | refine zG ?_ _)); exact Z2.out)) : Z18 ≠ Z19)); have n8_ := zK ((by rw [hg]; exact yn (yo (g := Z18) (o := .cells #[.int .i64 a0_0, .slice Ao12 l0_1.length co12, .int .i64 a0_2] 54 (0, 0)) (by (with_reducible repeat (first | refine zF ?_ _ | refine zH ?_ | refine zG ?_ _)); exact Z2.out)) : Z19 ≠ Z18)); clear HO0_1 Z2 HK HB; have HO0_1 := n0_; have Z2 := n1_; have HK := n2_; have HB := n3_; have Z3 := n4_; have Z11 := n5_; have Z7 := n6_; have Z14 := n7_; have Z15 := n8_; clear n0_ n1_ n2_ n3_ n4_ n5_ n6_ n7_ n8_ hb hbox hg; have hnb15 := Z14.out; have hnc15 := Z15.out; have hcz16_0 : w14.cell? ⟨Z18, 0, none⟩ = some (.int .i64 a0_0) := (zO Z2.out 0).trans rfl; have hcz16_1 : w14.cell? ⟨Z18, 1, none⟩ = some (.slice Ao12 l0_1.length co12) := (zO Z2.out 1).trans rfl; have hcz16_2 : w14.cell? ⟨Z18, 2, none⟩ = some (.int .i64 a0_2) := (zO Z2.out 2).trans rfl; have hfz16_0 := yE Z2.out 0; have hfz16_1 := yE Z2.out 1; have hfz16_2 := yE Z2.out 2) | ((with_reducible refine gate_callee (f := 40) rfl ?_); refine goesL_ (some 23) rfl rfl Try.func40 (by kernel_rfl) rfl #[.slice Ao12 l0_1.length co12, .agg #[.int .i64 a1, .string a2, .int .i64 a0_2]] rfl (by (try simp only [yH, yI, yJ]); first | done | rfl | (simp only [yG, yF]; rfl)) ?_; (with_reducible refine (r06_in.calls k _ _ l0_1 a1 a2 a0_2 t128 _ ?side1 ?side2 A11.out).mono ?_); (case side1 => repeat (first | exact (yM HO0_1.out).2.2 | (with_reducible refine yS ?_ _) | (with_reducible refine yT ?_ _) | (with_reducible refine yU ?_))); (case side2 => exact (yM HO0_1.out).2.1); rintro e w17 ⟨v129, rfl, ho0, hb⟩; refine ⟨_, rfl, ?_⟩; have n0_ := zK (Kd.R_elder' (by (with_reducible repeat (first | apply zL | apply zM | apply zN)); exact HO0_1.out) (Kd.R_base ho0) hb); have n1_ := zK (Kd.R_lower (Kd.R_new' (Kd.R_newM (M := fun k_ => (P0_1_ k_ ∨ w.heap.size ≤ k_)) ho0 (by first | exact HK.out.1 | exact (show Kept w _ (fun k_ => P0_1_ k_) from by repeat (first | (with_reducible first | exact HK.out | apply Kept.alloc | apply Kept.drewN | apply Kept.drew | refine Kept.setCell ?_ (.inr Z10.out) _ | refine Kept.setCell ?_ (.inr Z11.out) _) | exact HK.out)).1) (fun k_ h_ => .inr h_)) (Kd.R_lt (by (with_reducible repeat (first | apply zL | apply zM | apply zN)); exact HO0_1.out))) (yK (by repeat (first | (with_reducible first | exact HB.out | apply zJ | apply zD | apply zE | refine zI ?_ Z6.out | refine zI ?_ Z7.out) | exact HB.out)))); have n2_ := zK (zP (g := Z18) (o := .cells #[.int .i64 a0_0, .slice Ao12 l0_1.length co12, .int .i64 a0_2] 54 (0, 0)) (by (with_reducible repeat (first | refine zF ?_ _ | refine zH ?_ | refine zG ?_ _)); exact Z2.out) hb); have n3_ := zK (zP (g := Z19) (o := .cells #[.int .i64 0, .slice none 0 0, .int .i64 0] 54 (0, 0)) (by (with_reducible repeat (first | refine zF ?_ _ | refine zH ?_ | refine zG ?_ _)); exact Z3.out) hb); have n4_ := zK (Kept.below (S := (fun k_ => P0_1_ k_)) (by repeat (first | (with_reducible first | exact HK.out | apply Kept.alloc | apply Kept.drewN | apply Kept.drew | refine Kept.setCell ?_ (.inr Z10.out) _ | refine Kept.setCell ?_ (.inr Z11.out) _) | exact HK.out)) hb); have n5_ := zK (yL (by repeat (first | (with_reducible first | exact HB.out | apply zJ | apply zD | apply zE | refine zI ?_ Z6.out | refine zI ?_ Z7.out) | exact HB.out)) hb); clear HO0_1 Z2 Z3 HK HB; have HO0_1 := n0_; have HO130 := n1_; have Z2 := n2_; have Z3 := n3_; have HK := n4_; have HB := n5_; clear n0_ n1_ n2_ n3_ n4_ n5_; (try clear hb); (try clear hb2); (try clear hk); (try clear hi); (try clear ho0); obtain ⟨Ao18, co18, eo18⟩ := Kd.R_slice HO130.out; subst eo18; have hcz19_0 : w17.cell? ⟨Z18, 0, none⟩ = some (.int .i64 a0_0) := (zO Z2.out 0).trans rfl; have hcz19_1 : w17.cell? ⟨Z18, 1, none⟩ = some (.slice Ao12 l0_1.length co12) := (zO Z2.out 1).trans rfl; have hcz19_2 : w17.cell? ⟨Z18, 2, none⟩ = some (.int .i64 a0_2) := (zO Z2.out 2).trans rfl; have hfz19_0 := yE Z2.out 0; have hfz19_1 := yE Z2.out 1; have hfz19_2 := yE Z2.out 2))
  have n0_ : Aside0 (Kd.R k68 68 ((w17.setCell ⟨Z18, 1, none⟩ (.slice Ao18 t128.length co18)).setCell ⟨Z18, 2, none⟩ (.int .i64 (wrap64 (a0_2 + 1)))) w0.heap.size (fun k_ => (P0_1_ k_ ∨ w.heap.size ≤ k_) ∧ some k_ ≠ (.slice Ao18 t128.length co18 : Value).ownBlock) (.slice Ao12 l0_1.length co12) l0_1) := ⟨by (with_reducible repeat (first | apply zL | apply zM | apply zN)); exact yd (Kd.R_far (p := ⟨Z18, 2, none⟩) (Kd.R_far (p := ⟨Z18, 1, none⟩) (Kd.R_types HO0_1.out Z2.out (by decide)) (fun _ hk => hk.2) (.slice Ao18 t128.length co18)) (fun _ hk => hk.2) (.int .i64 (wrap64 (a0_2 + 1)))) (fun _ hk => ⟨hk.1.1, hk.1.2⟩)⟩
  have n1_ : Aside0 (Kd.R k68 68 ((w17.setCell ⟨Z18, 1, none⟩ (.slice Ao18 t128.length co18)).setCell ⟨Z18, 2, none⟩ (.int .i64 (wrap64 (a0_2 + 1)))) w0.heap.size (fun k_ => (P0_1_ k_ ∨ w.heap.size ≤ k_) ∧ some k_ ≠ (.slice Ao12 l0_1.length co12 : Value).ownBlock) (.slice Ao18 t128.length co18) t128) := ⟨by (with_reducible repeat (first | apply zL | apply zM | apply zN)); exact yd (Kd.R_far (p := ⟨Z18, 2, none⟩) (Kd.R_far (p := ⟨Z18, 1, none⟩) (Kd.R_types HO130.out Z2.out (by decide)) (fun _ hk => hk.2) (.slice Ao18 t128.length co18)) (fun _ hk => hk.2) (.int .i64 (wrap64 (a0_2 + 1)))) (fun _ hk => ⟨hk.1.1.1, hk.1.2⟩)⟩
  have n2_ : Aside0 (((w17.setCell ⟨Z18, 1, none⟩ (.slice Ao18 t128.length co18)).setCell ⟨Z18, 2, none⟩ (.int .i64 (wrap64 (a0_2 + 1)))).heap[Z18]? = some (.cells #[.int .i64 a0_0, .slice Ao18 t128.length co18, .int .i64 (wrap64 (a0_2 + 1))] 54 (0, 0))) := ⟨by (with_reducible repeat (first | refine zF ?_ _ | refine zH ?_ | refine zG ?_ _)); refine blk_put (cs := #[.int .i64 a0_0, .slice Ao18 t128.length co18, .int .i64 a0_2]) ?_ 2 _ rfl; (with_reducible repeat (first | refine zF ?_ _ | refine zH ?_ | refine zG ?_ _)); refine blk_put (cs := #[.int .i64 a0_0, .slice Ao12 l0_1.length co12, .int .i64 a0_2]) ?_ 1 _ rfl; (with_reducible repeat (first | refine zF ?_ _ | refine zH ?_ | refine zG ?_ _)); exact Z2.out⟩
  have n3_ : Aside0 (((w17.setCell ⟨Z18, 1, none⟩ (.slice Ao18 t128.length co18)).setCell ⟨Z18, 2, none⟩ (.int .i64 (wrap64 (a0_2 + 1)))).heap[Z19]? = some (.cells #[.int .i64 0, .slice none 0 0, .int .i64 0] 54 (0, 0))) := ⟨by (with_reducible repeat (first | refine zF ?_ _ | refine zH ?_ | refine zG ?_ _)); refine blk_far ?_ Z15.out _; (with_reducible repeat (first | refine zF ?_ _ | refine zH ?_ | refine zG ?_ _)); refine blk_far ?_ Z15.out _; (with_reducible repeat (first | refine zF ?_ _ | refine zH ?_ | refine zG ?_ _)); exact Z3.out⟩
  have n4_ : Aside0 (Kept w ((w17.setCell ⟨Z18, 1, none⟩ (.slice Ao18 t128.length co18)).setCell ⟨Z18, 2, none⟩ (.int .i64 (wrap64 (a0_2 + 1)))) (fun k_ => P0_1_ k_)) := ⟨by repeat (first | (with_reducible first | exact HK.out | apply Kept.alloc | apply Kept.drewN | apply Kept.drew | refine Kept.setCell ?_ (.inr Z10.out) _ | refine Kept.setCell ?_ (.inr Z11.out) _) | exact HK.out)⟩
  have n5_ : Aside0 (Below w0.heap.size w0 ((w17.setCell ⟨Z18, 1, none⟩ (.slice Ao18 t128.length co18)).setCell ⟨Z18, 2, none⟩ (.int .i64 (wrap64 (a0_2 + 1))))) := ⟨by repeat (first | (with_reducible first | exact HB.out | apply zJ | apply zD | apply zE | refine zI ?_ Z6.out | refine zI ?_ Z7.out) | exact HB.out)⟩
  (try clear HO0_1)
  (try clear HO130)
  (try clear Z2)
  (try clear Z3)
  (try clear HK)
  (try clear HB)
  generalize ((w17.setCell ⟨Z18, 1, none⟩ (.slice Ao18 t128.length co18)).setCell ⟨Z18, 2, none⟩ (.int .i64 (wrap64 (a0_2 + 1)))) = w20 at n0_ n1_ n2_ n3_ n4_ n5_ ⊢
  have HO0_1 := n0_; have HO130 := n1_; have Z2 := n2_; have Z3 := n3_; have HK := n4_; have HB := n5_
  clear n0_ n1_ n2_ n3_ n4_ n5_
  have n0_ := zK (zN HO0_1.out)
  have n1_ := zK (zN HO130.out)
  have n2_ := zK (zH Z2.out)
  have n3_ := zK (zH Z3.out)
  have n4_ := zK (Kept.drew HK.out)
  have n5_ := zK (zE HB.out)
  clear HO0_1 HO130 Z2 Z3 HK HB
  have HO0_1 := n0_; have HO130 := n1_; have Z2 := n2_; have Z3 := n3_; have HK := n4_; have HB := n5_
  clear n0_ n1_ n2_ n3_ n4_ n5_
  refine start_ (n := 7) (S := fun w' => w'.cell? ⟨Z18, 0, none⟩ = some (.int .i64 a0_0) ∧ w'.cell? ⟨Z18, 1, none⟩ = some (.slice Ao18 t128.length co18) ∧ w'.cell? ⟨Z18, 2, none⟩ = some (.int .i64 (wrap64 (a0_2 + 1)))) (ds := []) #[false, false, false, false, false, false, false] (by kernel_rfl) rfl rfl ⟨(zO Z2.out 0).trans rfl, (zO Z2.out 1).trans rfl, (zO Z2.out 2).trans rfl⟩ (fun hHeld => ?_)
  generalize w20.drew = w21 at HO0_1 HO130 Z2 Z3 HK HB hHeld ⊢
  refine pure_ (i := 1) (N := some 30) (v := ?_) (a' := ?_) #[false, true, false, false, false, false, false] rfl rfl (by kernel_rfl) (fun _ _ _ h => h) (Or.inl ⟨by rfl, ?_⟩) ?_ ?_
  rotate_left
  ·intro w'
   go_simp
   with_reducible rfl
  rotate_left
  ·simp only [Act.put, zA, zB, zC, i64_w, i32_w]
   rfl
  refine take_ (i := 0) (N := some 29) (v := ?_) (a' := ?_) #[true, true, false, false, false, false, false] rfl rfl (by kernel_rfl) (fun _ _ _ h => h) (Or.inl ⟨by rfl, ?_⟩) hHeld ?_ ?_
  rotate_left
  ·rintro w' ⟨s0, s1, s2⟩
   go_simp
   with_reducible rfl
  rotate_left
  ·simp only [Act.put, zA, zB, zC, i64_w, i32_w]
   rfl
  refine take_ (i := 2) (N := some 31) (v := ?_) (a' := ?_) #[true, true, true, false, false, false, false] rfl rfl (by kernel_rfl) (fun _ _ _ h => h) (Or.inl ⟨by rfl, ?_⟩) hHeld ?_ ?_
  rotate_left
  ·rintro w' ⟨s0, s1, s2⟩
   go_simp
   with_reducible rfl
  rotate_left
  ·simp only [Act.put, zA, zB, zC, i64_w, i32_w]
   rfl
  refine pure_ (i := 3) (N := some 32) (v := ?_) (a' := ?_) #[true, true, true, true, false, false, false] rfl rfl (by kernel_rfl) (fun _ _ _ h => h) (Or.inl ⟨by rfl, ?_⟩) ?_ ?_
  rotate_left
  ·intro w'
   go_simp
   with_reducible rfl
  rotate_left
  ·simp only [Act.put, zA, zB, zC, i64_w, i32_w]
   rfl
  refine one_ (i := 4) (N := none) #[true, true, true, true, true, false, false] rfl rfl (by kernel_rfl) (by decide) (fun K hK => ?_)
  have hs22 : w21.cell? ⟨Z19, 0, none⟩ = some (.int .i64 0) := (zO Z3.out 0).trans rfl
  have hfs22 := yE Z3.out 0
  have hns22_0 := Z14.out
  have hms22_0 := Z15.out
  have hs23 : w21.cell? ⟨Z19, 1, none⟩ = some (.slice none 0 0) := (zO Z3.out 1).trans rfl
  have hfs23 := yE Z3.out 1
  have hns23_0 := Z14.out
  have hms23_0 := Z15.out
  have hs24 : w21.cell? ⟨Z19, 2, none⟩ = some (.int .i64 0) := (zO Z3.out 2).trans rfl
  have hfs24 := yE Z3.out 2
  have hns24_0 := Z14.out
  have hms24_0 := Z15.out
  refine skip_ (w1 := ?_) (by rfl) rfl ?_ ?_
  rotate_left
  ·go_simp
   rfl
  refine hK.out _ _ ⟨((yp (p := ⟨Z19, _, none⟩) Z14.out _).trans (((yp (p := ⟨Z19, _, none⟩) Z14.out _).trans (((yp (p := ⟨Z19, _, none⟩) Z14.out _).trans (hHeld.1)))))), ((yp (p := ⟨Z19, _, none⟩) Z14.out _).trans (((yp (p := ⟨Z19, _, none⟩) Z14.out _).trans (((yp (p := ⟨Z19, _, none⟩) Z14.out _).trans (hHeld.2.1)))))), ((yp (p := ⟨Z19, _, none⟩) Z14.out _).trans (((yp (p := ⟨Z19, _, none⟩) Z14.out _).trans (((yp (p := ⟨Z19, _, none⟩) Z14.out _).trans (hHeld.2.2))))))⟩ (fun hHeld => ?_)
  clear hK K
  refine pure_ (i := 5) (N := some 7) (v := ?_) (a' := ?_) #[true, true, true, true, true, true, false] rfl rfl (by kernel_rfl) (fun _ _ _ h => h) (Or.inl ⟨by rfl, ?_⟩) ?_ ?_
  rotate_left
  ·intro w'
   go_simp
   with_reducible rfl
  rotate_left
  ·simp only [Act.put, zA, zB, zC, i64_w, i32_w]
   rfl
  refine pure_ (i := 6) (N := some 8) (v := ?_) (a' := ?_) #[true, true, true, true, true, true, true] rfl rfl (by kernel_rfl) (fun _ _ _ h => h) (Or.inl ⟨by rfl, ?_⟩) ?_ ?_
  rotate_left
  ·intro w'
   go_simp
   with_reducible rfl
  rotate_left
  ·simp only [Act.put, zA, zB, zC, i64_w, i32_w]
   rfl
  refine done_ (by kernel_rfl) ?_
  try go_wp2
  refine bodyPost_ret (results_ctt rfl _ _ Z19 54 #[.int .i64 a0_0, .slice Ao18 t128.length co18, .int .i64 (wrap64 (a0_2 + 1))] (0, 0) _ rfl (by (with_reducible repeat (first | refine zF ?_ _ | refine zH ?_ | refine zG ?_ _)); refine blk_put (cs := #[.int .i64 a0_0, .slice Ao18 t128.length co18, .int .i64 0]) ?_ 2 _ rfl; (with_reducible repeat (first | refine zF ?_ _ | refine zH ?_ | refine zG ?_ _)); refine blk_put (cs := #[.int .i64 a0_0, .slice none 0 0, .int .i64 0]) ?_ 1 _ rfl; (with_reducible repeat (first | refine zF ?_ _ | refine zH ?_ | refine zG ?_ _)); refine blk_put (cs := #[.int .i64 0, .slice none 0 0, .int .i64 0]) ?_ 0 _ rfl; (with_reducible repeat (first | refine zF ?_ _ | refine zH ?_ | refine zG ?_ _)); exact Z3.out) Try.underlying54 rfl (by kernel_rfl)) rfl ?_
  exact ⟨_, by first | rfl | (simp [errW_none, errW_some] <;> rfl) | (simp [*, errW_none, errW_some] <;> rfl), by (with_reducible repeat (first | apply zL | apply zM | apply zN)); exact yd (Kd.R_far (p := ⟨Z19, 2, none⟩) (Kd.R_far (p := ⟨Z19, 1, none⟩) (Kd.R_far (p := ⟨Z19, 0, none⟩) (Kd.R_types HO130.out Z3.out (by decide)) (fun _ hk => hk.2) (.int .i64 a0_0)) (fun _ hk => hk.2) (.slice Ao18 t128.length co18)) (fun _ hk => hk.2) (.int .i64 (wrap64 (a0_2 + 1)))) (fun _ hk => hk.1.1), by repeat (first | (with_reducible first | exact HB.out | apply zJ | apply zD | apply zE | refine zI ?_ Z6.out | refine zI ?_ Z7.out) | exact HB.out), by repeat (first | (with_reducible first | exact HK.out | apply Kept.alloc | apply Kept.drewN | apply Kept.drew | refine Kept.setCell ?_ (.inr Z10.out) _ | refine Kept.setCell ?_ (.inr Z11.out) _) | exact HK.out)⟩

-- NOT PRINTED: function 27 (queue_Queue_int64_int_Clear)

-- NOT PRINTED: function 28 (queue_Queue_int64_int_All)

-- NOT PRINTED: function 46 (queue_Queue_int64_int_by)

-- NOT PRINTED: function 60 (queue_element_int64_int_60)

-- NOT PRINTED: function 61 (queue_element_int64_int_61)

-- NOT PRINTED: function 47 (queue_Queue_int64_int_take)

-- NOT PRINTED: function 29 (queue_Queue_int64_int_Change)

-- NOT PRINTED: function 44 (queue_Queue_int64_int_out)

-- NOT PRINTED: function 30 (queue_Queue_int64_int_Remove)

-- NOT PRINTED: function 31 (queue_Queue_int64_int_Len)

-- NOT PRINTED: function 6 (w06_QueueWalk)

-- NOT PRINTED: function 25 (queue_Merge_int64_int)

-- NOT PRINTED: function 43 (queue_Queue_int64_int_at)

-- NOT PRINTED: function 26 (queue_Queue_int64_int_Pop)

-- NOT PRINTED: function 5 (w06_QueueMerges)

end Go.Proofs.Ytgolghimefageaa.C
