-- Printed by this session's own driver (wip/tools/xprint.py) over the kit's printer; given functions are this session's own.
import Derived.Test.YthmckhfjaleomaaT0
import Derived.Test.YthmckhfjaleomaaT1
import Derived.Test.YthmckhfjaleomaaT5
import Derived.Test.YthmckhfjaleomaaT6
import Derived.Test.YthmckhfjaleomaaT8
import Derived.Test.YthmckhfjaleomaaT13
import Derived.Test.YthmckhfjaleomaaT14
namespace Go.Proofs.Ythmckhfjaleomaa.T
open Go.RowKit Go.Proofs.YthmckhfjaleomaaW.PrintWords Go.Proofs.YthmckhfjaleomaaW.PrintLast Go.Proofs.YthmckhfjaleomaaW.PrintMore
attribute [local go_sem] max2_int min2_int max_two min_two max_three min_three max_four min_four   -- for this text's walks alone
set_option linter.unusedVariables false
set_option linter.unusedSimpArgs false

attribute [local go_sem high] eqA46
abbrev o1 (A : Option Addr) (l : List Int) (c : Nat) (B : Option Addr) (m : List Bool) (d : Nat) : Obj := .cells #[.slice A l.length c, .slice B m.length d] 39 (0, 0)
abbrev o2 (a b c d e : Int) (A : Option Addr) (l : List S46) (n : Nat) : Obj := .cells #[.int .i64 a, .int .i64 b, .int .i64 c, .int .i64 d, .int .i64 e, .slice A l.length n] 24 (0, 0)
/-! ### w22_DistWeights: function 4 -/
mutual
def w22_DistWeights.j0 : Nat -> List Bool -> Bool -> List Int -> List Bool -> Int -> Int -> Int -> Int -> Int -> List (S46) -> Int -> Int -> Int -> Int -> Int -> List (S46) -> Option (Bool)
  | 0, _, _, _, _, _, _, _, _, _, _, _, _, _, _, _, _ => none
  | k + 1, x6, x62, Y0, Y1, Y2, Y3, Y4, Y5, Y6, Y7, Y8, Y9, Y10, Y11, Y12, Y13 => if x62 = true then (some false) else (w22_DistWeights.l0 k x6 (x6.length : Int) 0 Y0 Y1 Y2 Y3 Y4 Y5 Y6 Y7 Y8 Y9 Y10 Y11 Y12 Y13)
def w22_DistWeights.l0 : Nat -> List Bool -> Int -> Int -> List Int -> List Bool -> Int -> Int -> Int -> Int -> Int -> List (S46) -> Int -> Int -> Int -> Int -> Int -> List (S46) -> Option (Bool)
  | 0, _, _, _, _, _, _, _, _, _, _, _, _, _, _, _, _, _ => none
  | k + 1, x6, x64, x65, Y0, Y1, Y2, Y3, Y4, Y5, Y6, Y7, Y8, Y9, Y10, Y11, Y12, Y13 => if x65 < x64 then (if 0 <= x65 then (if x65 < (x6.length : Int) then (if x65 < (Y1.length : Int) then (if ((rdOf false x6 x65) != (rdOf false Y1 x65)) = true then (some false) else (w22_DistWeights.l0 k x6 x64 (wrap64 (x65 + 1)) Y0 Y1 Y2 Y3 Y4 Y5 Y6 Y7 Y8 Y9 Y10 Y11 Y12 Y13)) else (none)) else (none)) else (none)) else (w22_DistWeights.l1 k (Y13.length : Int) 0 Y2 Y3 Y4 Y5 Y6 Y7 Y8 Y9 Y10 Y11 Y12 Y13)
def w22_DistWeights.l1 : Nat -> Int -> Int -> Int -> Int -> Int -> Int -> Int -> List (S46) -> Int -> Int -> Int -> Int -> Int -> List (S46) -> Option (Bool)
  | 0, _, _, _, _, _, _, _, _, _, _, _, _, _, _ => none
  | k + 1, x81, x82, Y2, Y3, Y4, Y5, Y6, Y7, Y8, Y9, Y10, Y11, Y12, Y13 => if x82 < x81 then (if 0 <= x82 then (if x82 < (Y13.length : Int) then (if x82 < (Y7.length : Int) then (if (!(((rd_T46 Y13 x82).f0) == ((rd_T46 Y7 x82).f0)) || (!(((rd_T46 Y13 x82).f1) == ((rd_T46 Y7 x82).f1)))) = true then (some false) else (w22_DistWeights.l1 k x81 (wrap64 (x82 + 1)) Y2 Y3 Y4 Y5 Y6 Y7 Y8 Y9 Y10 Y11 Y12 Y13)) else (none)) else (none)) else (none)) else (some true)
end
def w22_DistWeights.f (k : Nat) (l0_0 : List Int) (l0_1 : List Bool) (a1_0 : Int) (a1_1 : Int) (a1_2 : Int) (a1_3 : Int) (a1_4 : Int) (l1_5 : List (S46)) : Option (Bool) := (w22_awake.f k).bind fun t366 => (if t366 = true then ((some (([] : List Int) : List Int)).bind fun y367 => (if y367.length + l0_0.length < 17592186044416 then ((some (y367 ++ l0_0 : List Int)).bind fun y370 => ((some (([] : List Bool) : List Bool)).bind fun y373 => (if y373.length + l0_1.length < 140737488355328 then ((some (y373 ++ l0_1 : List Bool)).bind fun y376 => ((some (([] : List (S46)) : List (S46))).bind fun y380 => (if y380.length + l1_5.length < 8796093022208 then ((some (y380 ++ l1_5 : List (S46))).bind fun y383 => ((dist_Weights.f k y370 y376 a1_0 a1_1 a1_2 a1_3 a1_4 y383).bind fun bt386 => ((w22_plain.f k a1_0 a1_1 a1_2 a1_3 a1_4 l1_5).bind fun bt390 => ((r22_Weights.f k l0_0 l0_1 bt390.1 bt390.2.1 bt390.2.2.1 bt390.2.2.2.1 bt390.2.2.2.2.1 bt390.2.2.2.2.2).bind fun bt398 => ((w22_same.f k bt386.1 bt398.1).bind fun t402 => (if t402 = true then (if bt386.2 = bt398.2 then ((w22_same.f k y370 l0_0).bind fun t403 => (w22_DistWeights.j0 k y376 (!t403) l0_0 l0_1 a1_0 a1_1 a1_2 a1_3 a1_4 l1_5 a1_0 a1_1 a1_2 a1_3 a1_4 y383)) else (w22_DistWeights.j0 k y376 true l0_0 l0_1 a1_0 a1_1 a1_2 a1_3 a1_4 l1_5 a1_0 a1_1 a1_2 a1_3 a1_4 y383)) else (w22_DistWeights.j0 k y376 true l0_0 l0_1 a1_0 a1_1 a1_2 a1_3 a1_4 l1_5 a1_0 a1_1 a1_2 a1_3 a1_4 y383))))))) else (none)))) else (none)))) else (none))) else (some false))
theorem w22_DistWeights.mono_l : ∀ k, (∀ y0 y1 y2 y3 y4 y5 y6 y7 y8 y9 y10 y11 y12 y13 y14 y15, LeO (w22_DistWeights.j0 k y0 y1 y2 y3 y4 y5 y6 y7 y8 y9 y10 y11 y12 y13 y14 y15) (w22_DistWeights.j0 (k + 1) y0 y1 y2 y3 y4 y5 y6 y7 y8 y9 y10 y11 y12 y13 y14 y15)) /\ (∀ y0 y1 y2 y3 y4 y5 y6 y7 y8 y9 y10 y11 y12 y13 y14 y15 y16, LeO (w22_DistWeights.l0 k y0 y1 y2 y3 y4 y5 y6 y7 y8 y9 y10 y11 y12 y13 y14 y15 y16) (w22_DistWeights.l0 (k + 1) y0 y1 y2 y3 y4 y5 y6 y7 y8 y9 y10 y11 y12 y13 y14 y15 y16)) /\ (∀ y0 y1 y2 y3 y4 y5 y6 y7 y8 y9 y10 y11 y12 y13, LeO (w22_DistWeights.l1 k y0 y1 y2 y3 y4 y5 y6 y7 y8 y9 y10 y11 y12 y13) (w22_DistWeights.l1 (k + 1) y0 y1 y2 y3 y4 y5 y6 y7 y8 y9 y10 y11 y12 y13))
  | 0 => ⟨fun _ _ _ _ _ _ _ _ _ _ _ _ _ _ _ _ r h => by simp [w22_DistWeights.j0] at h, fun _ _ _ _ _ _ _ _ _ _ _ _ _ _ _ _ _ r h => by simp [w22_DistWeights.l0] at h, fun _ _ _ _ _ _ _ _ _ _ _ _ _ _ r h => by simp [w22_DistWeights.l1] at h⟩
  | k + 1 => by
    obtain ⟨ih0, ih1, ih2⟩ := w22_DistWeights.mono_l k
    refine ⟨?_, ?_, ?_⟩ <;> (intros; first | unfold w22_DistWeights.j0 | unfold w22_DistWeights.l0 | unfold w22_DistWeights.l1)
    all_goals repeat' first
      | (with_reducible exact ih0 _ _ _ _ _ _ _ _ _ _ _ _ _ _ _ _)
      | (with_reducible exact ih1 _ _ _ _ _ _ _ _ _ _ _ _ _ _ _ _ _)
      | (with_reducible exact ih2 _ _ _ _ _ _ _ _ _ _ _ _ _ _)
      | (with_reducible exact dist_Weights.mono _ _ _ _ _ _ _ _ _)
      | (with_reducible exact r22_Weights.mono _ _ _ _ _ _ _ _ _)
      | (with_reducible exact w22_awake.mono _)
      | (with_reducible exact w22_plain.mono _ _ _ _ _ _ _)
      | (with_reducible exact w22_same.mono _ _ _)
      | (with_reducible exact yR _)
      | (with_reducible exact yO _)
      | (with_reducible refine yQ ?_ ?_)
      | (with_reducible refine yP ?_ (fun _ => ?_))
      | exact ih0 _ _ _ _ _ _ _ _ _ _ _ _ _ _ _ _
      | exact ih1 _ _ _ _ _ _ _ _ _ _ _ _ _ _ _ _ _
      | exact ih2 _ _ _ _ _ _ _ _ _ _ _ _ _ _
      | exact dist_Weights.mono _ _ _ _ _ _ _ _ _
      | exact r22_Weights.mono _ _ _ _ _ _ _ _ _
      | exact w22_awake.mono _
      | exact w22_plain.mono _ _ _ _ _ _ _
      | exact w22_same.mono _ _ _
      | exact yO _
      | refine yQ ?_ ?_
      | refine yP ?_ (fun _ => ?_)
theorem w22_DistWeights.mono : ∀ a0 a1 a2 a3 a4 a5 a6 a7 k, LeO (w22_DistWeights.f k a0 a1 a2 a3 a4 a5 a6 a7) (w22_DistWeights.f (k + 1) a0 a1 a2 a3 a4 a5 a6 a7) := by
  intro a0 a1 a2 a3 a4 a5 a6 a7 k
  obtain ⟨ih0, ih1, ih2⟩ := w22_DistWeights.mono_l k
  unfold w22_DistWeights.f
  repeat' first
      | (with_reducible exact ih0 _ _ _ _ _ _ _ _ _ _ _ _ _ _ _ _)
      | (with_reducible exact ih1 _ _ _ _ _ _ _ _ _ _ _ _ _ _ _ _ _)
      | (with_reducible exact ih2 _ _ _ _ _ _ _ _ _ _ _ _ _ _)
      | (with_reducible exact dist_Weights.mono _ _ _ _ _ _ _ _ _)
      | (with_reducible exact r22_Weights.mono _ _ _ _ _ _ _ _ _)
      | (with_reducible exact w22_awake.mono _)
      | (with_reducible exact w22_plain.mono _ _ _ _ _ _ _)
      | (with_reducible exact w22_same.mono _ _ _)
      | (with_reducible exact yR _)
      | (with_reducible exact yO _)
      | (with_reducible refine yQ ?_ ?_)
      | (with_reducible refine yP ?_ (fun _ => ?_))
      | exact ih0 _ _ _ _ _ _ _ _ _ _ _ _ _ _ _ _
      | exact ih1 _ _ _ _ _ _ _ _ _ _ _ _ _ _ _ _ _
      | exact ih2 _ _ _ _ _ _ _ _ _ _ _ _ _ _
      | exact dist_Weights.mono _ _ _ _ _ _ _ _ _
      | exact r22_Weights.mono _ _ _ _ _ _ _ _ _
      | exact w22_awake.mono _
      | exact w22_plain.mono _ _ _ _ _ _ _
      | exact w22_same.mono _ _ _
      | exact yO _
      | refine yQ ?_ ?_
      | refine yP ?_ (fun _ => ?_)
def w22_DistWeights.T3 : Bool × List (List Nat × List Nat) := (true, [([], []), ([], []), ([1], [1]), ([0, 2], [0, 2]), ([], []), ([], []), ([5], [5]), ([4, 6, 3], [4, 6]), ([], []), ([], []), ([3, 7, 0, 1, 2, 3, 9], [3]), ([7, 10, 0, 1, 2, 3, 4, 5, 6, 7, 9, 10], [7]), ([9, 8, 11, 0, 1, 2, 3, 4, 5, 6, 7, 8, 9, 10, 11], [8, 9])])
def w22_DistWeights.B3 : List Nat := [0, 0, 2, 7, 0, 0, 32, 127, 0, 0, 767, 1791, 4095]
theorem w22_DistWeights.tab3 : rtab .any (opsOf Try.f4 3) = w22_DistWeights.T3 := by kernel_rfl
theorem w22_DistWeights.bits3 : waitsOk w22_DistWeights.T3.2 w22_DistWeights.B3 = true := by kernel_rfl
def w22_DistWeights.T6 : Bool × List (List Nat × List Nat) := (true, [([], []), ([0], [0]), ([], []), ([2], [2]), ([], []), ([4], [4]), ([1, 3, 5, 5], [1, 3, 5]), ([6], [6]), ([7], [7]), ([7], [7]), ([8, 6, 0, 1, 2, 3, 4, 5, 6, 7, 8], [8]), ([9, 10, 0, 1, 2, 3, 4, 5, 6, 7, 8, 9, 10], [9])])
def w22_DistWeights.B6 : List Nat := [0, 1, 0, 4, 0, 16, 63, 127, 255, 255, 511, 2047]
theorem w22_DistWeights.tab6 : rtab .any (opsOf Try.f4 6) = w22_DistWeights.T6 := by kernel_rfl
theorem w22_DistWeights.bits6 : waitsOk w22_DistWeights.T6.2 w22_DistWeights.B6 = true := by kernel_rfl
def w22_DistWeights.T12 : Bool × List (List Nat × List Nat) := (true, [([], []), ([], []), ([0, 1], [0, 1]), ([2], [2]), ([], []), ([4], [4]), ([], []), ([5, 6], [5, 6]), ([7], [7]), ([3, 8], [3, 8])])
def w22_DistWeights.B12 : List Nat := [0, 0, 3, 7, 0, 16, 0, 112, 240, 511]
theorem w22_DistWeights.tab12 : rtab .any (opsOf Try.f4 12) = w22_DistWeights.T12 := by kernel_rfl
theorem w22_DistWeights.bits12 : waitsOk w22_DistWeights.T12.2 w22_DistWeights.B12 = true := by kernel_rfl
def w22_DistWeights.T18 : Bool × List (List Nat × List Nat) := (true, [([], []), ([0], [0]), ([], []), ([1, 2], [1, 2]), ([3], [3]), ([], []), ([5], [5]), ([], []), ([6, 7], [6, 7]), ([8], [8]), ([4, 9], [4, 9])])
def w22_DistWeights.B18 : List Nat := [0, 1, 0, 7, 15, 0, 32, 0, 224, 480, 1023]
theorem w22_DistWeights.tab18 : rtab .any (opsOf Try.f4 18) = w22_DistWeights.T18 := by kernel_rfl
theorem w22_DistWeights.bits18 : waitsOk w22_DistWeights.T18.2 w22_DistWeights.B18 = true := by kernel_rfl
set_option maxHeartbeats 8000000 in
set_option maxRecDepth 100000 in
theorem w22_DistWeights.calls (k : Nat) (A0_0 : Option Addr) (c0_0 : Nat) (l0_0 : List Int) (A0_1 : Option Addr) (c0_1 : Nat) (l0_1 : List Bool) (a1_0 : Int) (a1_1 : Int) (a1_2 : Int) (a1_3 : Int) (a1_4 : Int) (A1_5 : Option Addr) (c1_5 : Nat) (l1_5 : List (S46)) (r : Bool) (w : World) (hr0_0 : Kd.C (Kd.int .i64) w A0_0 l0_0.length l0_0) (hc0_0 : l0_0.length <= c0_0) (hr0_1 : Kd.C Kd.bool w A0_1 l0_1.length l0_1) (hc0_1 : l0_1.length <= c0_1) (hr1_5 : Kd.C k46 w A1_5 l1_5.length l1_5) (hc1_5 : l1_5.length <= c1_5) (h : w22_DistWeights.f k l0_0 l0_1 a1_0 a1_1 a1_2 a1_3 a1_4 l1_5 = some r) :
    Calls Try.prog 4 #[.agg #[.slice A0_0 l0_0.length c0_0, .slice A0_1 l0_1.length c0_1], .agg #[.int .i64 a1_0, .int .i64 a1_1, .int .i64 a1_2, .int .i64 a1_3, .int .i64 a1_4, .slice A1_5 l1_5.length c1_5]] w fun e w' => e = .returned (.bool r) /\ Below w.heap.size w w' := by
  have hu39 := Try.underlying39
  have hu24 := Try.underlying24
  have hu46 := Try.underlying46
  have HR0_0 := zK hr0_0
  have HC0_0 := zK hc0_0
  clear hr0_0 hc0_0
  have HR0_1 := zK hr0_1
  have HC0_1 := zK hc0_1
  clear hr0_1 hc0_1
  have HR1_5 := zK hr1_5
  have HC1_5 := zK hc1_5
  clear hr1_5 hc1_5
  have HB := zK (Below.refl w.heap.size w)
  have H : ((w22_awake.f k).bind fun t366 => (if t366 = true then ((some (([] : List Int) : List Int)).bind fun y367 => (if y367.length + l0_0.length < 17592186044416 then ((some (y367 ++ l0_0 : List Int)).bind fun y370 => ((some (([] : List Bool) : List Bool)).bind fun y373 => (if y373.length + l0_1.length < 140737488355328 then ((some (y373 ++ l0_1 : List Bool)).bind fun y376 => ((some (([] : List (S46)) : List (S46))).bind fun y380 => (if y380.length + l1_5.length < 8796093022208 then ((some (y380 ++ l1_5 : List (S46))).bind fun y383 => ((dist_Weights.f k y370 y376 a1_0 a1_1 a1_2 a1_3 a1_4 y383).bind fun bt386 => ((w22_plain.f k a1_0 a1_1 a1_2 a1_3 a1_4 l1_5).bind fun bt390 => ((r22_Weights.f k l0_0 l0_1 bt390.1 bt390.2.1 bt390.2.2.1 bt390.2.2.2.1 bt390.2.2.2.2.1 bt390.2.2.2.2.2).bind fun bt398 => ((w22_same.f k bt386.1 bt398.1).bind fun t402 => (if t402 = true then (if bt386.2 = bt398.2 then ((w22_same.f k y370 l0_0).bind fun t403 => (w22_DistWeights.j0 k y376 (!t403) l0_0 l0_1 a1_0 a1_1 a1_2 a1_3 a1_4 l1_5 a1_0 a1_1 a1_2 a1_3 a1_4 y383)) else (w22_DistWeights.j0 k y376 true l0_0 l0_1 a1_0 a1_1 a1_2 a1_3 a1_4 l1_5 a1_0 a1_1 a1_2 a1_3 a1_4 y383)) else (w22_DistWeights.j0 k y376 true l0_0 l0_1 a1_0 a1_1 a1_2 a1_3 a1_4 l1_5 a1_0 a1_1 a1_2 a1_3 a1_4 y383))))))) else (none)))) else (none)))) else (none))) else (some false))) = some r := h
  clear h
  replace H := yA.mp H
  obtain ⟨t366, A30, H⟩ := H
  replace H : (if t366 = true then ((some (([] : List Int) : List Int)).bind fun y367 => (if y367.length + l0_0.length < 17592186044416 then ((some (y367 ++ l0_0 : List Int)).bind fun y370 => ((some (([] : List Bool) : List Bool)).bind fun y373 => (if y373.length + l0_1.length < 140737488355328 then ((some (y373 ++ l0_1 : List Bool)).bind fun y376 => ((some (([] : List (S46)) : List (S46))).bind fun y380 => (if y380.length + l1_5.length < 8796093022208 then ((some (y380 ++ l1_5 : List (S46))).bind fun y383 => ((dist_Weights.f k y370 y376 a1_0 a1_1 a1_2 a1_3 a1_4 y383).bind fun bt386 => ((w22_plain.f k a1_0 a1_1 a1_2 a1_3 a1_4 l1_5).bind fun bt390 => ((r22_Weights.f k l0_0 l0_1 bt390.1 bt390.2.1 bt390.2.2.1 bt390.2.2.2.1 bt390.2.2.2.2.1 bt390.2.2.2.2.2).bind fun bt398 => ((w22_same.f k bt386.1 bt398.1).bind fun t402 => (if t402 = true then (if bt386.2 = bt398.2 then ((w22_same.f k y370 l0_0).bind fun t403 => (w22_DistWeights.j0 k y376 (!t403) l0_0 l0_1 a1_0 a1_1 a1_2 a1_3 a1_4 l1_5 a1_0 a1_1 a1_2 a1_3 a1_4 y383)) else (w22_DistWeights.j0 k y376 true l0_0 l0_1 a1_0 a1_1 a1_2 a1_3 a1_4 l1_5 a1_0 a1_1 a1_2 a1_3 a1_4 y383)) else (w22_DistWeights.j0 k y376 true l0_0 l0_1 a1_0 a1_1 a1_2 a1_3 a1_4 l1_5 a1_0 a1_1 a1_2 a1_3 a1_4 y383))))))) else (none)))) else (none)))) else (none))) else (some false)) = some r := H
  have A3 := zK A30
  clear A30
  by_cases c4 : t366 = true
  ·subst c4
   have H1 : ((some (([] : List Int) : List Int)).bind fun y367 => (if y367.length + l0_0.length < 17592186044416 then ((some (y367 ++ l0_0 : List Int)).bind fun y370 => ((some (([] : List Bool) : List Bool)).bind fun y373 => (if y373.length + l0_1.length < 140737488355328 then ((some (y373 ++ l0_1 : List Bool)).bind fun y376 => ((some (([] : List (S46)) : List (S46))).bind fun y380 => (if y380.length + l1_5.length < 8796093022208 then ((some (y380 ++ l1_5 : List (S46))).bind fun y383 => ((dist_Weights.f k y370 y376 a1_0 a1_1 a1_2 a1_3 a1_4 y383).bind fun bt386 => ((w22_plain.f k a1_0 a1_1 a1_2 a1_3 a1_4 l1_5).bind fun bt390 => ((r22_Weights.f k l0_0 l0_1 bt390.1 bt390.2.1 bt390.2.2.1 bt390.2.2.2.1 bt390.2.2.2.2.1 bt390.2.2.2.2.2).bind fun bt398 => ((w22_same.f k bt386.1 bt398.1).bind fun t402 => (if t402 = true then (if bt386.2 = bt398.2 then ((w22_same.f k y370 l0_0).bind fun t403 => (w22_DistWeights.j0 k y376 (!t403) l0_0 l0_1 a1_0 a1_1 a1_2 a1_3 a1_4 l1_5 a1_0 a1_1 a1_2 a1_3 a1_4 y383)) else (w22_DistWeights.j0 k y376 true l0_0 l0_1 a1_0 a1_1 a1_2 a1_3 a1_4 l1_5 a1_0 a1_1 a1_2 a1_3 a1_4 y383)) else (w22_DistWeights.j0 k y376 true l0_0 l0_1 a1_0 a1_1 a1_2 a1_3 a1_4 l1_5 a1_0 a1_1 a1_2 a1_3 a1_4 y383))))))) else (none)))) else (none)))) else (none))) = some r := by rw [if_pos rfl] at H; exact H
   clear H
   have H := H1
   clear H1
   obtain ⟨y367, hy367⟩ : ∃ y_ : List Int, y_ = (([] : List Int)) := ⟨_, rfl⟩
   replace H : (if y367.length + l0_0.length < 17592186044416 then ((some (y367 ++ l0_0 : List Int)).bind fun y370 => ((some (([] : List Bool) : List Bool)).bind fun y373 => (if y373.length + l0_1.length < 140737488355328 then ((some (y373 ++ l0_1 : List Bool)).bind fun y376 => ((some (([] : List (S46)) : List (S46))).bind fun y380 => (if y380.length + l1_5.length < 8796093022208 then ((some (y380 ++ l1_5 : List (S46))).bind fun y383 => ((dist_Weights.f k y370 y376 a1_0 a1_1 a1_2 a1_3 a1_4 y383).bind fun bt386 => ((w22_plain.f k a1_0 a1_1 a1_2 a1_3 a1_4 l1_5).bind fun bt390 => ((r22_Weights.f k l0_0 l0_1 bt390.1 bt390.2.1 bt390.2.2.1 bt390.2.2.2.1 bt390.2.2.2.2.1 bt390.2.2.2.2.2).bind fun bt398 => ((w22_same.f k bt386.1 bt398.1).bind fun t402 => (if t402 = true then (if bt386.2 = bt398.2 then ((w22_same.f k y370 l0_0).bind fun t403 => (w22_DistWeights.j0 k y376 (!t403) l0_0 l0_1 a1_0 a1_1 a1_2 a1_3 a1_4 l1_5 a1_0 a1_1 a1_2 a1_3 a1_4 y383)) else (w22_DistWeights.j0 k y376 true l0_0 l0_1 a1_0 a1_1 a1_2 a1_3 a1_4 l1_5 a1_0 a1_1 a1_2 a1_3 a1_4 y383)) else (w22_DistWeights.j0 k y376 true l0_0 l0_1 a1_0 a1_1 a1_2 a1_3 a1_4 l1_5 a1_0 a1_1 a1_2 a1_3 a1_4 y383))))))) else (none)))) else (none)))) else (none)) = some r := by first | (rw [hy367]; with_reducible exact H) | (have H2_ := (yV _ _).symm.trans H; rw [hy367]; with_reducible exact H2_) | (have H2_ := (yV _ _).symm.trans H; with_reducible exact H2_) | with_reducible exact H | (rw [hy367]; exact H) | exact H
   have Ny367 := zK hy367
   clear hy367
   by_cases c5 : y367.length + l0_0.length < 17592186044416
   ·rw [if_pos c5] at H
    have LMc5 := zK c5
    clear c5
    obtain ⟨y370, hy370⟩ : ∃ y_ : List Int, y_ = (y367 ++ l0_0) := ⟨_, rfl⟩
    replace H : ((some (([] : List Bool) : List Bool)).bind fun y373 => (if y373.length + l0_1.length < 140737488355328 then ((some (y373 ++ l0_1 : List Bool)).bind fun y376 => ((some (([] : List (S46)) : List (S46))).bind fun y380 => (if y380.length + l1_5.length < 8796093022208 then ((some (y380 ++ l1_5 : List (S46))).bind fun y383 => ((dist_Weights.f k y370 y376 a1_0 a1_1 a1_2 a1_3 a1_4 y383).bind fun bt386 => ((w22_plain.f k a1_0 a1_1 a1_2 a1_3 a1_4 l1_5).bind fun bt390 => ((r22_Weights.f k l0_0 l0_1 bt390.1 bt390.2.1 bt390.2.2.1 bt390.2.2.2.1 bt390.2.2.2.2.1 bt390.2.2.2.2.2).bind fun bt398 => ((w22_same.f k bt386.1 bt398.1).bind fun t402 => (if t402 = true then (if bt386.2 = bt398.2 then ((w22_same.f k y370 l0_0).bind fun t403 => (w22_DistWeights.j0 k y376 (!t403) l0_0 l0_1 a1_0 a1_1 a1_2 a1_3 a1_4 l1_5 a1_0 a1_1 a1_2 a1_3 a1_4 y383)) else (w22_DistWeights.j0 k y376 true l0_0 l0_1 a1_0 a1_1 a1_2 a1_3 a1_4 l1_5 a1_0 a1_1 a1_2 a1_3 a1_4 y383)) else (w22_DistWeights.j0 k y376 true l0_0 l0_1 a1_0 a1_1 a1_2 a1_3 a1_4 l1_5 a1_0 a1_1 a1_2 a1_3 a1_4 y383))))))) else (none)))) else (none))) = some r := by first | (rw [hy370]; with_reducible exact H) | (have H2_ := (yV _ _).symm.trans H; rw [hy370]; with_reducible exact H2_) | (have H2_ := (yV _ _).symm.trans H; with_reducible exact H2_) | with_reducible exact H | (rw [hy370]; exact H) | exact H
    have Ny370 := zK hy370
    clear hy370
    obtain ⟨y373, hy373⟩ : ∃ y_ : List Bool, y_ = (([] : List Bool)) := ⟨_, rfl⟩
    replace H : (if y373.length + l0_1.length < 140737488355328 then ((some (y373 ++ l0_1 : List Bool)).bind fun y376 => ((some (([] : List (S46)) : List (S46))).bind fun y380 => (if y380.length + l1_5.length < 8796093022208 then ((some (y380 ++ l1_5 : List (S46))).bind fun y383 => ((dist_Weights.f k y370 y376 a1_0 a1_1 a1_2 a1_3 a1_4 y383).bind fun bt386 => ((w22_plain.f k a1_0 a1_1 a1_2 a1_3 a1_4 l1_5).bind fun bt390 => ((r22_Weights.f k l0_0 l0_1 bt390.1 bt390.2.1 bt390.2.2.1 bt390.2.2.2.1 bt390.2.2.2.2.1 bt390.2.2.2.2.2).bind fun bt398 => ((w22_same.f k bt386.1 bt398.1).bind fun t402 => (if t402 = true then (if bt386.2 = bt398.2 then ((w22_same.f k y370 l0_0).bind fun t403 => (w22_DistWeights.j0 k y376 (!t403) l0_0 l0_1 a1_0 a1_1 a1_2 a1_3 a1_4 l1_5 a1_0 a1_1 a1_2 a1_3 a1_4 y383)) else (w22_DistWeights.j0 k y376 true l0_0 l0_1 a1_0 a1_1 a1_2 a1_3 a1_4 l1_5 a1_0 a1_1 a1_2 a1_3 a1_4 y383)) else (w22_DistWeights.j0 k y376 true l0_0 l0_1 a1_0 a1_1 a1_2 a1_3 a1_4 l1_5 a1_0 a1_1 a1_2 a1_3 a1_4 y383))))))) else (none)))) else (none)) = some r := by first | (rw [hy373]; with_reducible exact H) | (have H2_ := (yV _ _).symm.trans H; rw [hy373]; with_reducible exact H2_) | (have H2_ := (yV _ _).symm.trans H; with_reducible exact H2_) | with_reducible exact H | (rw [hy373]; exact H) | exact H
    have Ny373 := zK hy373
    clear hy373
    by_cases c6 : y373.length + l0_1.length < 140737488355328
    ·rw [if_pos c6] at H
     have LMc6 := zK c6
     clear c6
     obtain ⟨y376, hy376⟩ : ∃ y_ : List Bool, y_ = (y373 ++ l0_1) := ⟨_, rfl⟩
     replace H : ((some (([] : List (S46)) : List (S46))).bind fun y380 => (if y380.length + l1_5.length < 8796093022208 then ((some (y380 ++ l1_5 : List (S46))).bind fun y383 => ((dist_Weights.f k y370 y376 a1_0 a1_1 a1_2 a1_3 a1_4 y383).bind fun bt386 => ((w22_plain.f k a1_0 a1_1 a1_2 a1_3 a1_4 l1_5).bind fun bt390 => ((r22_Weights.f k l0_0 l0_1 bt390.1 bt390.2.1 bt390.2.2.1 bt390.2.2.2.1 bt390.2.2.2.2.1 bt390.2.2.2.2.2).bind fun bt398 => ((w22_same.f k bt386.1 bt398.1).bind fun t402 => (if t402 = true then (if bt386.2 = bt398.2 then ((w22_same.f k y370 l0_0).bind fun t403 => (w22_DistWeights.j0 k y376 (!t403) l0_0 l0_1 a1_0 a1_1 a1_2 a1_3 a1_4 l1_5 a1_0 a1_1 a1_2 a1_3 a1_4 y383)) else (w22_DistWeights.j0 k y376 true l0_0 l0_1 a1_0 a1_1 a1_2 a1_3 a1_4 l1_5 a1_0 a1_1 a1_2 a1_3 a1_4 y383)) else (w22_DistWeights.j0 k y376 true l0_0 l0_1 a1_0 a1_1 a1_2 a1_3 a1_4 l1_5 a1_0 a1_1 a1_2 a1_3 a1_4 y383))))))) else (none))) = some r := by first | (rw [hy376]; with_reducible exact H) | (have H2_ := (yV _ _).symm.trans H; rw [hy376]; with_reducible exact H2_) | (have H2_ := (yV _ _).symm.trans H; with_reducible exact H2_) | with_reducible exact H | (rw [hy376]; exact H) | exact H
     have Ny376 := zK hy376
     clear hy376
     obtain ⟨y380, hy380⟩ : ∃ y_ : List (S46), y_ = (([] : List (S46))) := ⟨_, rfl⟩
     replace H : (if y380.length + l1_5.length < 8796093022208 then ((some (y380 ++ l1_5 : List (S46))).bind fun y383 => ((dist_Weights.f k y370 y376 a1_0 a1_1 a1_2 a1_3 a1_4 y383).bind fun bt386 => ((w22_plain.f k a1_0 a1_1 a1_2 a1_3 a1_4 l1_5).bind fun bt390 => ((r22_Weights.f k l0_0 l0_1 bt390.1 bt390.2.1 bt390.2.2.1 bt390.2.2.2.1 bt390.2.2.2.2.1 bt390.2.2.2.2.2).bind fun bt398 => ((w22_same.f k bt386.1 bt398.1).bind fun t402 => (if t402 = true then (if bt386.2 = bt398.2 then ((w22_same.f k y370 l0_0).bind fun t403 => (w22_DistWeights.j0 k y376 (!t403) l0_0 l0_1 a1_0 a1_1 a1_2 a1_3 a1_4 l1_5 a1_0 a1_1 a1_2 a1_3 a1_4 y383)) else (w22_DistWeights.j0 k y376 true l0_0 l0_1 a1_0 a1_1 a1_2 a1_3 a1_4 l1_5 a1_0 a1_1 a1_2 a1_3 a1_4 y383)) else (w22_DistWeights.j0 k y376 true l0_0 l0_1 a1_0 a1_1 a1_2 a1_3 a1_4 l1_5 a1_0 a1_1 a1_2 a1_3 a1_4 y383))))))) else (none)) = some r := by first | (rw [hy380]; with_reducible exact H) | (have H2_ := (yV _ _).symm.trans H; rw [hy380]; with_reducible exact H2_) | (have H2_ := (yV _ _).symm.trans H; with_reducible exact H2_) | with_reducible exact H | (rw [hy380]; exact H) | exact H
     have Ny380 := zK hy380
     clear hy380
     by_cases c7 : y380.length + l1_5.length < 8796093022208
     ·rw [if_pos c7] at H
      have LMc7 := zK c7
      clear c7
      obtain ⟨y383, hy383⟩ : ∃ y_ : List (S46), y_ = (y380 ++ l1_5) := ⟨_, rfl⟩
      replace H : ((dist_Weights.f k y370 y376 a1_0 a1_1 a1_2 a1_3 a1_4 y383).bind fun bt386 => ((w22_plain.f k a1_0 a1_1 a1_2 a1_3 a1_4 l1_5).bind fun bt390 => ((r22_Weights.f k l0_0 l0_1 bt390.1 bt390.2.1 bt390.2.2.1 bt390.2.2.2.1 bt390.2.2.2.2.1 bt390.2.2.2.2.2).bind fun bt398 => ((w22_same.f k bt386.1 bt398.1).bind fun t402 => (if t402 = true then (if bt386.2 = bt398.2 then ((w22_same.f k y370 l0_0).bind fun t403 => (w22_DistWeights.j0 k y376 (!t403) l0_0 l0_1 a1_0 a1_1 a1_2 a1_3 a1_4 l1_5 a1_0 a1_1 a1_2 a1_3 a1_4 y383)) else (w22_DistWeights.j0 k y376 true l0_0 l0_1 a1_0 a1_1 a1_2 a1_3 a1_4 l1_5 a1_0 a1_1 a1_2 a1_3 a1_4 y383)) else (w22_DistWeights.j0 k y376 true l0_0 l0_1 a1_0 a1_1 a1_2 a1_3 a1_4 l1_5 a1_0 a1_1 a1_2 a1_3 a1_4 y383)))))) = some r := by first | (rw [hy383]; with_reducible exact H) | (have H2_ := (yV _ _).symm.trans H; rw [hy383]; with_reducible exact H2_) | (have H2_ := (yV _ _).symm.trans H; with_reducible exact H2_) | with_reducible exact H | (rw [hy383]; exact H) | exact H
      have Ny383 := zK hy383
      clear hy383
      replace H := yA.mp H
      obtain ⟨⟨t386, t389⟩, A80, H⟩ := H
      replace H : ((w22_plain.f k a1_0 a1_1 a1_2 a1_3 a1_4 l1_5).bind fun bt390 => ((r22_Weights.f k l0_0 l0_1 bt390.1 bt390.2.1 bt390.2.2.1 bt390.2.2.2.1 bt390.2.2.2.2.1 bt390.2.2.2.2.2).bind fun bt398 => ((w22_same.f k t386 bt398.1).bind fun t402 => (if t402 = true then (if t389 = bt398.2 then ((w22_same.f k y370 l0_0).bind fun t403 => (w22_DistWeights.j0 k y376 (!t403) l0_0 l0_1 a1_0 a1_1 a1_2 a1_3 a1_4 l1_5 a1_0 a1_1 a1_2 a1_3 a1_4 y383)) else (w22_DistWeights.j0 k y376 true l0_0 l0_1 a1_0 a1_1 a1_2 a1_3 a1_4 l1_5 a1_0 a1_1 a1_2 a1_3 a1_4 y383)) else (w22_DistWeights.j0 k y376 true l0_0 l0_1 a1_0 a1_1 a1_2 a1_3 a1_4 l1_5 a1_0 a1_1 a1_2 a1_3 a1_4 y383))))) = some r := H
      have A8 := zK A80
      clear A80
      replace H := yA.mp H
      obtain ⟨⟨t390, t391, t392, t393, t394, t395⟩, A90, H⟩ := H
      replace H : ((r22_Weights.f k l0_0 l0_1 t390 t391 t392 t393 t394 t395).bind fun bt398 => ((w22_same.f k t386 bt398.1).bind fun t402 => (if t402 = true then (if t389 = bt398.2 then ((w22_same.f k y370 l0_0).bind fun t403 => (w22_DistWeights.j0 k y376 (!t403) l0_0 l0_1 a1_0 a1_1 a1_2 a1_3 a1_4 l1_5 a1_0 a1_1 a1_2 a1_3 a1_4 y383)) else (w22_DistWeights.j0 k y376 true l0_0 l0_1 a1_0 a1_1 a1_2 a1_3 a1_4 l1_5 a1_0 a1_1 a1_2 a1_3 a1_4 y383)) else (w22_DistWeights.j0 k y376 true l0_0 l0_1 a1_0 a1_1 a1_2 a1_3 a1_4 l1_5 a1_0 a1_1 a1_2 a1_3 a1_4 y383)))) = some r := H
      have A9 := zK A90
      clear A90
      replace H := yA.mp H
      obtain ⟨⟨t398, t401⟩, A100, H⟩ := H
      replace H : ((w22_same.f k t386 t398).bind fun t402 => (if t402 = true then (if t389 = t401 then ((w22_same.f k y370 l0_0).bind fun t403 => (w22_DistWeights.j0 k y376 (!t403) l0_0 l0_1 a1_0 a1_1 a1_2 a1_3 a1_4 l1_5 a1_0 a1_1 a1_2 a1_3 a1_4 y383)) else (w22_DistWeights.j0 k y376 true l0_0 l0_1 a1_0 a1_1 a1_2 a1_3 a1_4 l1_5 a1_0 a1_1 a1_2 a1_3 a1_4 y383)) else (w22_DistWeights.j0 k y376 true l0_0 l0_1 a1_0 a1_1 a1_2 a1_3 a1_4 l1_5 a1_0 a1_1 a1_2 a1_3 a1_4 y383))) = some r := H
      have A10 := zK A100
      clear A100
      have HC11 := zK H
      clear H
      go_enter Try.func4, Try.ntmps4
      try go_wp2_with (first | ((with_reducible refine gate_dst (N := 2) rfl ?_); refine box_event ?hg (N := 2) ?hd (cs := #[.slice A0_0 l0_0.length c0_0, .slice A0_1 l0_1.length c0_1]) (t := 39) ?hr ?_; (case hd => rfl); (case hg => rfl); (case hr => first | (go_simp; done) | (go_simp; rfl)); intro Z15 hg w12 hbox hb; have n0_ := zK (yL (by repeat (first | (with_reducible first | exact HB.out | apply zJ | apply zD | apply zE) | exact HB.out)) hb); have n1_ := zK (hbox); have n2_ := zK ((by rw [hg]; exact (yK (by repeat (first | (with_reducible first | exact HB.out | apply zJ | apply zD | apply zE) | exact HB.out))) : w.heap.size <= Z15)); have n3_ := zK ((by rw [hg]; exact (yK (by repeat (first | (with_reducible first | exact HB.out | apply zJ | apply zD | apply zE) | exact HB.out))) : w.heap.size <= Z15)); clear HB; have HB := n0_; have Z0 := n1_; have Z6 := n2_; have Z3 := n3_; clear n0_ n1_ n2_ n3_ hb hbox hg) | ((with_reducible refine gate_dst (N := 3) rfl ?_); refine box_event ?hg (N := 3) ?hd (cs := #[.int .i64 a1_0, .int .i64 a1_1, .int .i64 a1_2, .int .i64 a1_3, .int .i64 a1_4, .slice A1_5 l1_5.length c1_5]) (t := 24) ?hr ?_; (case hd => rfl); (case hg => rfl); (case hr => first | (go_simp; done) | (go_simp; rfl)); intro Z16 hg w13 hbox hb; have n0_ := zK (zP (g := Z15) (o := o1 A0_0 l0_0 c0_0 A0_1 l0_1 c0_1) (by (with_reducible repeat (first | apply zF | apply zH | apply zG)); exact Z0.out) hb); have n1_ := zK (yL (by repeat (first | (with_reducible first | exact HB.out | apply zJ | apply zD | apply zE | refine zI ?_ Z3.out) | exact HB.out)) hb); have n2_ := zK (hbox); have n3_ := zK ((by rw [hg]; exact (yK (by repeat (first | (with_reducible first | exact HB.out | apply zJ | apply zD | apply zE | refine zI ?_ Z3.out) | exact HB.out))) : w.heap.size <= Z16)); have n4_ := zK ((by rw [hg]; exact (yK (by repeat (first | (with_reducible first | exact HB.out | apply zJ | apply zD | apply zE | refine zI ?_ Z3.out) | exact HB.out))) : w.heap.size <= Z16)); have n5_ := zK ((by rw [hg]; exact ym (yo (g := Z15) (o := o1 A0_0 l0_0 c0_0 A0_1 l0_1 c0_1) (by (with_reducible repeat (first | apply zF | apply zH | apply zG)); exact Z0.out)) : Z15 ≠ Z16)); have n6_ := zK ((by rw [hg]; exact yn (yo (g := Z15) (o := o1 A0_0 l0_0 c0_0 A0_1 l0_1 c0_1) (by (with_reducible repeat (first | apply zF | apply zH | apply zG)); exact Z0.out)) : Z16 ≠ Z15)); clear Z0 HB; have Z0 := n0_; have HB := n1_; have Z1 := n2_; have Z7 := n3_; have Z4 := n4_; have Z9 := n5_; have Z11 := n6_; clear n0_ n1_ n2_ n3_ n4_ n5_ n6_ hb hbox hg) | ((with_reducible refine gate_callee (f := 13) rfl ?_); refine goesL_ (some 14) rfl rfl Try.func13 (by kernel_rfl) rfl #[] rfl (by (try simp only [yH, yI, yJ]); first | done | rfl | (simp only [yG, yF]; rfl)) ?_; (with_reducible refine (w22_awake.calls k  true _ A3.out).mono ?_); rintro e w14 ⟨rfl, hb⟩; refine ⟨_, rfl, ?_⟩; have n0_ := zK (zP (g := Z15) (o := o1 A0_0 l0_0 c0_0 A0_1 l0_1 c0_1) (by (with_reducible repeat (first | apply zF | apply zH | apply zG)); exact Z0.out) hb); have n1_ := zK (zP (g := Z16) (o := o2 a1_0 a1_1 a1_2 a1_3 a1_4 A1_5 l1_5 c1_5) (by (with_reducible repeat (first | apply zF | apply zH | apply zG)); exact Z1.out) hb); have n2_ := zK (yL (by repeat (first | (with_reducible first | exact HB.out | apply zJ | apply zD | apply zE | refine zI ?_ Z3.out | refine zI ?_ Z4.out) | exact HB.out)) hb); clear Z0 Z1 HB; have Z0 := n0_; have Z1 := n1_; have HB := n2_; clear n0_ n1_ n2_; (try clear hb); (try clear hb2); (try clear hk); (try clear hi)))
      have n0_ := zK (zH Z0.out)
      have n1_ := zK (zH Z1.out)
      have n2_ := zK (zE HB.out)
      clear Z0 Z1 HB
      have Z0 := n0_; have Z1 := n1_; have HB := n2_
      clear n0_ n1_ n2_
      refine start_ (n := 13) (S := fun w' => w'.cell? ⟨Z15, 0, none⟩ = some (.slice A0_0 l0_0.length c0_0) /\ w'.cell? ⟨Z15, 1, none⟩ = some (.slice A0_1 l0_1.length c0_1) /\ w'.cell? ⟨Z16, 0, none⟩ = some (.int .i64 a1_0) /\ w'.cell? ⟨Z16, 1, none⟩ = some (.int .i64 a1_1) /\ w'.cell? ⟨Z16, 2, none⟩ = some (.int .i64 a1_2) /\ w'.cell? ⟨Z16, 3, none⟩ = some (.int .i64 a1_3) /\ w'.cell? ⟨Z16, 4, none⟩ = some (.int .i64 a1_4) /\ w'.cell? ⟨Z16, 5, none⟩ = some (.slice A1_5 l1_5.length c1_5)) (ds := []) #[false, false, false, false, false, false, false, false, false, false, false, false, false] (by kernel_rfl) rfl rfl ⟨(zO Z0.out 0).trans rfl, (zO Z0.out 1).trans rfl, (zO Z1.out 0).trans rfl, (zO Z1.out 1).trans rfl, (zO Z1.out 2).trans rfl, (zO Z1.out 3).trans rfl, (zO Z1.out 4).trans rfl, (zO Z1.out 5).trans rfl⟩ (fun hHeld => ?_); refine with_tabW w22_DistWeights.tab3 w22_DistWeights.bits3 (fun HT_ HW_ => ?_)
      generalize w14.drew = w15 at Z0 Z1 HB hHeld ⊢
      refine pure_ (i := 1) (N := some 17) (v := ?_) (a' := ?_) #[false, true, false, false, false, false, false, false, false, false, false, false, false] rfl rfl (any_of HT_.out (by kernel_rfl)) (fun _ _ _ h => h) (Or.inl ⟨by rfl, ?_⟩) ?_ ?_
      rotate_left
      ·intro w'
       go_simp
       with_reducible rfl
      rotate_left
      ·simp only [Act.put, zA, zB, zC, i64_w, i32_w]
       rfl
      refine pure_ (i := 5) (N := some 21) (v := ?_) (a' := ?_) #[false, true, false, false, false, true, false, false, false, false, false, false, false] rfl rfl (any_of HT_.out (by kernel_rfl)) (fun _ _ _ h => h) (Or.inl ⟨by rfl, ?_⟩) ?_ ?_
      rotate_left
      ·intro w'
       go_simp
       with_reducible rfl
      rotate_left
      ·simp only [Act.put, zA, zB, zC, i64_w, i32_w]
       rfl
      refine take_ (i := 2) (N := some 18) (v := ?_) (a' := ?_) #[false, true, true, false, false, true, false, false, false, false, false, false, false] rfl rfl (take_ofW HT_.out HW_.out (by kernel_rfl)) (fun _ _ _ h => h) (Or.inl ⟨by rfl, ?_⟩) hHeld ?_ ?_
      rotate_left
      ·rintro w' ⟨s0, s1, s2, s3, s4, s5, s6, s7⟩
       go_simp
       with_reducible rfl
      rotate_left
      ·simp only [Act.put, zA, zB, zC, i64_w, i32_w]
       rfl
      refine take_ (i := 6) (N := some 22) (v := ?_) (a' := ?_) #[false, true, true, false, false, true, true, false, false, false, false, false, false] rfl rfl (take_ofW HT_.out HW_.out (by kernel_rfl)) (fun _ _ _ h => h) (Or.inl ⟨by rfl, ?_⟩) hHeld ?_ ?_
      rotate_left
      ·rintro w' ⟨s0, s1, s2, s3, s4, s5, s6, s7⟩
       go_simp
       with_reducible rfl
      rotate_left
      ·simp only [Act.put, zA, zB, zC, i64_w, i32_w]
       rfl
      refine take_ (i := 8) (N := some 24) (v := ?_) (a' := ?_) #[false, true, true, false, false, true, true, false, true, false, false, false, false] rfl rfl (take_ofW HT_.out HW_.out (by kernel_rfl)) (fun _ _ _ h => h) (Or.inl ⟨by rfl, ?_⟩) hHeld ?_ ?_
      rotate_left
      ·rintro w' ⟨s0, s1, s2, s3, s4, s5, s6, s7⟩
       go_simp
       with_reducible rfl
      rotate_left
      ·simp only [Act.put, zA, zB, zC, i64_w, i32_w]
       rfl
      refine join_ (σ := Value × Value × Value × Value × Nat) 3 #[true, true, true, true, true, true, true, true, true, true, false, false, false] (fun s_ => [(16, s_.1), (19, s_.2.1), (20, s_.2.2.1), (23, s_.2.2.2.1), (7, .pointer (some ⟨s_.2.2.2.2, 0, none⟩))]) (fun s_ w' => (w'.cell? ⟨Z15, 0, none⟩ = some (.slice A0_0 l0_0.length c0_0) /\ w'.cell? ⟨Z15, 1, none⟩ = some (.slice A0_1 l0_1.length c0_1) /\ w'.cell? ⟨Z16, 0, none⟩ = some (.int .i64 a1_0) /\ w'.cell? ⟨Z16, 1, none⟩ = some (.int .i64 a1_1) /\ w'.cell? ⟨Z16, 2, none⟩ = some (.int .i64 a1_2) /\ w'.cell? ⟨Z16, 3, none⟩ = some (.int .i64 a1_3) /\ w'.cell? ⟨Z16, 4, none⟩ = some (.int .i64 a1_4) /\ w'.cell? ⟨Z16, 5, none⟩ = some (.slice A1_5 l1_5.length c1_5)) /\ (Kd.R (Kd.int .i64) 2 w' w.heap.size (fun _ => True) s_.2.1 y370) /\ (Kd.R Kd.bool 4 w' w.heap.size (fun _ => True) s_.2.2.2.1 y376) /\ (w'.heap[Z15]? = some (.cells #[.slice A0_0 l0_0.length c0_0, .slice A0_1 l0_1.length c0_1] 39 (0, 0))) /\ (w'.heap[Z16]? = some (.cells #[.int .i64 a1_0, .int .i64 a1_1, .int .i64 a1_2, .int .i64 a1_3, .int .i64 a1_4, .slice A1_5 l1_5.length c1_5] 24 (0, 0))) /\ (w'.heap[s_.2.2.2.2]? = some (.cells #[.int .i64 0, .int .i64 0, .int .i64 0, .int .i64 0, .int .i64 0, .slice none 0 0] 24 (0, 0))) /\ (w.heap.size <= s_.2.2.2.2) /\ (w.heap.size <= s_.2.2.2.2) /\ (Z15 ≠ s_.2.2.2.2) /\ (s_.2.2.2.2 ≠ Z15) /\ (Z16 ≠ s_.2.2.2.2) /\ (s_.2.2.2.2 ≠ Z16) /\ (Below w.heap.size w w')) ?_ ?_
      rotate_left
      ·intro hJ0_3_4_7_9
       refine join_ (σ := Value × Value × Value × Value) 4 #[true, true, true, true, true, true, true, true, true, false, false, false, false] (fun s_ => [(16, s_.1), (19, s_.2.1), (20, s_.2.2.1), (23, s_.2.2.2)]) (fun s_ w' => (w'.cell? ⟨Z15, 0, none⟩ = some (.slice A0_0 l0_0.length c0_0) /\ w'.cell? ⟨Z15, 1, none⟩ = some (.slice A0_1 l0_1.length c0_1) /\ w'.cell? ⟨Z16, 0, none⟩ = some (.int .i64 a1_0) /\ w'.cell? ⟨Z16, 1, none⟩ = some (.int .i64 a1_1) /\ w'.cell? ⟨Z16, 2, none⟩ = some (.int .i64 a1_2) /\ w'.cell? ⟨Z16, 3, none⟩ = some (.int .i64 a1_3) /\ w'.cell? ⟨Z16, 4, none⟩ = some (.int .i64 a1_4) /\ w'.cell? ⟨Z16, 5, none⟩ = some (.slice A1_5 l1_5.length c1_5)) /\ (Kd.R (Kd.int .i64) 2 w' w.heap.size (fun _ => True) s_.2.1 y370) /\ (Kd.R Kd.bool 4 w' w.heap.size (fun _ => True) s_.2.2.2 y376) /\ (w'.heap[Z15]? = some (.cells #[.slice A0_0 l0_0.length c0_0, .slice A0_1 l0_1.length c0_1] 39 (0, 0))) /\ (w'.heap[Z16]? = some (.cells #[.int .i64 a1_0, .int .i64 a1_1, .int .i64 a1_2, .int .i64 a1_3, .int .i64 a1_4, .slice A1_5 l1_5.length c1_5] 24 (0, 0))) /\ (Below w.heap.size w w')) ?_ ?_
       rotate_left
       ·intro hJ0_3_4_7
        refine join_ (σ := Value × Value × Value × Nat) 4 #[true, true, true, true, true, true, true, false, true, true, false, false, false] (fun s_ => [(16, s_.1), (19, s_.2.1), (20, s_.2.2.1), (7, .pointer (some ⟨s_.2.2.2, 0, none⟩))]) (fun s_ w' => (w'.cell? ⟨Z15, 0, none⟩ = some (.slice A0_0 l0_0.length c0_0) /\ w'.cell? ⟨Z15, 1, none⟩ = some (.slice A0_1 l0_1.length c0_1) /\ w'.cell? ⟨Z16, 0, none⟩ = some (.int .i64 a1_0) /\ w'.cell? ⟨Z16, 1, none⟩ = some (.int .i64 a1_1) /\ w'.cell? ⟨Z16, 2, none⟩ = some (.int .i64 a1_2) /\ w'.cell? ⟨Z16, 3, none⟩ = some (.int .i64 a1_3) /\ w'.cell? ⟨Z16, 4, none⟩ = some (.int .i64 a1_4) /\ w'.cell? ⟨Z16, 5, none⟩ = some (.slice A1_5 l1_5.length c1_5)) /\ (Kd.R (Kd.int .i64) 2 w' w.heap.size (fun _ => True) s_.2.1 y370) /\ (Kd.R Kd.bool 4 w' w.heap.size (fun _ => True) s_.2.2.1 y373) /\ (w'.heap[Z15]? = some (.cells #[.slice A0_0 l0_0.length c0_0, .slice A0_1 l0_1.length c0_1] 39 (0, 0))) /\ (w'.heap[Z16]? = some (.cells #[.int .i64 a1_0, .int .i64 a1_1, .int .i64 a1_2, .int .i64 a1_3, .int .i64 a1_4, .slice A1_5 l1_5.length c1_5] 24 (0, 0))) /\ (w'.heap[s_.2.2.2]? = some (.cells #[.int .i64 0, .int .i64 0, .int .i64 0, .int .i64 0, .int .i64 0, .slice none 0 0] 24 (0, 0))) /\ (w.heap.size <= s_.2.2.2) /\ (w.heap.size <= s_.2.2.2) /\ (Z15 ≠ s_.2.2.2) /\ (s_.2.2.2 ≠ Z15) /\ (Z16 ≠ s_.2.2.2) /\ (s_.2.2.2 ≠ Z16) /\ (Below w.heap.size w w')) ?_ ?_
        rotate_left
        ·intro hJ0_3_4_9
         refine join_ (σ := Value × Value × Value) 5 #[true, true, true, true, true, true, true, false, true, false, false, false, false] (fun s_ => [(16, s_.1), (19, s_.2.1), (20, s_.2.2)]) (fun s_ w' => (w'.cell? ⟨Z15, 0, none⟩ = some (.slice A0_0 l0_0.length c0_0) /\ w'.cell? ⟨Z15, 1, none⟩ = some (.slice A0_1 l0_1.length c0_1) /\ w'.cell? ⟨Z16, 0, none⟩ = some (.int .i64 a1_0) /\ w'.cell? ⟨Z16, 1, none⟩ = some (.int .i64 a1_1) /\ w'.cell? ⟨Z16, 2, none⟩ = some (.int .i64 a1_2) /\ w'.cell? ⟨Z16, 3, none⟩ = some (.int .i64 a1_3) /\ w'.cell? ⟨Z16, 4, none⟩ = some (.int .i64 a1_4) /\ w'.cell? ⟨Z16, 5, none⟩ = some (.slice A1_5 l1_5.length c1_5)) /\ (Kd.R (Kd.int .i64) 2 w' w.heap.size (fun _ => True) s_.2.1 y370) /\ (Kd.R Kd.bool 4 w' w.heap.size (fun _ => True) s_.2.2 y373) /\ (w'.heap[Z15]? = some (.cells #[.slice A0_0 l0_0.length c0_0, .slice A0_1 l0_1.length c0_1] 39 (0, 0))) /\ (w'.heap[Z16]? = some (.cells #[.int .i64 a1_0, .int .i64 a1_1, .int .i64 a1_2, .int .i64 a1_3, .int .i64 a1_4, .slice A1_5 l1_5.length c1_5] 24 (0, 0))) /\ (Below w.heap.size w w')) ?_ ?_
         rotate_left
         ·intro hJ0_3_4
          refine join_ (σ := Value × Value × Nat) 5 #[true, true, true, true, false, true, true, false, true, true, false, false, false] (fun s_ => [(16, s_.1), (19, s_.2.1), (7, .pointer (some ⟨s_.2.2, 0, none⟩))]) (fun s_ w' => (w'.cell? ⟨Z15, 0, none⟩ = some (.slice A0_0 l0_0.length c0_0) /\ w'.cell? ⟨Z15, 1, none⟩ = some (.slice A0_1 l0_1.length c0_1) /\ w'.cell? ⟨Z16, 0, none⟩ = some (.int .i64 a1_0) /\ w'.cell? ⟨Z16, 1, none⟩ = some (.int .i64 a1_1) /\ w'.cell? ⟨Z16, 2, none⟩ = some (.int .i64 a1_2) /\ w'.cell? ⟨Z16, 3, none⟩ = some (.int .i64 a1_3) /\ w'.cell? ⟨Z16, 4, none⟩ = some (.int .i64 a1_4) /\ w'.cell? ⟨Z16, 5, none⟩ = some (.slice A1_5 l1_5.length c1_5)) /\ (Kd.R (Kd.int .i64) 2 w' w.heap.size (fun _ => True) s_.2.1 y370) /\ (w'.heap[Z15]? = some (.cells #[.slice A0_0 l0_0.length c0_0, .slice A0_1 l0_1.length c0_1] 39 (0, 0))) /\ (w'.heap[Z16]? = some (.cells #[.int .i64 a1_0, .int .i64 a1_1, .int .i64 a1_2, .int .i64 a1_3, .int .i64 a1_4, .slice A1_5 l1_5.length c1_5] 24 (0, 0))) /\ (w'.heap[s_.2.2]? = some (.cells #[.int .i64 0, .int .i64 0, .int .i64 0, .int .i64 0, .int .i64 0, .slice none 0 0] 24 (0, 0))) /\ (w.heap.size <= s_.2.2) /\ (w.heap.size <= s_.2.2) /\ (Z15 ≠ s_.2.2) /\ (s_.2.2 ≠ Z15) /\ (Z16 ≠ s_.2.2) /\ (s_.2.2 ≠ Z16) /\ (Below w.heap.size w w')) ?_ ?_
          rotate_left
          ·intro hJ0_3_9
           refine join_ (σ := Value × Value × Nat) 5 #[true, true, true, false, true, true, true, false, true, true, false, false, false] (fun s_ => [(16, s_.1), (20, s_.2.1), (7, .pointer (some ⟨s_.2.2, 0, none⟩))]) (fun s_ w' => (w'.cell? ⟨Z15, 0, none⟩ = some (.slice A0_0 l0_0.length c0_0) /\ w'.cell? ⟨Z15, 1, none⟩ = some (.slice A0_1 l0_1.length c0_1) /\ w'.cell? ⟨Z16, 0, none⟩ = some (.int .i64 a1_0) /\ w'.cell? ⟨Z16, 1, none⟩ = some (.int .i64 a1_1) /\ w'.cell? ⟨Z16, 2, none⟩ = some (.int .i64 a1_2) /\ w'.cell? ⟨Z16, 3, none⟩ = some (.int .i64 a1_3) /\ w'.cell? ⟨Z16, 4, none⟩ = some (.int .i64 a1_4) /\ w'.cell? ⟨Z16, 5, none⟩ = some (.slice A1_5 l1_5.length c1_5)) /\ (Kd.R (Kd.int .i64) 2 w' w.heap.size (fun _ => True) s_.1 y367) /\ (Kd.R Kd.bool 4 w' w.heap.size (fun _ => True) s_.2.1 y373) /\ (w'.heap[Z15]? = some (.cells #[.slice A0_0 l0_0.length c0_0, .slice A0_1 l0_1.length c0_1] 39 (0, 0))) /\ (w'.heap[Z16]? = some (.cells #[.int .i64 a1_0, .int .i64 a1_1, .int .i64 a1_2, .int .i64 a1_3, .int .i64 a1_4, .slice A1_5 l1_5.length c1_5] 24 (0, 0))) /\ (w'.heap[s_.2.2]? = some (.cells #[.int .i64 0, .int .i64 0, .int .i64 0, .int .i64 0, .int .i64 0, .slice none 0 0] 24 (0, 0))) /\ (w.heap.size <= s_.2.2) /\ (w.heap.size <= s_.2.2) /\ (Z15 ≠ s_.2.2) /\ (s_.2.2 ≠ Z15) /\ (Z16 ≠ s_.2.2) /\ (s_.2.2 ≠ Z16) /\ (Below w.heap.size w w')) ?_ ?_
           rotate_left
           ·intro hJ0_4_9
            refine join_ (σ := Value × Value) 6 #[true, true, true, true, false, true, true, false, true, false, false, false, false] (fun s_ => [(16, s_.1), (19, s_.2)]) (fun s_ w' => (w'.cell? ⟨Z15, 0, none⟩ = some (.slice A0_0 l0_0.length c0_0) /\ w'.cell? ⟨Z15, 1, none⟩ = some (.slice A0_1 l0_1.length c0_1) /\ w'.cell? ⟨Z16, 0, none⟩ = some (.int .i64 a1_0) /\ w'.cell? ⟨Z16, 1, none⟩ = some (.int .i64 a1_1) /\ w'.cell? ⟨Z16, 2, none⟩ = some (.int .i64 a1_2) /\ w'.cell? ⟨Z16, 3, none⟩ = some (.int .i64 a1_3) /\ w'.cell? ⟨Z16, 4, none⟩ = some (.int .i64 a1_4) /\ w'.cell? ⟨Z16, 5, none⟩ = some (.slice A1_5 l1_5.length c1_5)) /\ (Kd.R (Kd.int .i64) 2 w' w.heap.size (fun _ => True) s_.2 y370) /\ (w'.heap[Z15]? = some (.cells #[.slice A0_0 l0_0.length c0_0, .slice A0_1 l0_1.length c0_1] 39 (0, 0))) /\ (w'.heap[Z16]? = some (.cells #[.int .i64 a1_0, .int .i64 a1_1, .int .i64 a1_2, .int .i64 a1_3, .int .i64 a1_4, .slice A1_5 l1_5.length c1_5] 24 (0, 0))) /\ (Below w.heap.size w w')) ?_ ?_
            rotate_left
            ·intro hJ0_3
             refine join_ (σ := Value × Value) 6 #[true, true, true, false, true, true, true, false, true, false, false, false, false] (fun s_ => [(16, s_.1), (20, s_.2)]) (fun s_ w' => (w'.cell? ⟨Z15, 0, none⟩ = some (.slice A0_0 l0_0.length c0_0) /\ w'.cell? ⟨Z15, 1, none⟩ = some (.slice A0_1 l0_1.length c0_1) /\ w'.cell? ⟨Z16, 0, none⟩ = some (.int .i64 a1_0) /\ w'.cell? ⟨Z16, 1, none⟩ = some (.int .i64 a1_1) /\ w'.cell? ⟨Z16, 2, none⟩ = some (.int .i64 a1_2) /\ w'.cell? ⟨Z16, 3, none⟩ = some (.int .i64 a1_3) /\ w'.cell? ⟨Z16, 4, none⟩ = some (.int .i64 a1_4) /\ w'.cell? ⟨Z16, 5, none⟩ = some (.slice A1_5 l1_5.length c1_5)) /\ (Kd.R (Kd.int .i64) 2 w' w.heap.size (fun _ => True) s_.1 y367) /\ (Kd.R Kd.bool 4 w' w.heap.size (fun _ => True) s_.2 y373) /\ (w'.heap[Z15]? = some (.cells #[.slice A0_0 l0_0.length c0_0, .slice A0_1 l0_1.length c0_1] 39 (0, 0))) /\ (w'.heap[Z16]? = some (.cells #[.int .i64 a1_0, .int .i64 a1_1, .int .i64 a1_2, .int .i64 a1_3, .int .i64 a1_4, .slice A1_5 l1_5.length c1_5] 24 (0, 0))) /\ (Below w.heap.size w w')) ?_ ?_
             rotate_left
             ·intro hJ0_4
              refine join_ (σ := Value × Nat) 6 #[true, true, true, false, false, true, true, false, true, true, false, false, false] (fun s_ => [(16, s_.1), (7, .pointer (some ⟨s_.2, 0, none⟩))]) (fun s_ w' => (w'.cell? ⟨Z15, 0, none⟩ = some (.slice A0_0 l0_0.length c0_0) /\ w'.cell? ⟨Z15, 1, none⟩ = some (.slice A0_1 l0_1.length c0_1) /\ w'.cell? ⟨Z16, 0, none⟩ = some (.int .i64 a1_0) /\ w'.cell? ⟨Z16, 1, none⟩ = some (.int .i64 a1_1) /\ w'.cell? ⟨Z16, 2, none⟩ = some (.int .i64 a1_2) /\ w'.cell? ⟨Z16, 3, none⟩ = some (.int .i64 a1_3) /\ w'.cell? ⟨Z16, 4, none⟩ = some (.int .i64 a1_4) /\ w'.cell? ⟨Z16, 5, none⟩ = some (.slice A1_5 l1_5.length c1_5)) /\ (Kd.R (Kd.int .i64) 2 w' w.heap.size (fun _ => True) s_.1 y367) /\ (w'.heap[Z15]? = some (.cells #[.slice A0_0 l0_0.length c0_0, .slice A0_1 l0_1.length c0_1] 39 (0, 0))) /\ (w'.heap[Z16]? = some (.cells #[.int .i64 a1_0, .int .i64 a1_1, .int .i64 a1_2, .int .i64 a1_3, .int .i64 a1_4, .slice A1_5 l1_5.length c1_5] 24 (0, 0))) /\ (w'.heap[s_.2]? = some (.cells #[.int .i64 0, .int .i64 0, .int .i64 0, .int .i64 0, .int .i64 0, .slice none 0 0] 24 (0, 0))) /\ (w.heap.size <= s_.2) /\ (w.heap.size <= s_.2) /\ (Z15 ≠ s_.2) /\ (s_.2 ≠ Z15) /\ (Z16 ≠ s_.2) /\ (s_.2 ≠ Z16) /\ (Below w.heap.size w w')) ?_ ?_
              rotate_left
              ·intro hJ0_9
               refine join_ (σ := Value × Nat) 6 #[false, true, true, false, true, true, true, false, true, true, false, false, false] (fun s_ => [(20, s_.1), (7, .pointer (some ⟨s_.2, 0, none⟩))]) (fun s_ w' => (w'.cell? ⟨Z15, 0, none⟩ = some (.slice A0_0 l0_0.length c0_0) /\ w'.cell? ⟨Z15, 1, none⟩ = some (.slice A0_1 l0_1.length c0_1) /\ w'.cell? ⟨Z16, 0, none⟩ = some (.int .i64 a1_0) /\ w'.cell? ⟨Z16, 1, none⟩ = some (.int .i64 a1_1) /\ w'.cell? ⟨Z16, 2, none⟩ = some (.int .i64 a1_2) /\ w'.cell? ⟨Z16, 3, none⟩ = some (.int .i64 a1_3) /\ w'.cell? ⟨Z16, 4, none⟩ = some (.int .i64 a1_4) /\ w'.cell? ⟨Z16, 5, none⟩ = some (.slice A1_5 l1_5.length c1_5)) /\ (Kd.R Kd.bool 4 w' w.heap.size (fun _ => True) s_.1 y373) /\ (w'.heap[Z15]? = some (.cells #[.slice A0_0 l0_0.length c0_0, .slice A0_1 l0_1.length c0_1] 39 (0, 0))) /\ (w'.heap[Z16]? = some (.cells #[.int .i64 a1_0, .int .i64 a1_1, .int .i64 a1_2, .int .i64 a1_3, .int .i64 a1_4, .slice A1_5 l1_5.length c1_5] 24 (0, 0))) /\ (w'.heap[s_.2]? = some (.cells #[.int .i64 0, .int .i64 0, .int .i64 0, .int .i64 0, .int .i64 0, .slice none 0 0] 24 (0, 0))) /\ (w.heap.size <= s_.2) /\ (w.heap.size <= s_.2) /\ (Z15 ≠ s_.2) /\ (s_.2 ≠ Z15) /\ (Z16 ≠ s_.2) /\ (s_.2 ≠ Z16) /\ (Below w.heap.size w w')) ?_ ?_
               rotate_left
               ·intro hJ4_9
                refine join_ (σ := Value) 7 #[true, true, true, false, false, true, true, false, true, false, false, false, false] (fun s_ => [(16, s_)]) (fun s_ w' => (w'.cell? ⟨Z15, 0, none⟩ = some (.slice A0_0 l0_0.length c0_0) /\ w'.cell? ⟨Z15, 1, none⟩ = some (.slice A0_1 l0_1.length c0_1) /\ w'.cell? ⟨Z16, 0, none⟩ = some (.int .i64 a1_0) /\ w'.cell? ⟨Z16, 1, none⟩ = some (.int .i64 a1_1) /\ w'.cell? ⟨Z16, 2, none⟩ = some (.int .i64 a1_2) /\ w'.cell? ⟨Z16, 3, none⟩ = some (.int .i64 a1_3) /\ w'.cell? ⟨Z16, 4, none⟩ = some (.int .i64 a1_4) /\ w'.cell? ⟨Z16, 5, none⟩ = some (.slice A1_5 l1_5.length c1_5)) /\ (Kd.R (Kd.int .i64) 2 w' w.heap.size (fun _ => True) s_ y367) /\ (w'.heap[Z15]? = some (.cells #[.slice A0_0 l0_0.length c0_0, .slice A0_1 l0_1.length c0_1] 39 (0, 0))) /\ (w'.heap[Z16]? = some (.cells #[.int .i64 a1_0, .int .i64 a1_1, .int .i64 a1_2, .int .i64 a1_3, .int .i64 a1_4, .slice A1_5 l1_5.length c1_5] 24 (0, 0))) /\ (Below w.heap.size w w')) ?_ ?_
                rotate_left
                ·intro hJ0
                 refine join_ (σ := Value) 7 #[false, true, true, false, true, true, true, false, true, false, false, false, false] (fun s_ => [(20, s_)]) (fun s_ w' => (w'.cell? ⟨Z15, 0, none⟩ = some (.slice A0_0 l0_0.length c0_0) /\ w'.cell? ⟨Z15, 1, none⟩ = some (.slice A0_1 l0_1.length c0_1) /\ w'.cell? ⟨Z16, 0, none⟩ = some (.int .i64 a1_0) /\ w'.cell? ⟨Z16, 1, none⟩ = some (.int .i64 a1_1) /\ w'.cell? ⟨Z16, 2, none⟩ = some (.int .i64 a1_2) /\ w'.cell? ⟨Z16, 3, none⟩ = some (.int .i64 a1_3) /\ w'.cell? ⟨Z16, 4, none⟩ = some (.int .i64 a1_4) /\ w'.cell? ⟨Z16, 5, none⟩ = some (.slice A1_5 l1_5.length c1_5)) /\ (Kd.R Kd.bool 4 w' w.heap.size (fun _ => True) s_ y373) /\ (w'.heap[Z15]? = some (.cells #[.slice A0_0 l0_0.length c0_0, .slice A0_1 l0_1.length c0_1] 39 (0, 0))) /\ (w'.heap[Z16]? = some (.cells #[.int .i64 a1_0, .int .i64 a1_1, .int .i64 a1_2, .int .i64 a1_3, .int .i64 a1_4, .slice A1_5 l1_5.length c1_5] 24 (0, 0))) /\ (Below w.heap.size w w')) ?_ ?_
                 rotate_left
                 ·intro hJ4
                  refine join_ (σ := Nat) 7 #[false, true, true, false, false, true, true, false, true, true, false, false, false] (fun s_ => [(7, .pointer (some ⟨s_, 0, none⟩))]) (fun s_ w' => (w'.cell? ⟨Z15, 0, none⟩ = some (.slice A0_0 l0_0.length c0_0) /\ w'.cell? ⟨Z15, 1, none⟩ = some (.slice A0_1 l0_1.length c0_1) /\ w'.cell? ⟨Z16, 0, none⟩ = some (.int .i64 a1_0) /\ w'.cell? ⟨Z16, 1, none⟩ = some (.int .i64 a1_1) /\ w'.cell? ⟨Z16, 2, none⟩ = some (.int .i64 a1_2) /\ w'.cell? ⟨Z16, 3, none⟩ = some (.int .i64 a1_3) /\ w'.cell? ⟨Z16, 4, none⟩ = some (.int .i64 a1_4) /\ w'.cell? ⟨Z16, 5, none⟩ = some (.slice A1_5 l1_5.length c1_5)) /\ (w'.heap[Z15]? = some (.cells #[.slice A0_0 l0_0.length c0_0, .slice A0_1 l0_1.length c0_1] 39 (0, 0))) /\ (w'.heap[Z16]? = some (.cells #[.int .i64 a1_0, .int .i64 a1_1, .int .i64 a1_2, .int .i64 a1_3, .int .i64 a1_4, .slice A1_5 l1_5.length c1_5] 24 (0, 0))) /\ (w'.heap[s_]? = some (.cells #[.int .i64 0, .int .i64 0, .int .i64 0, .int .i64 0, .int .i64 0, .slice none 0 0] 24 (0, 0))) /\ (w.heap.size <= s_) /\ (w.heap.size <= s_) /\ (Z15 ≠ s_) /\ (s_ ≠ Z15) /\ (Z16 ≠ s_) /\ (s_ ≠ Z16) /\ (Below w.heap.size w w')) ?_ ?_
                  rotate_left
                  ·intro hJ9
                   refine three_ (i := 0) (j := 4) (k := 9) (Ni := some 16) (Nj := some 20) (Nk := some 7) #[true, true, true, false, false, true, true, false, true, false, false, false, false] #[false, true, true, false, true, true, true, false, true, false, false, false, false] #[false, true, true, false, false, true, true, false, true, true, false, false, false] rfl rfl rfl rfl rfl rfl (three_of HT_.out (by kernel_rfl)) (by decide) (by decide) (by decide) (fun K hK => ?_) (fun K hK => ?_) (fun K hK => ?_)
                   ·skip
                    refine Kd.R_lit_step (Kd.int .i64) _ 2 ?hg (N := 16) ?hd (xs := ([] : List Int)) (inner := []) (ok := fun _ => True) (okp := fun _ => True) ?hr ?hp (fun _ hk => hk) trivial (Below.refl _ _) (yN _) (by simp) ?_; (case hd => rfl); (case hg => rfl); (case hr => first | (go_simp; done) | (go_simp; rfl)); (case hp => exact (Reps.none _ _))
                    intro v368 w16 ho17 hb hg_ hnew_
                    clear hg_ hnew_
                    (first | rw [← Ny367.out] at ho17 | (simp only [Int.reduceToNat] at ho17; rw [← Ny367.out] at ho17))
                    have n0_ := zK (Kd.R_lower ho17 (yK (by repeat (first | (with_reducible first | exact HB.out | apply zJ | apply zD | apply zE | refine zI ?_ Z3.out | refine zI ?_ Z4.out) | exact HB.out))))
                    have n1_ := zK (zP (g := Z15) (o := o1 A0_0 l0_0 c0_0 A0_1 l0_1 c0_1) (by (with_reducible repeat (first | apply zF | apply zH | apply zG)); exact Z0.out) hb)
                    have n2_ := zK (zP (g := Z16) (o := o2 a1_0 a1_1 a1_2 a1_3 a1_4 A1_5 l1_5 c1_5) (by (with_reducible repeat (first | apply zF | apply zH | apply zG)); exact Z1.out) hb)
                    have n3_ := zK (yL (by repeat (first | (with_reducible first | exact HB.out | apply zJ | apply zD | apply zE | refine zI ?_ Z3.out | refine zI ?_ Z4.out) | exact HB.out)) hb)
                    clear Z0 Z1 HB
                    have HO369 := n0_; have Z0 := n1_; have Z1 := n2_; have HB := n3_
                    clear n0_ n1_ n2_ n3_ hb ho17
                    refine hK.out _ _ ⟨(zO Z0.out 0).trans rfl, (zO Z0.out 1).trans rfl, (zO Z1.out 0).trans rfl, (zO Z1.out 1).trans rfl, (zO Z1.out 2).trans rfl, (zO Z1.out 3).trans rfl, (zO Z1.out 4).trans rfl, (zO Z1.out 5).trans rfl⟩ (fun hHeld => ?_)
                    clear hK K
                    refine norm_ (a' := ?_) ?_ ?_
                    rotate_left
                    ·show Act.put _ (some 16) _ = _
                     simp only [Act.put, zA, zB, zC, i64_w, i32_w]
                     rfl
                    exact norm_ (by simp only [putAll, Act.put, zA, zB, zC]; try rfl) (hJ0 (v368) _ ⟨hHeld, (by (with_reducible repeat (first | apply zL | apply zM | apply zN)); exact HO369.out), (by (with_reducible repeat (first | apply zF | apply zH | apply zG)); exact Z0.out), (by (with_reducible repeat (first | apply zF | apply zH | apply zG)); exact Z1.out), (by repeat (first | (with_reducible first | exact HB.out | apply zJ | apply zD | apply zE | refine zI ?_ Z3.out | refine zI ?_ Z4.out) | exact HB.out))⟩)
                   ·skip
                    refine Kd.R_lit_step Kd.bool _ 4 ?hg (N := 20) ?hd (xs := ([] : List Bool)) (inner := []) (ok := fun _ => True) (okp := fun _ => True) ?hr ?hp (fun _ hk => hk) trivial (Below.refl _ _) (yN _) (by simp) ?_; (case hd => rfl); (case hg => rfl); (case hr => first | (go_simp; done) | (go_simp; rfl)); (case hp => exact (Reps.none _ _))
                    intro v374 w16 ho17 hb hg_ hnew_
                    clear hg_ hnew_
                    (first | rw [← Ny373.out] at ho17 | (simp only [Int.reduceToNat] at ho17; rw [← Ny373.out] at ho17))
                    have n0_ := zK (Kd.R_lower ho17 (yK (by repeat (first | (with_reducible first | exact HB.out | apply zJ | apply zD | apply zE | refine zI ?_ Z3.out | refine zI ?_ Z4.out) | exact HB.out))))
                    have n1_ := zK (zP (g := Z15) (o := o1 A0_0 l0_0 c0_0 A0_1 l0_1 c0_1) (by (with_reducible repeat (first | apply zF | apply zH | apply zG)); exact Z0.out) hb)
                    have n2_ := zK (zP (g := Z16) (o := o2 a1_0 a1_1 a1_2 a1_3 a1_4 A1_5 l1_5 c1_5) (by (with_reducible repeat (first | apply zF | apply zH | apply zG)); exact Z1.out) hb)
                    have n3_ := zK (yL (by repeat (first | (with_reducible first | exact HB.out | apply zJ | apply zD | apply zE | refine zI ?_ Z3.out | refine zI ?_ Z4.out) | exact HB.out)) hb)
                    clear Z0 Z1 HB
                    have HO375 := n0_; have Z0 := n1_; have Z1 := n2_; have HB := n3_
                    clear n0_ n1_ n2_ n3_ hb ho17
                    refine hK.out _ _ ⟨(zO Z0.out 0).trans rfl, (zO Z0.out 1).trans rfl, (zO Z1.out 0).trans rfl, (zO Z1.out 1).trans rfl, (zO Z1.out 2).trans rfl, (zO Z1.out 3).trans rfl, (zO Z1.out 4).trans rfl, (zO Z1.out 5).trans rfl⟩ (fun hHeld => ?_)
                    clear hK K
                    refine norm_ (a' := ?_) ?_ ?_
                    rotate_left
                    ·show Act.put _ (some 20) _ = _
                     simp only [Act.put, zA, zB, zC, i64_w, i32_w]
                     rfl
                    exact norm_ (by simp only [putAll, Act.put, zA, zB, zC]; try rfl) (hJ4 (v374) _ ⟨hHeld, (by (with_reducible repeat (first | apply zL | apply zM | apply zN)); exact HO375.out), (by (with_reducible repeat (first | apply zF | apply zH | apply zG)); exact Z0.out), (by (with_reducible repeat (first | apply zF | apply zH | apply zG)); exact Z1.out), (by repeat (first | (with_reducible first | exact HB.out | apply zJ | apply zD | apply zE | refine zI ?_ Z3.out | refine zI ?_ Z4.out) | exact HB.out))⟩)
                   ·skip
                    refine box_step ?hg (N := 7) ?hd (cs := #[.int .i64 0, .int .i64 0, .int .i64 0, .int .i64 0, .int .i64 0, .slice none 0 0]) (t := 24) ?hr ?_; (case hd => rfl); (case hg => rfl); (case hr => first | (go_simp; done) | (go_simp; rfl))
                    intro Z17 hg w16 hbox hb
                    have n0_ := zK (zP (g := Z15) (o := o1 A0_0 l0_0 c0_0 A0_1 l0_1 c0_1) (by (with_reducible repeat (first | apply zF | apply zH | apply zG)); exact Z0.out) hb)
                    have n1_ := zK (zP (g := Z16) (o := o2 a1_0 a1_1 a1_2 a1_3 a1_4 A1_5 l1_5 c1_5) (by (with_reducible repeat (first | apply zF | apply zH | apply zG)); exact Z1.out) hb)
                    have n2_ := zK (yL (by repeat (first | (with_reducible first | exact HB.out | apply zJ | apply zD | apply zE | refine zI ?_ Z3.out | refine zI ?_ Z4.out) | exact HB.out)) hb)
                    have n3_ := zK (hbox)
                    have n4_ := zK ((by rw [hg]; exact (yK (by repeat (first | (with_reducible first | exact HB.out | apply zJ | apply zD | apply zE | refine zI ?_ Z3.out | refine zI ?_ Z4.out) | exact HB.out))) : w.heap.size <= Z17))
                    have n5_ := zK ((by rw [hg]; exact (yK (by repeat (first | (with_reducible first | exact HB.out | apply zJ | apply zD | apply zE | refine zI ?_ Z3.out | refine zI ?_ Z4.out) | exact HB.out))) : w.heap.size <= Z17))
                    have n6_ := zK ((by rw [hg]; exact ym (yo (g := Z15) (o := o1 A0_0 l0_0 c0_0 A0_1 l0_1 c0_1) (by (with_reducible repeat (first | apply zF | apply zH | apply zG)); exact Z0.out)) : Z15 ≠ Z17))
                    have n7_ := zK ((by rw [hg]; exact yn (yo (g := Z15) (o := o1 A0_0 l0_0 c0_0 A0_1 l0_1 c0_1) (by (with_reducible repeat (first | apply zF | apply zH | apply zG)); exact Z0.out)) : Z17 ≠ Z15))
                    have n8_ := zK ((by rw [hg]; exact ym (yo (g := Z16) (o := o2 a1_0 a1_1 a1_2 a1_3 a1_4 A1_5 l1_5 c1_5) (by (with_reducible repeat (first | apply zF | apply zH | apply zG)); exact Z1.out)) : Z16 ≠ Z17))
                    have n9_ := zK ((by rw [hg]; exact yn (yo (g := Z16) (o := o2 a1_0 a1_1 a1_2 a1_3 a1_4 A1_5 l1_5 c1_5) (by (with_reducible repeat (first | apply zF | apply zH | apply zG)); exact Z1.out)) : Z17 ≠ Z16))
                    clear Z0 Z1 HB
                    have Z0 := n0_; have Z1 := n1_; have HB := n2_; have Z2 := n3_; have Z8 := n4_; have Z5 := n5_; have Z10 := n6_; have Z13 := n7_; have Z12 := n8_; have Z14 := n9_
                    clear n0_ n1_ n2_ n3_ n4_ n5_ n6_ n7_ n8_ n9_ hb hbox hg
                    refine hK.out _ _ ⟨(zO Z0.out 0).trans rfl, (zO Z0.out 1).trans rfl, (zO Z1.out 0).trans rfl, (zO Z1.out 1).trans rfl, (zO Z1.out 2).trans rfl, (zO Z1.out 3).trans rfl, (zO Z1.out 4).trans rfl, (zO Z1.out 5).trans rfl⟩ (fun hHeld => ?_)
                    clear hK K
                    refine norm_ (a' := ?_) ?_ ?_
                    rotate_left
                    ·show Act.put _ (some 7) _ = _
                     simp only [Act.put, zA, zB, zC, i64_w, i32_w]
                     rfl
                    exact norm_ (by simp only [putAll, Act.put, zA, zB, zC]; try rfl) (hJ9 (Z17) _ ⟨hHeld, (by (with_reducible repeat (first | apply zF | apply zH | apply zG)); exact Z0.out), (by (with_reducible repeat (first | apply zF | apply zH | apply zG)); exact Z1.out), (by (with_reducible repeat (first | apply zF | apply zH | apply zG)); exact Z2.out), Z8.out, Z5.out, Z10.out, Z13.out, Z12.out, Z14.out, (by repeat (first | (with_reducible first | exact HB.out | apply zJ | apply zD | apply zE | refine zI ?_ Z3.out | refine zI ?_ Z4.out | refine zI ?_ Z5.out) | exact HB.out))⟩)
                  ·skip
                   rintro Z17 w17 ⟨hS_, h0_, h1_, h2_, h3_, h4_, h5_, h6_, h7_, h8_, h9_⟩
                   have n0_ : Aside0 (w17.heap[Z15]? = some (.cells #[.slice A0_0 l0_0.length c0_0, .slice A0_1 l0_1.length c0_1] 39 (0, 0))) := ⟨h0_⟩
                   have n1_ : Aside0 (w17.heap[Z16]? = some (.cells #[.int .i64 a1_0, .int .i64 a1_1, .int .i64 a1_2, .int .i64 a1_3, .int .i64 a1_4, .slice A1_5 l1_5.length c1_5] 24 (0, 0))) := ⟨h1_⟩
                   have n2_ : Aside0 (w17.heap[Z17]? = some (.cells #[.int .i64 0, .int .i64 0, .int .i64 0, .int .i64 0, .int .i64 0, .slice none 0 0] 24 (0, 0))) := ⟨h2_⟩
                   have n3_ : Aside0 (w.heap.size <= Z17) := ⟨h3_⟩
                   have n4_ : Aside0 (w.heap.size <= Z17) := ⟨h4_⟩
                   have n5_ : Aside0 (Z15 ≠ Z17) := ⟨h5_⟩
                   have n6_ : Aside0 (Z17 ≠ Z15) := ⟨h6_⟩
                   have n7_ : Aside0 (Z16 ≠ Z17) := ⟨h7_⟩
                   have n8_ : Aside0 (Z17 ≠ Z16) := ⟨h8_⟩
                   have n9_ : Aside0 (Below w.heap.size w w17) := ⟨h9_⟩
                   clear Z0 Z1 HB h0_ h1_ h2_ h3_ h4_ h5_ h6_ h7_ h8_ h9_
                   have Z0 := n0_; have Z1 := n1_; have Z2 := n2_; have Z8 := n3_; have Z5 := n4_; have Z10 := n5_; have Z13 := n6_; have Z12 := n7_; have Z14 := n8_; have HB := n9_
                   clear n0_ n1_ n2_ n3_ n4_ n5_ n6_ n7_ n8_ n9_
                   have hHeld : w17.cell? ⟨Z15, 0, none⟩ = some (.slice A0_0 l0_0.length c0_0) /\ w17.cell? ⟨Z15, 1, none⟩ = some (.slice A0_1 l0_1.length c0_1) /\ w17.cell? ⟨Z16, 0, none⟩ = some (.int .i64 a1_0) /\ w17.cell? ⟨Z16, 1, none⟩ = some (.int .i64 a1_1) /\ w17.cell? ⟨Z16, 2, none⟩ = some (.int .i64 a1_2) /\ w17.cell? ⟨Z16, 3, none⟩ = some (.int .i64 a1_3) /\ w17.cell? ⟨Z16, 4, none⟩ = some (.int .i64 a1_4) /\ w17.cell? ⟨Z16, 5, none⟩ = some (.slice A1_5 l1_5.length c1_5) := hS_
                   refine norm_ (a' := ?_) ?_ ?_
                   rotate_left
                   ·simp only [putAll, Act.put, zA, zB, zC]
                    rfl
                   refine two_ (i := 0) (j := 4) (Ni := some 16) (Nj := some 20) #[true, true, true, false, false, true, true, false, true, true, false, false, false] #[false, true, true, false, true, true, true, false, true, true, false, false, false] rfl rfl rfl rfl (two_of HT_.out (by kernel_rfl)) (by decide) (by decide) (fun K hK => ?_) (fun K hK => ?_)
                   ·skip
                    refine Kd.R_lit_step (Kd.int .i64) _ 2 ?hg (N := 16) ?hd (xs := ([] : List Int)) (inner := []) (ok := fun _ => True) (okp := fun _ => True) ?hr ?hp (fun _ hk => hk) trivial (Below.refl _ _) (yN _) (by simp) ?_; (case hd => rfl); (case hg => rfl); (case hr => first | (go_simp; done) | (go_simp; rfl)); (case hp => exact (Reps.none _ _))
                    intro v368 w18 ho19 hb hg_ hnew_
                    clear hg_ hnew_
                    (first | rw [← Ny367.out] at ho19 | (simp only [Int.reduceToNat] at ho19; rw [← Ny367.out] at ho19))
                    have n0_ := zK (Kd.R_lower ho19 (yK (by repeat (first | (with_reducible first | exact HB.out | apply zJ | apply zD | apply zE | refine zI ?_ Z3.out | refine zI ?_ Z4.out | refine zI ?_ Z5.out) | exact HB.out))))
                    have n1_ := zK (zP (g := Z15) (o := o1 A0_0 l0_0 c0_0 A0_1 l0_1 c0_1) (by (with_reducible repeat (first | apply zF | apply zH | apply zG)); exact Z0.out) hb)
                    have n2_ := zK (zP (g := Z16) (o := o2 a1_0 a1_1 a1_2 a1_3 a1_4 A1_5 l1_5 c1_5) (by (with_reducible repeat (first | apply zF | apply zH | apply zG)); exact Z1.out) hb)
                    have n3_ := zK (zP (g := Z17) (o := .cells #[.int .i64 0, .int .i64 0, .int .i64 0, .int .i64 0, .int .i64 0, .slice none 0 0] 24 (0, 0)) (by (with_reducible repeat (first | apply zF | apply zH | apply zG)); exact Z2.out) hb)
                    have n4_ := zK (yL (by repeat (first | (with_reducible first | exact HB.out | apply zJ | apply zD | apply zE | refine zI ?_ Z3.out | refine zI ?_ Z4.out | refine zI ?_ Z5.out) | exact HB.out)) hb)
                    clear Z0 Z1 Z2 HB
                    have HO369 := n0_; have Z0 := n1_; have Z1 := n2_; have Z2 := n3_; have HB := n4_
                    clear n0_ n1_ n2_ n3_ n4_ hb ho19
                    refine hK.out _ _ ⟨(zO Z0.out 0).trans rfl, (zO Z0.out 1).trans rfl, (zO Z1.out 0).trans rfl, (zO Z1.out 1).trans rfl, (zO Z1.out 2).trans rfl, (zO Z1.out 3).trans rfl, (zO Z1.out 4).trans rfl, (zO Z1.out 5).trans rfl⟩ (fun hHeld => ?_)
                    clear hK K
                    refine norm_ (a' := ?_) ?_ ?_
                    rotate_left
                    ·show Act.put _ (some 16) _ = _
                     simp only [Act.put, zA, zB, zC, i64_w, i32_w]
                     rfl
                    exact norm_ (by simp only [putAll, Act.put, zA, zB, zC]; try rfl) (hJ0_9 (v368, Z17) _ ⟨hHeld, (by (with_reducible repeat (first | apply zL | apply zM | apply zN)); exact HO369.out), (by (with_reducible repeat (first | apply zF | apply zH | apply zG)); exact Z0.out), (by (with_reducible repeat (first | apply zF | apply zH | apply zG)); exact Z1.out), (by (with_reducible repeat (first | apply zF | apply zH | apply zG)); exact Z2.out), Z8.out, Z5.out, Z10.out, Z13.out, Z12.out, Z14.out, (by repeat (first | (with_reducible first | exact HB.out | apply zJ | apply zD | apply zE | refine zI ?_ Z3.out | refine zI ?_ Z4.out | refine zI ?_ Z5.out) | exact HB.out))⟩)
                   ·skip
                    refine Kd.R_lit_step Kd.bool _ 4 ?hg (N := 20) ?hd (xs := ([] : List Bool)) (inner := []) (ok := fun _ => True) (okp := fun _ => True) ?hr ?hp (fun _ hk => hk) trivial (Below.refl _ _) (yN _) (by simp) ?_; (case hd => rfl); (case hg => rfl); (case hr => first | (go_simp; done) | (go_simp; rfl)); (case hp => exact (Reps.none _ _))
                    intro v374 w18 ho19 hb hg_ hnew_
                    clear hg_ hnew_
                    (first | rw [← Ny373.out] at ho19 | (simp only [Int.reduceToNat] at ho19; rw [← Ny373.out] at ho19))
                    have n0_ := zK (Kd.R_lower ho19 (yK (by repeat (first | (with_reducible first | exact HB.out | apply zJ | apply zD | apply zE | refine zI ?_ Z3.out | refine zI ?_ Z4.out | refine zI ?_ Z5.out) | exact HB.out))))
                    have n1_ := zK (zP (g := Z15) (o := o1 A0_0 l0_0 c0_0 A0_1 l0_1 c0_1) (by (with_reducible repeat (first | apply zF | apply zH | apply zG)); exact Z0.out) hb)
                    have n2_ := zK (zP (g := Z16) (o := o2 a1_0 a1_1 a1_2 a1_3 a1_4 A1_5 l1_5 c1_5) (by (with_reducible repeat (first | apply zF | apply zH | apply zG)); exact Z1.out) hb)
                    have n3_ := zK (zP (g := Z17) (o := .cells #[.int .i64 0, .int .i64 0, .int .i64 0, .int .i64 0, .int .i64 0, .slice none 0 0] 24 (0, 0)) (by (with_reducible repeat (first | apply zF | apply zH | apply zG)); exact Z2.out) hb)
                    have n4_ := zK (yL (by repeat (first | (with_reducible first | exact HB.out | apply zJ | apply zD | apply zE | refine zI ?_ Z3.out | refine zI ?_ Z4.out | refine zI ?_ Z5.out) | exact HB.out)) hb)
                    clear Z0 Z1 Z2 HB
                    have HO375 := n0_; have Z0 := n1_; have Z1 := n2_; have Z2 := n3_; have HB := n4_
                    clear n0_ n1_ n2_ n3_ n4_ hb ho19
                    refine hK.out _ _ ⟨(zO Z0.out 0).trans rfl, (zO Z0.out 1).trans rfl, (zO Z1.out 0).trans rfl, (zO Z1.out 1).trans rfl, (zO Z1.out 2).trans rfl, (zO Z1.out 3).trans rfl, (zO Z1.out 4).trans rfl, (zO Z1.out 5).trans rfl⟩ (fun hHeld => ?_)
                    clear hK K
                    refine norm_ (a' := ?_) ?_ ?_
                    rotate_left
                    ·show Act.put _ (some 20) _ = _
                     simp only [Act.put, zA, zB, zC, i64_w, i32_w]
                     rfl
                    exact norm_ (by simp only [putAll, Act.put, zA, zB, zC]; try rfl) (hJ4_9 (v374, Z17) _ ⟨hHeld, (by (with_reducible repeat (first | apply zL | apply zM | apply zN)); exact HO375.out), (by (with_reducible repeat (first | apply zF | apply zH | apply zG)); exact Z0.out), (by (with_reducible repeat (first | apply zF | apply zH | apply zG)); exact Z1.out), (by (with_reducible repeat (first | apply zF | apply zH | apply zG)); exact Z2.out), Z8.out, Z5.out, Z10.out, Z13.out, Z12.out, Z14.out, (by repeat (first | (with_reducible first | exact HB.out | apply zJ | apply zD | apply zE | refine zI ?_ Z3.out | refine zI ?_ Z4.out | refine zI ?_ Z5.out) | exact HB.out))⟩)
                 ·skip
                  rintro v374 w18 ⟨hS_, h0_, h1_, h2_, h3_⟩
                  have n0_ : Aside0 (Kd.R Kd.bool 4 w18 w.heap.size (fun _ => True) v374 y373) := ⟨h0_⟩
                  have n1_ : Aside0 (w18.heap[Z15]? = some (.cells #[.slice A0_0 l0_0.length c0_0, .slice A0_1 l0_1.length c0_1] 39 (0, 0))) := ⟨h1_⟩
                  have n2_ : Aside0 (w18.heap[Z16]? = some (.cells #[.int .i64 a1_0, .int .i64 a1_1, .int .i64 a1_2, .int .i64 a1_3, .int .i64 a1_4, .slice A1_5 l1_5.length c1_5] 24 (0, 0))) := ⟨h2_⟩
                  have n3_ : Aside0 (Below w.heap.size w w18) := ⟨h3_⟩
                  clear Z0 Z1 HB h0_ h1_ h2_ h3_
                  have HO375 := n0_; have Z0 := n1_; have Z1 := n2_; have HB := n3_
                  clear n0_ n1_ n2_ n3_
                  have hHeld : w18.cell? ⟨Z15, 0, none⟩ = some (.slice A0_0 l0_0.length c0_0) /\ w18.cell? ⟨Z15, 1, none⟩ = some (.slice A0_1 l0_1.length c0_1) /\ w18.cell? ⟨Z16, 0, none⟩ = some (.int .i64 a1_0) /\ w18.cell? ⟨Z16, 1, none⟩ = some (.int .i64 a1_1) /\ w18.cell? ⟨Z16, 2, none⟩ = some (.int .i64 a1_2) /\ w18.cell? ⟨Z16, 3, none⟩ = some (.int .i64 a1_3) /\ w18.cell? ⟨Z16, 4, none⟩ = some (.int .i64 a1_4) /\ w18.cell? ⟨Z16, 5, none⟩ = some (.slice A1_5 l1_5.length c1_5) := hS_
                  refine norm_ (a' := ?_) ?_ ?_
                  rotate_left
                  ·simp only [putAll, Act.put, zA, zB, zC]
                   rfl
                  refine two_ (i := 0) (j := 9) (Ni := some 16) (Nj := some 7) #[true, true, true, false, true, true, true, false, true, false, false, false, false] #[false, true, true, false, true, true, true, false, true, true, false, false, false] rfl rfl rfl rfl (two_of HT_.out (by kernel_rfl)) (by decide) (by decide) (fun K hK => ?_) (fun K hK => ?_)
                  ·skip
                   refine Kd.R_lit_step (Kd.int .i64) _ 2 ?hg (N := 16) ?hd (xs := ([] : List Int)) (inner := []) (ok := fun _ => True) (okp := fun _ => True) ?hr ?hp (fun _ hk => hk) trivial (Below.refl _ _) (yN _) (by simp) ?_; (case hd => rfl); (case hg => rfl); (case hr => first | (go_simp; done) | (go_simp; rfl)); (case hp => exact (Reps.none _ _))
                   intro v368 w19 ho20 hb hg_ hnew_
                   clear hg_ hnew_
                   (first | rw [← Ny367.out] at ho20 | (simp only [Int.reduceToNat] at ho20; rw [← Ny367.out] at ho20))
                   have n0_ := zK (yb (by (with_reducible repeat (first | apply zL | apply zM | apply zN)); exact HO375.out) hb)
                   have n1_ := zK (Kd.R_lower ho20 (yK (by repeat (first | (with_reducible first | exact HB.out | apply zJ | apply zD | apply zE | refine zI ?_ Z3.out | refine zI ?_ Z4.out) | exact HB.out))))
                   have n2_ := zK (zP (g := Z15) (o := o1 A0_0 l0_0 c0_0 A0_1 l0_1 c0_1) (by (with_reducible repeat (first | apply zF | apply zH | apply zG)); exact Z0.out) hb)
                   have n3_ := zK (zP (g := Z16) (o := o2 a1_0 a1_1 a1_2 a1_3 a1_4 A1_5 l1_5 c1_5) (by (with_reducible repeat (first | apply zF | apply zH | apply zG)); exact Z1.out) hb)
                   have n4_ := zK (yL (by repeat (first | (with_reducible first | exact HB.out | apply zJ | apply zD | apply zE | refine zI ?_ Z3.out | refine zI ?_ Z4.out) | exact HB.out)) hb)
                   clear HO375 Z0 Z1 HB
                   have HO375 := n0_; have HO369 := n1_; have Z0 := n2_; have Z1 := n3_; have HB := n4_
                   clear n0_ n1_ n2_ n3_ n4_ hb ho20
                   refine hK.out _ _ ⟨(zO Z0.out 0).trans rfl, (zO Z0.out 1).trans rfl, (zO Z1.out 0).trans rfl, (zO Z1.out 1).trans rfl, (zO Z1.out 2).trans rfl, (zO Z1.out 3).trans rfl, (zO Z1.out 4).trans rfl, (zO Z1.out 5).trans rfl⟩ (fun hHeld => ?_)
                   clear hK K
                   refine norm_ (a' := ?_) ?_ ?_
                   rotate_left
                   ·show Act.put _ (some 16) _ = _
                    simp only [Act.put, zA, zB, zC, i64_w, i32_w]
                    rfl
                   exact norm_ (by simp only [putAll, Act.put, zA, zB, zC]; try rfl) (hJ0_4 (v368, v374) _ ⟨hHeld, (by (with_reducible repeat (first | apply zL | apply zM | apply zN)); exact HO369.out), (by (with_reducible repeat (first | apply zL | apply zM | apply zN)); exact HO375.out), (by (with_reducible repeat (first | apply zF | apply zH | apply zG)); exact Z0.out), (by (with_reducible repeat (first | apply zF | apply zH | apply zG)); exact Z1.out), (by repeat (first | (with_reducible first | exact HB.out | apply zJ | apply zD | apply zE | refine zI ?_ Z3.out | refine zI ?_ Z4.out) | exact HB.out))⟩)
                  ·skip
                   refine box_step ?hg (N := 7) ?hd (cs := #[.int .i64 0, .int .i64 0, .int .i64 0, .int .i64 0, .int .i64 0, .slice none 0 0]) (t := 24) ?hr ?_; (case hd => rfl); (case hg => rfl); (case hr => first | (go_simp; done) | (go_simp; rfl))
                   intro Z17 hg w19 hbox hb
                   have n0_ := zK (yb (by (with_reducible repeat (first | apply zL | apply zM | apply zN)); exact HO375.out) hb)
                   have n1_ := zK (zP (g := Z15) (o := o1 A0_0 l0_0 c0_0 A0_1 l0_1 c0_1) (by (with_reducible repeat (first | apply zF | apply zH | apply zG)); exact Z0.out) hb)
                   have n2_ := zK (zP (g := Z16) (o := o2 a1_0 a1_1 a1_2 a1_3 a1_4 A1_5 l1_5 c1_5) (by (with_reducible repeat (first | apply zF | apply zH | apply zG)); exact Z1.out) hb)
                   have n3_ := zK (yL (by repeat (first | (with_reducible first | exact HB.out | apply zJ | apply zD | apply zE | refine zI ?_ Z3.out | refine zI ?_ Z4.out) | exact HB.out)) hb)
                   have n4_ := zK (hbox)
                   have n5_ := zK ((by rw [hg]; exact (yK (by repeat (first | (with_reducible first | exact HB.out | apply zJ | apply zD | apply zE | refine zI ?_ Z3.out | refine zI ?_ Z4.out) | exact HB.out))) : w.heap.size <= Z17))
                   have n6_ := zK ((by rw [hg]; exact (yK (by repeat (first | (with_reducible first | exact HB.out | apply zJ | apply zD | apply zE | refine zI ?_ Z3.out | refine zI ?_ Z4.out) | exact HB.out))) : w.heap.size <= Z17))
                   have n7_ := zK ((by rw [hg]; exact ym (yo (g := Z15) (o := o1 A0_0 l0_0 c0_0 A0_1 l0_1 c0_1) (by (with_reducible repeat (first | apply zF | apply zH | apply zG)); exact Z0.out)) : Z15 ≠ Z17))
                   have n8_ := zK ((by rw [hg]; exact yn (yo (g := Z15) (o := o1 A0_0 l0_0 c0_0 A0_1 l0_1 c0_1) (by (with_reducible repeat (first | apply zF | apply zH | apply zG)); exact Z0.out)) : Z17 ≠ Z15))
                   have n9_ := zK ((by rw [hg]; exact ym (yo (g := Z16) (o := o2 a1_0 a1_1 a1_2 a1_3 a1_4 A1_5 l1_5 c1_5) (by (with_reducible repeat (first | apply zF | apply zH | apply zG)); exact Z1.out)) : Z16 ≠ Z17))
                   have n10_ := zK ((by rw [hg]; exact yn (yo (g := Z16) (o := o2 a1_0 a1_1 a1_2 a1_3 a1_4 A1_5 l1_5 c1_5) (by (with_reducible repeat (first | apply zF | apply zH | apply zG)); exact Z1.out)) : Z17 ≠ Z16))
                   clear HO375 Z0 Z1 HB
                   have HO375 := n0_; have Z0 := n1_; have Z1 := n2_; have HB := n3_; have Z2 := n4_; have Z8 := n5_; have Z5 := n6_; have Z10 := n7_; have Z13 := n8_; have Z12 := n9_; have Z14 := n10_
                   clear n0_ n1_ n2_ n3_ n4_ n5_ n6_ n7_ n8_ n9_ n10_ hb hbox hg
                   refine hK.out _ _ ⟨(zO Z0.out 0).trans rfl, (zO Z0.out 1).trans rfl, (zO Z1.out 0).trans rfl, (zO Z1.out 1).trans rfl, (zO Z1.out 2).trans rfl, (zO Z1.out 3).trans rfl, (zO Z1.out 4).trans rfl, (zO Z1.out 5).trans rfl⟩ (fun hHeld => ?_)
                   clear hK K
                   refine norm_ (a' := ?_) ?_ ?_
                   rotate_left
                   ·show Act.put _ (some 7) _ = _
                    simp only [Act.put, zA, zB, zC, i64_w, i32_w]
                    rfl
                   exact norm_ (by simp only [putAll, Act.put, zA, zB, zC]; try rfl) (hJ4_9 (v374, Z17) _ ⟨hHeld, (by (with_reducible repeat (first | apply zL | apply zM | apply zN)); exact HO375.out), (by (with_reducible repeat (first | apply zF | apply zH | apply zG)); exact Z0.out), (by (with_reducible repeat (first | apply zF | apply zH | apply zG)); exact Z1.out), (by (with_reducible repeat (first | apply zF | apply zH | apply zG)); exact Z2.out), Z8.out, Z5.out, Z10.out, Z13.out, Z12.out, Z14.out, (by repeat (first | (with_reducible first | exact HB.out | apply zJ | apply zD | apply zE | refine zI ?_ Z3.out | refine zI ?_ Z4.out | refine zI ?_ Z5.out) | exact HB.out))⟩)
                ·skip
                 rintro v368 w18 ⟨hS_, h0_, h1_, h2_, h3_⟩
                 have n0_ : Aside0 (Kd.R (Kd.int .i64) 2 w18 w.heap.size (fun _ => True) v368 y367) := ⟨h0_⟩
                 have n1_ : Aside0 (w18.heap[Z15]? = some (.cells #[.slice A0_0 l0_0.length c0_0, .slice A0_1 l0_1.length c0_1] 39 (0, 0))) := ⟨h1_⟩
                 have n2_ : Aside0 (w18.heap[Z16]? = some (.cells #[.int .i64 a1_0, .int .i64 a1_1, .int .i64 a1_2, .int .i64 a1_3, .int .i64 a1_4, .slice A1_5 l1_5.length c1_5] 24 (0, 0))) := ⟨h2_⟩
                 have n3_ : Aside0 (Below w.heap.size w w18) := ⟨h3_⟩
                 clear Z0 Z1 HB h0_ h1_ h2_ h3_
                 have HO369 := n0_; have Z0 := n1_; have Z1 := n2_; have HB := n3_
                 clear n0_ n1_ n2_ n3_
                 have hHeld : w18.cell? ⟨Z15, 0, none⟩ = some (.slice A0_0 l0_0.length c0_0) /\ w18.cell? ⟨Z15, 1, none⟩ = some (.slice A0_1 l0_1.length c0_1) /\ w18.cell? ⟨Z16, 0, none⟩ = some (.int .i64 a1_0) /\ w18.cell? ⟨Z16, 1, none⟩ = some (.int .i64 a1_1) /\ w18.cell? ⟨Z16, 2, none⟩ = some (.int .i64 a1_2) /\ w18.cell? ⟨Z16, 3, none⟩ = some (.int .i64 a1_3) /\ w18.cell? ⟨Z16, 4, none⟩ = some (.int .i64 a1_4) /\ w18.cell? ⟨Z16, 5, none⟩ = some (.slice A1_5 l1_5.length c1_5) := hS_
                 refine norm_ (a' := ?_) ?_ ?_
                 rotate_left
                 ·simp only [putAll, Act.put, zA, zB, zC]
                  rfl
                 refine three_ (i := 3) (j := 4) (k := 9) (Ni := some 19) (Nj := some 20) (Nk := some 7) #[true, true, true, true, false, true, true, false, true, false, false, false, false] #[true, true, true, false, true, true, true, false, true, false, false, false, false] #[true, true, true, false, false, true, true, false, true, true, false, false, false] rfl rfl rfl rfl rfl rfl (three_of HT_.out (by kernel_rfl)) (by decide) (by decide) (by decide) (fun K hK => ?_) (fun K hK => ?_) (fun K hK => ?_)
                 ·skip
                  refine Kd.R_append_rows_step (Kd.int .i64) (w0 := w) w.heap.size (by rfl) (.tmp 16) (.tmp 18) 36 2 (.int .i64 0) 8 rfl Try.underlying36 info2 rfl (by decide) (by omega) v368 y367 l0_0 _ _ _ (fun _ => True) (fun _ => False) rfl rfl ?aO ?aR (fun _ _ h => h) (fun _ h => h.elim) ?aF ?aB ?aS ?aL ?_
                  (case aR => repeat (first | exact (yc HR0_0.out HB.out) | (with_reducible refine yS ?_ _) | (with_reducible refine yT ?_ _) | (with_reducible refine yU ?_)))
                  (case aB => exact (by repeat (first | (with_reducible first | exact HB.out | apply zJ | apply zD | apply zE | refine zI ?_ Z3.out | refine zI ?_ Z4.out) | exact HB.out)))
                  (case aF => exact (fun _ _ => trivial))
                  (case aO => exact (by (with_reducible repeat (first | apply zL | apply zM | apply zN)); exact HO369.out))
                  (case aS => exact (yK (by repeat (first | (with_reducible first | exact HB.out | apply zJ | apply zD | apply zE | refine zI ?_ Z3.out | refine zI ?_ Z4.out) | exact HB.out))))
                  (case aL => have := LMc5.out; omega)
                  intro v371 w19 ho hb hg hat
                  rw [← Ny370.out] at ho
                  have n0_ := zK (blk_grown (g := Z15) (o := o1 A0_0 l0_0 c0_0 A0_1 l0_1 c0_1) (by (with_reducible repeat (first | apply zF | apply zH | apply zG)); exact Z0.out) hg (Kd.R_ne HO369.out Z0.out (by decide)))
                  have n1_ := zK (blk_grown (g := Z16) (o := o2 a1_0 a1_1 a1_2 a1_3 a1_4 A1_5 l1_5 c1_5) (by (with_reducible repeat (first | apply zF | apply zH | apply zG)); exact Z1.out) hg (Kd.R_ne HO369.out Z1.out (by decide)))
                  have n2_ := zK (hb)
                  have n3_ := zK (ho)
                  clear Z0 Z1 HB HO369
                  have Z0 := n0_; have Z1 := n1_; have HB := n2_; have HO372 := n3_
                  clear n0_ n1_ n2_ n3_ ho hb hg hat
                  refine hK.out _ _ ⟨(zO Z0.out 0).trans rfl, (zO Z0.out 1).trans rfl, (zO Z1.out 0).trans rfl, (zO Z1.out 1).trans rfl, (zO Z1.out 2).trans rfl, (zO Z1.out 3).trans rfl, (zO Z1.out 4).trans rfl, (zO Z1.out 5).trans rfl⟩ (fun hHeld => ?_)
                  clear hK K
                  refine norm_ (a' := ?_) ?_ ?_
                  rotate_left
                  ·show Act.put _ (some 19) _ = _
                   simp only [Act.put, zA, zB, zC, i64_w, i32_w]
                   rfl
                  exact norm_ (by simp only [putAll, Act.put, zA, zB, zC]; try rfl) (hJ0_3 (v368, v371) _ ⟨hHeld, (by (with_reducible repeat (first | apply zL | apply zM | apply zN)); exact HO372.out), (by (with_reducible repeat (first | apply zF | apply zH | apply zG)); exact Z0.out), (by (with_reducible repeat (first | apply zF | apply zH | apply zG)); exact Z1.out), (by repeat (first | (with_reducible first | exact HB.out | apply zJ | apply zD | apply zE | refine zI ?_ Z3.out | refine zI ?_ Z4.out) | exact HB.out))⟩)
                 ·skip
                  refine Kd.R_lit_step Kd.bool _ 4 ?hg (N := 20) ?hd (xs := ([] : List Bool)) (inner := []) (ok := fun _ => True) (okp := fun _ => True) ?hr ?hp (fun _ hk => hk) trivial (Below.refl _ _) (yN _) (by simp) ?_; (case hd => rfl); (case hg => rfl); (case hr => first | (go_simp; done) | (go_simp; rfl)); (case hp => exact (Reps.none _ _))
                  intro v374 w19 ho20 hb hg_ hnew_
                  clear hg_ hnew_
                  (first | rw [← Ny373.out] at ho20 | (simp only [Int.reduceToNat] at ho20; rw [← Ny373.out] at ho20))
                  have n0_ := zK (yb (by (with_reducible repeat (first | apply zL | apply zM | apply zN)); exact HO369.out) hb)
                  have n1_ := zK (Kd.R_lower ho20 (yK (by repeat (first | (with_reducible first | exact HB.out | apply zJ | apply zD | apply zE | refine zI ?_ Z3.out | refine zI ?_ Z4.out) | exact HB.out))))
                  have n2_ := zK (zP (g := Z15) (o := o1 A0_0 l0_0 c0_0 A0_1 l0_1 c0_1) (by (with_reducible repeat (first | apply zF | apply zH | apply zG)); exact Z0.out) hb)
                  have n3_ := zK (zP (g := Z16) (o := o2 a1_0 a1_1 a1_2 a1_3 a1_4 A1_5 l1_5 c1_5) (by (with_reducible repeat (first | apply zF | apply zH | apply zG)); exact Z1.out) hb)
                  have n4_ := zK (yL (by repeat (first | (with_reducible first | exact HB.out | apply zJ | apply zD | apply zE | refine zI ?_ Z3.out | refine zI ?_ Z4.out) | exact HB.out)) hb)
                  clear HO369 Z0 Z1 HB
                  have HO369 := n0_; have HO375 := n1_; have Z0 := n2_; have Z1 := n3_; have HB := n4_
                  clear n0_ n1_ n2_ n3_ n4_ hb ho20
                  refine hK.out _ _ ⟨(zO Z0.out 0).trans rfl, (zO Z0.out 1).trans rfl, (zO Z1.out 0).trans rfl, (zO Z1.out 1).trans rfl, (zO Z1.out 2).trans rfl, (zO Z1.out 3).trans rfl, (zO Z1.out 4).trans rfl, (zO Z1.out 5).trans rfl⟩ (fun hHeld => ?_)
                  clear hK K
                  refine norm_ (a' := ?_) ?_ ?_
                  rotate_left
                  ·show Act.put _ (some 20) _ = _
                   simp only [Act.put, zA, zB, zC, i64_w, i32_w]
                   rfl
                  exact norm_ (by simp only [putAll, Act.put, zA, zB, zC]; try rfl) (hJ0_4 (v368, v374) _ ⟨hHeld, (by (with_reducible repeat (first | apply zL | apply zM | apply zN)); exact HO369.out), (by (with_reducible repeat (first | apply zL | apply zM | apply zN)); exact HO375.out), (by (with_reducible repeat (first | apply zF | apply zH | apply zG)); exact Z0.out), (by (with_reducible repeat (first | apply zF | apply zH | apply zG)); exact Z1.out), (by repeat (first | (with_reducible first | exact HB.out | apply zJ | apply zD | apply zE | refine zI ?_ Z3.out | refine zI ?_ Z4.out) | exact HB.out))⟩)
                 ·skip
                  refine box_step ?hg (N := 7) ?hd (cs := #[.int .i64 0, .int .i64 0, .int .i64 0, .int .i64 0, .int .i64 0, .slice none 0 0]) (t := 24) ?hr ?_; (case hd => rfl); (case hg => rfl); (case hr => first | (go_simp; done) | (go_simp; rfl))
                  intro Z17 hg w19 hbox hb
                  have n0_ := zK (yb (by (with_reducible repeat (first | apply zL | apply zM | apply zN)); exact HO369.out) hb)
                  have n1_ := zK (zP (g := Z15) (o := o1 A0_0 l0_0 c0_0 A0_1 l0_1 c0_1) (by (with_reducible repeat (first | apply zF | apply zH | apply zG)); exact Z0.out) hb)
                  have n2_ := zK (zP (g := Z16) (o := o2 a1_0 a1_1 a1_2 a1_3 a1_4 A1_5 l1_5 c1_5) (by (with_reducible repeat (first | apply zF | apply zH | apply zG)); exact Z1.out) hb)
                  have n3_ := zK (yL (by repeat (first | (with_reducible first | exact HB.out | apply zJ | apply zD | apply zE | refine zI ?_ Z3.out | refine zI ?_ Z4.out) | exact HB.out)) hb)
                  have n4_ := zK (hbox)
                  have n5_ := zK ((by rw [hg]; exact (yK (by repeat (first | (with_reducible first | exact HB.out | apply zJ | apply zD | apply zE | refine zI ?_ Z3.out | refine zI ?_ Z4.out) | exact HB.out))) : w.heap.size <= Z17))
                  have n6_ := zK ((by rw [hg]; exact (yK (by repeat (first | (with_reducible first | exact HB.out | apply zJ | apply zD | apply zE | refine zI ?_ Z3.out | refine zI ?_ Z4.out) | exact HB.out))) : w.heap.size <= Z17))
                  have n7_ := zK ((by rw [hg]; exact ym (yo (g := Z15) (o := o1 A0_0 l0_0 c0_0 A0_1 l0_1 c0_1) (by (with_reducible repeat (first | apply zF | apply zH | apply zG)); exact Z0.out)) : Z15 ≠ Z17))
                  have n8_ := zK ((by rw [hg]; exact yn (yo (g := Z15) (o := o1 A0_0 l0_0 c0_0 A0_1 l0_1 c0_1) (by (with_reducible repeat (first | apply zF | apply zH | apply zG)); exact Z0.out)) : Z17 ≠ Z15))
                  have n9_ := zK ((by rw [hg]; exact ym (yo (g := Z16) (o := o2 a1_0 a1_1 a1_2 a1_3 a1_4 A1_5 l1_5 c1_5) (by (with_reducible repeat (first | apply zF | apply zH | apply zG)); exact Z1.out)) : Z16 ≠ Z17))
                  have n10_ := zK ((by rw [hg]; exact yn (yo (g := Z16) (o := o2 a1_0 a1_1 a1_2 a1_3 a1_4 A1_5 l1_5 c1_5) (by (with_reducible repeat (first | apply zF | apply zH | apply zG)); exact Z1.out)) : Z17 ≠ Z16))
                  clear HO369 Z0 Z1 HB
                  have HO369 := n0_; have Z0 := n1_; have Z1 := n2_; have HB := n3_; have Z2 := n4_; have Z8 := n5_; have Z5 := n6_; have Z10 := n7_; have Z13 := n8_; have Z12 := n9_; have Z14 := n10_
                  clear n0_ n1_ n2_ n3_ n4_ n5_ n6_ n7_ n8_ n9_ n10_ hb hbox hg
                  refine hK.out _ _ ⟨(zO Z0.out 0).trans rfl, (zO Z0.out 1).trans rfl, (zO Z1.out 0).trans rfl, (zO Z1.out 1).trans rfl, (zO Z1.out 2).trans rfl, (zO Z1.out 3).trans rfl, (zO Z1.out 4).trans rfl, (zO Z1.out 5).trans rfl⟩ (fun hHeld => ?_)
                  clear hK K
                  refine norm_ (a' := ?_) ?_ ?_
                  rotate_left
                  ·show Act.put _ (some 7) _ = _
                   simp only [Act.put, zA, zB, zC, i64_w, i32_w]
                   rfl
                  exact norm_ (by simp only [putAll, Act.put, zA, zB, zC]; try rfl) (hJ0_9 (v368, Z17) _ ⟨hHeld, (by (with_reducible repeat (first | apply zL | apply zM | apply zN)); exact HO369.out), (by (with_reducible repeat (first | apply zF | apply zH | apply zG)); exact Z0.out), (by (with_reducible repeat (first | apply zF | apply zH | apply zG)); exact Z1.out), (by (with_reducible repeat (first | apply zF | apply zH | apply zG)); exact Z2.out), Z8.out, Z5.out, Z10.out, Z13.out, Z12.out, Z14.out, (by repeat (first | (with_reducible first | exact HB.out | apply zJ | apply zD | apply zE | refine zI ?_ Z3.out | refine zI ?_ Z4.out | refine zI ?_ Z5.out) | exact HB.out))⟩)
               ·skip
                rintro ⟨v374, Z17⟩ w19 ⟨hS_, h0_, h1_, h2_, h3_, h4_, h5_, h6_, h7_, h8_, h9_, h10_⟩
                have n0_ : Aside0 (Kd.R Kd.bool 4 w19 w.heap.size (fun _ => True) v374 y373) := ⟨h0_⟩
                have n1_ : Aside0 (w19.heap[Z15]? = some (.cells #[.slice A0_0 l0_0.length c0_0, .slice A0_1 l0_1.length c0_1] 39 (0, 0))) := ⟨h1_⟩
                have n2_ : Aside0 (w19.heap[Z16]? = some (.cells #[.int .i64 a1_0, .int .i64 a1_1, .int .i64 a1_2, .int .i64 a1_3, .int .i64 a1_4, .slice A1_5 l1_5.length c1_5] 24 (0, 0))) := ⟨h2_⟩
                have n3_ : Aside0 (w19.heap[Z17]? = some (.cells #[.int .i64 0, .int .i64 0, .int .i64 0, .int .i64 0, .int .i64 0, .slice none 0 0] 24 (0, 0))) := ⟨h3_⟩
                have n4_ : Aside0 (w.heap.size <= Z17) := ⟨h4_⟩
                have n5_ : Aside0 (w.heap.size <= Z17) := ⟨h5_⟩
                have n6_ : Aside0 (Z15 ≠ Z17) := ⟨h6_⟩
                have n7_ : Aside0 (Z17 ≠ Z15) := ⟨h7_⟩
                have n8_ : Aside0 (Z16 ≠ Z17) := ⟨h8_⟩
                have n9_ : Aside0 (Z17 ≠ Z16) := ⟨h9_⟩
                have n10_ : Aside0 (Below w.heap.size w w19) := ⟨h10_⟩
                clear Z0 Z1 HB h0_ h1_ h2_ h3_ h4_ h5_ h6_ h7_ h8_ h9_ h10_
                have HO375 := n0_; have Z0 := n1_; have Z1 := n2_; have Z2 := n3_; have Z8 := n4_; have Z5 := n5_; have Z10 := n6_; have Z13 := n7_; have Z12 := n8_; have Z14 := n9_; have HB := n10_
                clear n0_ n1_ n2_ n3_ n4_ n5_ n6_ n7_ n8_ n9_ n10_
                have hHeld : w19.cell? ⟨Z15, 0, none⟩ = some (.slice A0_0 l0_0.length c0_0) /\ w19.cell? ⟨Z15, 1, none⟩ = some (.slice A0_1 l0_1.length c0_1) /\ w19.cell? ⟨Z16, 0, none⟩ = some (.int .i64 a1_0) /\ w19.cell? ⟨Z16, 1, none⟩ = some (.int .i64 a1_1) /\ w19.cell? ⟨Z16, 2, none⟩ = some (.int .i64 a1_2) /\ w19.cell? ⟨Z16, 3, none⟩ = some (.int .i64 a1_3) /\ w19.cell? ⟨Z16, 4, none⟩ = some (.int .i64 a1_4) /\ w19.cell? ⟨Z16, 5, none⟩ = some (.slice A1_5 l1_5.length c1_5) := hS_
                refine norm_ (a' := ?_) ?_ ?_
                rotate_left
                ·simp only [putAll, Act.put, zA, zB, zC]
                 rfl
                refine one_ (i := 0) (N := some 16) #[true, true, true, false, true, true, true, false, true, true, false, false, false] rfl rfl (one_of HT_.out (by kernel_rfl)) (by decide) (fun K hK => ?_)
                refine Kd.R_lit_step (Kd.int .i64) _ 2 ?hg (N := 16) ?hd (xs := ([] : List Int)) (inner := []) (ok := fun _ => True) (okp := fun _ => True) ?hr ?hp (fun _ hk => hk) trivial (Below.refl _ _) (yN _) (by simp) ?_; (case hd => rfl); (case hg => rfl); (case hr => first | (go_simp; done) | (go_simp; rfl)); (case hp => exact (Reps.none _ _))
                intro v368 w20 ho21 hb hg_ hnew_
                clear hg_ hnew_
                (first | rw [← Ny367.out] at ho21 | (simp only [Int.reduceToNat] at ho21; rw [← Ny367.out] at ho21))
                have n0_ := zK (yb (by (with_reducible repeat (first | apply zL | apply zM | apply zN)); exact HO375.out) hb)
                have n1_ := zK (Kd.R_lower ho21 (yK (by repeat (first | (with_reducible first | exact HB.out | apply zJ | apply zD | apply zE | refine zI ?_ Z3.out | refine zI ?_ Z4.out | refine zI ?_ Z5.out) | exact HB.out))))
                have n2_ := zK (zP (g := Z15) (o := o1 A0_0 l0_0 c0_0 A0_1 l0_1 c0_1) (by (with_reducible repeat (first | apply zF | apply zH | apply zG)); exact Z0.out) hb)
                have n3_ := zK (zP (g := Z16) (o := o2 a1_0 a1_1 a1_2 a1_3 a1_4 A1_5 l1_5 c1_5) (by (with_reducible repeat (first | apply zF | apply zH | apply zG)); exact Z1.out) hb)
                have n4_ := zK (zP (g := Z17) (o := .cells #[.int .i64 0, .int .i64 0, .int .i64 0, .int .i64 0, .int .i64 0, .slice none 0 0] 24 (0, 0)) (by (with_reducible repeat (first | apply zF | apply zH | apply zG)); exact Z2.out) hb)
                have n5_ := zK (yL (by repeat (first | (with_reducible first | exact HB.out | apply zJ | apply zD | apply zE | refine zI ?_ Z3.out | refine zI ?_ Z4.out | refine zI ?_ Z5.out) | exact HB.out)) hb)
                clear HO375 Z0 Z1 Z2 HB
                have HO375 := n0_; have HO369 := n1_; have Z0 := n2_; have Z1 := n3_; have Z2 := n4_; have HB := n5_
                clear n0_ n1_ n2_ n3_ n4_ n5_ hb ho21
                refine hK.out _ _ ⟨(zO Z0.out 0).trans rfl, (zO Z0.out 1).trans rfl, (zO Z1.out 0).trans rfl, (zO Z1.out 1).trans rfl, (zO Z1.out 2).trans rfl, (zO Z1.out 3).trans rfl, (zO Z1.out 4).trans rfl, (zO Z1.out 5).trans rfl⟩ (fun hHeld => ?_)
                clear hK K
                refine norm_ (a' := ?_) ?_ ?_
                rotate_left
                ·show Act.put _ (some 16) _ = _
                 simp only [Act.put, zA, zB, zC, i64_w, i32_w]
                 rfl
                exact norm_ (by simp only [putAll, Act.put, zA, zB, zC]; try rfl) (hJ0_4_9 (v368, v374, Z17) _ ⟨hHeld, (by (with_reducible repeat (first | apply zL | apply zM | apply zN)); exact HO369.out), (by (with_reducible repeat (first | apply zL | apply zM | apply zN)); exact HO375.out), (by (with_reducible repeat (first | apply zF | apply zH | apply zG)); exact Z0.out), (by (with_reducible repeat (first | apply zF | apply zH | apply zG)); exact Z1.out), (by (with_reducible repeat (first | apply zF | apply zH | apply zG)); exact Z2.out), Z8.out, Z5.out, Z10.out, Z13.out, Z12.out, Z14.out, (by repeat (first | (with_reducible first | exact HB.out | apply zJ | apply zD | apply zE | refine zI ?_ Z3.out | refine zI ?_ Z4.out | refine zI ?_ Z5.out) | exact HB.out))⟩)
              ·skip
               rintro ⟨v368, Z17⟩ w19 ⟨hS_, h0_, h1_, h2_, h3_, h4_, h5_, h6_, h7_, h8_, h9_, h10_⟩
               have n0_ : Aside0 (Kd.R (Kd.int .i64) 2 w19 w.heap.size (fun _ => True) v368 y367) := ⟨h0_⟩
               have n1_ : Aside0 (w19.heap[Z15]? = some (.cells #[.slice A0_0 l0_0.length c0_0, .slice A0_1 l0_1.length c0_1] 39 (0, 0))) := ⟨h1_⟩
               have n2_ : Aside0 (w19.heap[Z16]? = some (.cells #[.int .i64 a1_0, .int .i64 a1_1, .int .i64 a1_2, .int .i64 a1_3, .int .i64 a1_4, .slice A1_5 l1_5.length c1_5] 24 (0, 0))) := ⟨h2_⟩
               have n3_ : Aside0 (w19.heap[Z17]? = some (.cells #[.int .i64 0, .int .i64 0, .int .i64 0, .int .i64 0, .int .i64 0, .slice none 0 0] 24 (0, 0))) := ⟨h3_⟩
               have n4_ : Aside0 (w.heap.size <= Z17) := ⟨h4_⟩
               have n5_ : Aside0 (w.heap.size <= Z17) := ⟨h5_⟩
               have n6_ : Aside0 (Z15 ≠ Z17) := ⟨h6_⟩
               have n7_ : Aside0 (Z17 ≠ Z15) := ⟨h7_⟩
               have n8_ : Aside0 (Z16 ≠ Z17) := ⟨h8_⟩
               have n9_ : Aside0 (Z17 ≠ Z16) := ⟨h9_⟩
               have n10_ : Aside0 (Below w.heap.size w w19) := ⟨h10_⟩
               clear Z0 Z1 HB h0_ h1_ h2_ h3_ h4_ h5_ h6_ h7_ h8_ h9_ h10_
               have HO369 := n0_; have Z0 := n1_; have Z1 := n2_; have Z2 := n3_; have Z8 := n4_; have Z5 := n5_; have Z10 := n6_; have Z13 := n7_; have Z12 := n8_; have Z14 := n9_; have HB := n10_
               clear n0_ n1_ n2_ n3_ n4_ n5_ n6_ n7_ n8_ n9_ n10_
               have hHeld : w19.cell? ⟨Z15, 0, none⟩ = some (.slice A0_0 l0_0.length c0_0) /\ w19.cell? ⟨Z15, 1, none⟩ = some (.slice A0_1 l0_1.length c0_1) /\ w19.cell? ⟨Z16, 0, none⟩ = some (.int .i64 a1_0) /\ w19.cell? ⟨Z16, 1, none⟩ = some (.int .i64 a1_1) /\ w19.cell? ⟨Z16, 2, none⟩ = some (.int .i64 a1_2) /\ w19.cell? ⟨Z16, 3, none⟩ = some (.int .i64 a1_3) /\ w19.cell? ⟨Z16, 4, none⟩ = some (.int .i64 a1_4) /\ w19.cell? ⟨Z16, 5, none⟩ = some (.slice A1_5 l1_5.length c1_5) := hS_
               refine norm_ (a' := ?_) ?_ ?_
               rotate_left
               ·simp only [putAll, Act.put, zA, zB, zC]
                rfl
               refine two_ (i := 3) (j := 4) (Ni := some 19) (Nj := some 20) #[true, true, true, true, false, true, true, false, true, true, false, false, false] #[true, true, true, false, true, true, true, false, true, true, false, false, false] rfl rfl rfl rfl (two_of HT_.out (by kernel_rfl)) (by decide) (by decide) (fun K hK => ?_) (fun K hK => ?_)
               ·skip
                refine Kd.R_append_rows_step (Kd.int .i64) (w0 := w) w.heap.size (by rfl) (.tmp 16) (.tmp 18) 36 2 (.int .i64 0) 8 rfl Try.underlying36 info2 rfl (by decide) (by omega) v368 y367 l0_0 _ _ _ (fun _ => True) (fun _ => False) rfl rfl ?aO ?aR (fun _ _ h => h) (fun _ h => h.elim) ?aF ?aB ?aS ?aL ?_
                (case aR => repeat (first | exact (yc HR0_0.out HB.out) | (with_reducible refine yS ?_ _) | (with_reducible refine yT ?_ _) | (with_reducible refine yU ?_)))
                (case aB => exact (by repeat (first | (with_reducible first | exact HB.out | apply zJ | apply zD | apply zE | refine zI ?_ Z3.out | refine zI ?_ Z4.out | refine zI ?_ Z5.out) | exact HB.out)))
                (case aF => exact (fun _ _ => trivial))
                (case aO => exact (by (with_reducible repeat (first | apply zL | apply zM | apply zN)); exact HO369.out))
                (case aS => exact (yK (by repeat (first | (with_reducible first | exact HB.out | apply zJ | apply zD | apply zE | refine zI ?_ Z3.out | refine zI ?_ Z4.out | refine zI ?_ Z5.out) | exact HB.out))))
                (case aL => have := LMc5.out; omega)
                intro v371 w20 ho hb hg hat
                rw [← Ny370.out] at ho
                have n0_ := zK (blk_grown (g := Z15) (o := o1 A0_0 l0_0 c0_0 A0_1 l0_1 c0_1) (by (with_reducible repeat (first | apply zF | apply zH | apply zG)); exact Z0.out) hg (Kd.R_ne HO369.out Z0.out (by decide)))
                have n1_ := zK (blk_grown (g := Z16) (o := o2 a1_0 a1_1 a1_2 a1_3 a1_4 A1_5 l1_5 c1_5) (by (with_reducible repeat (first | apply zF | apply zH | apply zG)); exact Z1.out) hg (Kd.R_ne HO369.out Z1.out (by decide)))
                have n2_ := zK (blk_grown (g := Z17) (o := .cells #[.int .i64 0, .int .i64 0, .int .i64 0, .int .i64 0, .int .i64 0, .slice none 0 0] 24 (0, 0)) (by (with_reducible repeat (first | apply zF | apply zH | apply zG)); exact Z2.out) hg (Kd.R_ne HO369.out Z2.out (by decide)))
                have n3_ := zK (hb)
                have n4_ := zK (ho)
                clear Z0 Z1 Z2 HB HO369
                have Z0 := n0_; have Z1 := n1_; have Z2 := n2_; have HB := n3_; have HO372 := n4_
                clear n0_ n1_ n2_ n3_ n4_ ho hb hg hat
                refine hK.out _ _ ⟨(zO Z0.out 0).trans rfl, (zO Z0.out 1).trans rfl, (zO Z1.out 0).trans rfl, (zO Z1.out 1).trans rfl, (zO Z1.out 2).trans rfl, (zO Z1.out 3).trans rfl, (zO Z1.out 4).trans rfl, (zO Z1.out 5).trans rfl⟩ (fun hHeld => ?_)
                clear hK K
                refine norm_ (a' := ?_) ?_ ?_
                rotate_left
                ·show Act.put _ (some 19) _ = _
                 simp only [Act.put, zA, zB, zC, i64_w, i32_w]
                 rfl
                exact norm_ (by simp only [putAll, Act.put, zA, zB, zC]; try rfl) (hJ0_3_9 (v368, v371, Z17) _ ⟨hHeld, (by (with_reducible repeat (first | apply zL | apply zM | apply zN)); exact HO372.out), (by (with_reducible repeat (first | apply zF | apply zH | apply zG)); exact Z0.out), (by (with_reducible repeat (first | apply zF | apply zH | apply zG)); exact Z1.out), (by (with_reducible repeat (first | apply zF | apply zH | apply zG)); exact Z2.out), Z8.out, Z5.out, Z10.out, Z13.out, Z12.out, Z14.out, (by repeat (first | (with_reducible first | exact HB.out | apply zJ | apply zD | apply zE | refine zI ?_ Z3.out | refine zI ?_ Z4.out | refine zI ?_ Z5.out) | exact HB.out))⟩)
               ·skip
                refine Kd.R_lit_step Kd.bool _ 4 ?hg (N := 20) ?hd (xs := ([] : List Bool)) (inner := []) (ok := fun _ => True) (okp := fun _ => True) ?hr ?hp (fun _ hk => hk) trivial (Below.refl _ _) (yN _) (by simp) ?_; (case hd => rfl); (case hg => rfl); (case hr => first | (go_simp; done) | (go_simp; rfl)); (case hp => exact (Reps.none _ _))
                intro v374 w20 ho21 hb hg_ hnew_
                clear hg_ hnew_
                (first | rw [← Ny373.out] at ho21 | (simp only [Int.reduceToNat] at ho21; rw [← Ny373.out] at ho21))
                have n0_ := zK (yb (by (with_reducible repeat (first | apply zL | apply zM | apply zN)); exact HO369.out) hb)
                have n1_ := zK (Kd.R_lower ho21 (yK (by repeat (first | (with_reducible first | exact HB.out | apply zJ | apply zD | apply zE | refine zI ?_ Z3.out | refine zI ?_ Z4.out | refine zI ?_ Z5.out) | exact HB.out))))
                have n2_ := zK (zP (g := Z15) (o := o1 A0_0 l0_0 c0_0 A0_1 l0_1 c0_1) (by (with_reducible repeat (first | apply zF | apply zH | apply zG)); exact Z0.out) hb)
                have n3_ := zK (zP (g := Z16) (o := o2 a1_0 a1_1 a1_2 a1_3 a1_4 A1_5 l1_5 c1_5) (by (with_reducible repeat (first | apply zF | apply zH | apply zG)); exact Z1.out) hb)
                have n4_ := zK (zP (g := Z17) (o := .cells #[.int .i64 0, .int .i64 0, .int .i64 0, .int .i64 0, .int .i64 0, .slice none 0 0] 24 (0, 0)) (by (with_reducible repeat (first | apply zF | apply zH | apply zG)); exact Z2.out) hb)
                have n5_ := zK (yL (by repeat (first | (with_reducible first | exact HB.out | apply zJ | apply zD | apply zE | refine zI ?_ Z3.out | refine zI ?_ Z4.out | refine zI ?_ Z5.out) | exact HB.out)) hb)
                clear HO369 Z0 Z1 Z2 HB
                have HO369 := n0_; have HO375 := n1_; have Z0 := n2_; have Z1 := n3_; have Z2 := n4_; have HB := n5_
                clear n0_ n1_ n2_ n3_ n4_ n5_ hb ho21
                refine hK.out _ _ ⟨(zO Z0.out 0).trans rfl, (zO Z0.out 1).trans rfl, (zO Z1.out 0).trans rfl, (zO Z1.out 1).trans rfl, (zO Z1.out 2).trans rfl, (zO Z1.out 3).trans rfl, (zO Z1.out 4).trans rfl, (zO Z1.out 5).trans rfl⟩ (fun hHeld => ?_)
                clear hK K
                refine norm_ (a' := ?_) ?_ ?_
                rotate_left
                ·show Act.put _ (some 20) _ = _
                 simp only [Act.put, zA, zB, zC, i64_w, i32_w]
                 rfl
                exact norm_ (by simp only [putAll, Act.put, zA, zB, zC]; try rfl) (hJ0_4_9 (v368, v374, Z17) _ ⟨hHeld, (by (with_reducible repeat (first | apply zL | apply zM | apply zN)); exact HO369.out), (by (with_reducible repeat (first | apply zL | apply zM | apply zN)); exact HO375.out), (by (with_reducible repeat (first | apply zF | apply zH | apply zG)); exact Z0.out), (by (with_reducible repeat (first | apply zF | apply zH | apply zG)); exact Z1.out), (by (with_reducible repeat (first | apply zF | apply zH | apply zG)); exact Z2.out), Z8.out, Z5.out, Z10.out, Z13.out, Z12.out, Z14.out, (by repeat (first | (with_reducible first | exact HB.out | apply zJ | apply zD | apply zE | refine zI ?_ Z3.out | refine zI ?_ Z4.out | refine zI ?_ Z5.out) | exact HB.out))⟩)
             ·skip
              rintro ⟨v368, v374⟩ w20 ⟨hS_, h0_, h1_, h2_, h3_, h4_⟩
              have n0_ : Aside0 (Kd.R (Kd.int .i64) 2 w20 w.heap.size (fun _ => True) v368 y367) := ⟨h0_⟩
              have n1_ : Aside0 (Kd.R Kd.bool 4 w20 w.heap.size (fun _ => True) v374 y373) := ⟨h1_⟩
              have n2_ : Aside0 (w20.heap[Z15]? = some (.cells #[.slice A0_0 l0_0.length c0_0, .slice A0_1 l0_1.length c0_1] 39 (0, 0))) := ⟨h2_⟩
              have n3_ : Aside0 (w20.heap[Z16]? = some (.cells #[.int .i64 a1_0, .int .i64 a1_1, .int .i64 a1_2, .int .i64 a1_3, .int .i64 a1_4, .slice A1_5 l1_5.length c1_5] 24 (0, 0))) := ⟨h3_⟩
              have n4_ : Aside0 (Below w.heap.size w w20) := ⟨h4_⟩
              clear Z0 Z1 HB h0_ h1_ h2_ h3_ h4_
              have HO369 := n0_; have HO375 := n1_; have Z0 := n2_; have Z1 := n3_; have HB := n4_
              clear n0_ n1_ n2_ n3_ n4_
              have hHeld : w20.cell? ⟨Z15, 0, none⟩ = some (.slice A0_0 l0_0.length c0_0) /\ w20.cell? ⟨Z15, 1, none⟩ = some (.slice A0_1 l0_1.length c0_1) /\ w20.cell? ⟨Z16, 0, none⟩ = some (.int .i64 a1_0) /\ w20.cell? ⟨Z16, 1, none⟩ = some (.int .i64 a1_1) /\ w20.cell? ⟨Z16, 2, none⟩ = some (.int .i64 a1_2) /\ w20.cell? ⟨Z16, 3, none⟩ = some (.int .i64 a1_3) /\ w20.cell? ⟨Z16, 4, none⟩ = some (.int .i64 a1_4) /\ w20.cell? ⟨Z16, 5, none⟩ = some (.slice A1_5 l1_5.length c1_5) := hS_
              refine norm_ (a' := ?_) ?_ ?_
              rotate_left
              ·simp only [putAll, Act.put, zA, zB, zC]
               rfl
              refine two_ (i := 3) (j := 9) (Ni := some 19) (Nj := some 7) #[true, true, true, true, true, true, true, false, true, false, false, false, false] #[true, true, true, false, true, true, true, false, true, true, false, false, false] rfl rfl rfl rfl (two_of HT_.out (by kernel_rfl)) (by decide) (by decide) (fun K hK => ?_) (fun K hK => ?_)
              ·skip
               refine Kd.R_append_rows_step (Kd.int .i64) (w0 := w) w.heap.size (by rfl) (.tmp 16) (.tmp 18) 36 2 (.int .i64 0) 8 rfl Try.underlying36 info2 rfl (by decide) (by omega) v368 y367 l0_0 _ _ _ (fun _ => True) (fun _ => False) rfl rfl ?aO ?aR (fun _ _ h => h) (fun _ h => h.elim) ?aF ?aB ?aS ?aL ?_
               (case aR => repeat (first | exact (yc HR0_0.out HB.out) | (with_reducible refine yS ?_ _) | (with_reducible refine yT ?_ _) | (with_reducible refine yU ?_)))
               (case aB => exact (by repeat (first | (with_reducible first | exact HB.out | apply zJ | apply zD | apply zE | refine zI ?_ Z3.out | refine zI ?_ Z4.out) | exact HB.out)))
               (case aF => exact (fun _ _ => trivial))
               (case aO => exact (by (with_reducible repeat (first | apply zL | apply zM | apply zN)); exact HO369.out))
               (case aS => exact (yK (by repeat (first | (with_reducible first | exact HB.out | apply zJ | apply zD | apply zE | refine zI ?_ Z3.out | refine zI ?_ Z4.out) | exact HB.out))))
               (case aL => have := LMc5.out; omega)
               intro v371 w21 ho hb hg hat
               rw [← Ny370.out] at ho
               have n0_ := zK (blk_grown (g := Z15) (o := o1 A0_0 l0_0 c0_0 A0_1 l0_1 c0_1) (by (with_reducible repeat (first | apply zF | apply zH | apply zG)); exact Z0.out) hg (Kd.R_ne HO369.out Z0.out (by decide)))
               have n1_ := zK (blk_grown (g := Z16) (o := o2 a1_0 a1_1 a1_2 a1_3 a1_4 A1_5 l1_5 c1_5) (by (with_reducible repeat (first | apply zF | apply zH | apply zG)); exact Z1.out) hg (Kd.R_ne HO369.out Z1.out (by decide)))
               have n2_ := zK (Kd.R_over' (by (with_reducible repeat (first | apply zL | apply zM | apply zN)); exact HO375.out) (Kd.R_typed (by (with_reducible repeat (first | apply zL | apply zM | apply zN)); exact HO369.out)) (by decide) hg)
               have n3_ := zK (hb)
               have n4_ := zK (ho)
               clear Z0 Z1 HO375 HB HO369
               have Z0 := n0_; have Z1 := n1_; have HO375 := n2_; have HB := n3_; have HO372 := n4_
               clear n0_ n1_ n2_ n3_ n4_ ho hb hg hat
               refine hK.out _ _ ⟨(zO Z0.out 0).trans rfl, (zO Z0.out 1).trans rfl, (zO Z1.out 0).trans rfl, (zO Z1.out 1).trans rfl, (zO Z1.out 2).trans rfl, (zO Z1.out 3).trans rfl, (zO Z1.out 4).trans rfl, (zO Z1.out 5).trans rfl⟩ (fun hHeld => ?_)
               clear hK K
               refine norm_ (a' := ?_) ?_ ?_
               rotate_left
               ·show Act.put _ (some 19) _ = _
                simp only [Act.put, zA, zB, zC, i64_w, i32_w]
                rfl
               exact norm_ (by simp only [putAll, Act.put, zA, zB, zC]; try rfl) (hJ0_3_4 (v368, v371, v374) _ ⟨hHeld, (by (with_reducible repeat (first | apply zL | apply zM | apply zN)); exact HO372.out), (by (with_reducible repeat (first | apply zL | apply zM | apply zN)); exact HO375.out), (by (with_reducible repeat (first | apply zF | apply zH | apply zG)); exact Z0.out), (by (with_reducible repeat (first | apply zF | apply zH | apply zG)); exact Z1.out), (by repeat (first | (with_reducible first | exact HB.out | apply zJ | apply zD | apply zE | refine zI ?_ Z3.out | refine zI ?_ Z4.out) | exact HB.out))⟩)
              ·skip
               refine box_step ?hg (N := 7) ?hd (cs := #[.int .i64 0, .int .i64 0, .int .i64 0, .int .i64 0, .int .i64 0, .slice none 0 0]) (t := 24) ?hr ?_; (case hd => rfl); (case hg => rfl); (case hr => first | (go_simp; done) | (go_simp; rfl))
               intro Z17 hg w21 hbox hb
               have n0_ := zK (yb (by (with_reducible repeat (first | apply zL | apply zM | apply zN)); exact HO369.out) hb)
               have n1_ := zK (yb (by (with_reducible repeat (first | apply zL | apply zM | apply zN)); exact HO375.out) hb)
               have n2_ := zK (zP (g := Z15) (o := o1 A0_0 l0_0 c0_0 A0_1 l0_1 c0_1) (by (with_reducible repeat (first | apply zF | apply zH | apply zG)); exact Z0.out) hb)
               have n3_ := zK (zP (g := Z16) (o := o2 a1_0 a1_1 a1_2 a1_3 a1_4 A1_5 l1_5 c1_5) (by (with_reducible repeat (first | apply zF | apply zH | apply zG)); exact Z1.out) hb)
               have n4_ := zK (yL (by repeat (first | (with_reducible first | exact HB.out | apply zJ | apply zD | apply zE | refine zI ?_ Z3.out | refine zI ?_ Z4.out) | exact HB.out)) hb)
               have n5_ := zK (hbox)
               have n6_ := zK ((by rw [hg]; exact (yK (by repeat (first | (with_reducible first | exact HB.out | apply zJ | apply zD | apply zE | refine zI ?_ Z3.out | refine zI ?_ Z4.out) | exact HB.out))) : w.heap.size <= Z17))
               have n7_ := zK ((by rw [hg]; exact (yK (by repeat (first | (with_reducible first | exact HB.out | apply zJ | apply zD | apply zE | refine zI ?_ Z3.out | refine zI ?_ Z4.out) | exact HB.out))) : w.heap.size <= Z17))
               have n8_ := zK ((by rw [hg]; exact ym (yo (g := Z15) (o := o1 A0_0 l0_0 c0_0 A0_1 l0_1 c0_1) (by (with_reducible repeat (first | apply zF | apply zH | apply zG)); exact Z0.out)) : Z15 ≠ Z17))
               have n9_ := zK ((by rw [hg]; exact yn (yo (g := Z15) (o := o1 A0_0 l0_0 c0_0 A0_1 l0_1 c0_1) (by (with_reducible repeat (first | apply zF | apply zH | apply zG)); exact Z0.out)) : Z17 ≠ Z15))
               have n10_ := zK ((by rw [hg]; exact ym (yo (g := Z16) (o := o2 a1_0 a1_1 a1_2 a1_3 a1_4 A1_5 l1_5 c1_5) (by (with_reducible repeat (first | apply zF | apply zH | apply zG)); exact Z1.out)) : Z16 ≠ Z17))
               have n11_ := zK ((by rw [hg]; exact yn (yo (g := Z16) (o := o2 a1_0 a1_1 a1_2 a1_3 a1_4 A1_5 l1_5 c1_5) (by (with_reducible repeat (first | apply zF | apply zH | apply zG)); exact Z1.out)) : Z17 ≠ Z16))
               clear HO369 HO375 Z0 Z1 HB
               have HO369 := n0_; have HO375 := n1_; have Z0 := n2_; have Z1 := n3_; have HB := n4_; have Z2 := n5_; have Z8 := n6_; have Z5 := n7_; have Z10 := n8_; have Z13 := n9_; have Z12 := n10_; have Z14 := n11_
               clear n0_ n1_ n2_ n3_ n4_ n5_ n6_ n7_ n8_ n9_ n10_ n11_ hb hbox hg
               refine hK.out _ _ ⟨(zO Z0.out 0).trans rfl, (zO Z0.out 1).trans rfl, (zO Z1.out 0).trans rfl, (zO Z1.out 1).trans rfl, (zO Z1.out 2).trans rfl, (zO Z1.out 3).trans rfl, (zO Z1.out 4).trans rfl, (zO Z1.out 5).trans rfl⟩ (fun hHeld => ?_)
               clear hK K
               refine norm_ (a' := ?_) ?_ ?_
               rotate_left
               ·show Act.put _ (some 7) _ = _
                simp only [Act.put, zA, zB, zC, i64_w, i32_w]
                rfl
               exact norm_ (by simp only [putAll, Act.put, zA, zB, zC]; try rfl) (hJ0_4_9 (v368, v374, Z17) _ ⟨hHeld, (by (with_reducible repeat (first | apply zL | apply zM | apply zN)); exact HO369.out), (by (with_reducible repeat (first | apply zL | apply zM | apply zN)); exact HO375.out), (by (with_reducible repeat (first | apply zF | apply zH | apply zG)); exact Z0.out), (by (with_reducible repeat (first | apply zF | apply zH | apply zG)); exact Z1.out), (by (with_reducible repeat (first | apply zF | apply zH | apply zG)); exact Z2.out), Z8.out, Z5.out, Z10.out, Z13.out, Z12.out, Z14.out, (by repeat (first | (with_reducible first | exact HB.out | apply zJ | apply zD | apply zE | refine zI ?_ Z3.out | refine zI ?_ Z4.out | refine zI ?_ Z5.out) | exact HB.out))⟩)
            ·skip
             rintro ⟨v368, v371⟩ w19 ⟨hS_, h0_, h1_, h2_, h3_⟩
             have n0_ : Aside0 (Kd.R (Kd.int .i64) 2 w19 w.heap.size (fun _ => True) v371 y370) := ⟨h0_⟩
             have n1_ : Aside0 (w19.heap[Z15]? = some (.cells #[.slice A0_0 l0_0.length c0_0, .slice A0_1 l0_1.length c0_1] 39 (0, 0))) := ⟨h1_⟩
             have n2_ : Aside0 (w19.heap[Z16]? = some (.cells #[.int .i64 a1_0, .int .i64 a1_1, .int .i64 a1_2, .int .i64 a1_3, .int .i64 a1_4, .slice A1_5 l1_5.length c1_5] 24 (0, 0))) := ⟨h2_⟩
             have n3_ : Aside0 (Below w.heap.size w w19) := ⟨h3_⟩
             clear Z0 Z1 HB h0_ h1_ h2_ h3_
             have HO372 := n0_; have Z0 := n1_; have Z1 := n2_; have HB := n3_
             clear n0_ n1_ n2_ n3_
             have hHeld : w19.cell? ⟨Z15, 0, none⟩ = some (.slice A0_0 l0_0.length c0_0) /\ w19.cell? ⟨Z15, 1, none⟩ = some (.slice A0_1 l0_1.length c0_1) /\ w19.cell? ⟨Z16, 0, none⟩ = some (.int .i64 a1_0) /\ w19.cell? ⟨Z16, 1, none⟩ = some (.int .i64 a1_1) /\ w19.cell? ⟨Z16, 2, none⟩ = some (.int .i64 a1_2) /\ w19.cell? ⟨Z16, 3, none⟩ = some (.int .i64 a1_3) /\ w19.cell? ⟨Z16, 4, none⟩ = some (.int .i64 a1_4) /\ w19.cell? ⟨Z16, 5, none⟩ = some (.slice A1_5 l1_5.length c1_5) := hS_
             refine norm_ (a' := ?_) ?_ ?_
             rotate_left
             ·simp only [putAll, Act.put, zA, zB, zC]
              rfl
             refine two_ (i := 4) (j := 9) (Ni := some 20) (Nj := some 7) #[true, true, true, true, true, true, true, false, true, false, false, false, false] #[true, true, true, true, false, true, true, false, true, true, false, false, false] rfl rfl rfl rfl (two_of HT_.out (by kernel_rfl)) (by decide) (by decide) (fun K hK => ?_) (fun K hK => ?_)
             ·skip
              refine Kd.R_lit_step Kd.bool _ 4 ?hg (N := 20) ?hd (xs := ([] : List Bool)) (inner := []) (ok := fun _ => True) (okp := fun _ => True) ?hr ?hp (fun _ hk => hk) trivial (Below.refl _ _) (yN _) (by simp) ?_; (case hd => rfl); (case hg => rfl); (case hr => first | (go_simp; done) | (go_simp; rfl)); (case hp => exact (Reps.none _ _))
              intro v374 w20 ho21 hb hg_ hnew_
              clear hg_ hnew_
              (first | rw [← Ny373.out] at ho21 | (simp only [Int.reduceToNat] at ho21; rw [← Ny373.out] at ho21))
              have n0_ := zK (yb (by (with_reducible repeat (first | apply zL | apply zM | apply zN)); exact HO372.out) hb)
              have n1_ := zK (Kd.R_lower ho21 (yK (by repeat (first | (with_reducible first | exact HB.out | apply zJ | apply zD | apply zE | refine zI ?_ Z3.out | refine zI ?_ Z4.out) | exact HB.out))))
              have n2_ := zK (zP (g := Z15) (o := o1 A0_0 l0_0 c0_0 A0_1 l0_1 c0_1) (by (with_reducible repeat (first | apply zF | apply zH | apply zG)); exact Z0.out) hb)
              have n3_ := zK (zP (g := Z16) (o := o2 a1_0 a1_1 a1_2 a1_3 a1_4 A1_5 l1_5 c1_5) (by (with_reducible repeat (first | apply zF | apply zH | apply zG)); exact Z1.out) hb)
              have n4_ := zK (yL (by repeat (first | (with_reducible first | exact HB.out | apply zJ | apply zD | apply zE | refine zI ?_ Z3.out | refine zI ?_ Z4.out) | exact HB.out)) hb)
              clear HO372 Z0 Z1 HB
              have HO372 := n0_; have HO375 := n1_; have Z0 := n2_; have Z1 := n3_; have HB := n4_
              clear n0_ n1_ n2_ n3_ n4_ hb ho21
              refine hK.out _ _ ⟨(zO Z0.out 0).trans rfl, (zO Z0.out 1).trans rfl, (zO Z1.out 0).trans rfl, (zO Z1.out 1).trans rfl, (zO Z1.out 2).trans rfl, (zO Z1.out 3).trans rfl, (zO Z1.out 4).trans rfl, (zO Z1.out 5).trans rfl⟩ (fun hHeld => ?_)
              clear hK K
              refine norm_ (a' := ?_) ?_ ?_
              rotate_left
              ·show Act.put _ (some 20) _ = _
               simp only [Act.put, zA, zB, zC, i64_w, i32_w]
               rfl
              exact norm_ (by simp only [putAll, Act.put, zA, zB, zC]; try rfl) (hJ0_3_4 (v368, v371, v374) _ ⟨hHeld, (by (with_reducible repeat (first | apply zL | apply zM | apply zN)); exact HO372.out), (by (with_reducible repeat (first | apply zL | apply zM | apply zN)); exact HO375.out), (by (with_reducible repeat (first | apply zF | apply zH | apply zG)); exact Z0.out), (by (with_reducible repeat (first | apply zF | apply zH | apply zG)); exact Z1.out), (by repeat (first | (with_reducible first | exact HB.out | apply zJ | apply zD | apply zE | refine zI ?_ Z3.out | refine zI ?_ Z4.out) | exact HB.out))⟩)
             ·skip
              refine box_step ?hg (N := 7) ?hd (cs := #[.int .i64 0, .int .i64 0, .int .i64 0, .int .i64 0, .int .i64 0, .slice none 0 0]) (t := 24) ?hr ?_; (case hd => rfl); (case hg => rfl); (case hr => first | (go_simp; done) | (go_simp; rfl))
              intro Z17 hg w20 hbox hb
              have n0_ := zK (yb (by (with_reducible repeat (first | apply zL | apply zM | apply zN)); exact HO372.out) hb)
              have n1_ := zK (zP (g := Z15) (o := o1 A0_0 l0_0 c0_0 A0_1 l0_1 c0_1) (by (with_reducible repeat (first | apply zF | apply zH | apply zG)); exact Z0.out) hb)
              have n2_ := zK (zP (g := Z16) (o := o2 a1_0 a1_1 a1_2 a1_3 a1_4 A1_5 l1_5 c1_5) (by (with_reducible repeat (first | apply zF | apply zH | apply zG)); exact Z1.out) hb)
              have n3_ := zK (yL (by repeat (first | (with_reducible first | exact HB.out | apply zJ | apply zD | apply zE | refine zI ?_ Z3.out | refine zI ?_ Z4.out) | exact HB.out)) hb)
              have n4_ := zK (hbox)
              have n5_ := zK ((by rw [hg]; exact (yK (by repeat (first | (with_reducible first | exact HB.out | apply zJ | apply zD | apply zE | refine zI ?_ Z3.out | refine zI ?_ Z4.out) | exact HB.out))) : w.heap.size <= Z17))
              have n6_ := zK ((by rw [hg]; exact (yK (by repeat (first | (with_reducible first | exact HB.out | apply zJ | apply zD | apply zE | refine zI ?_ Z3.out | refine zI ?_ Z4.out) | exact HB.out))) : w.heap.size <= Z17))
              have n7_ := zK ((by rw [hg]; exact ym (yo (g := Z15) (o := o1 A0_0 l0_0 c0_0 A0_1 l0_1 c0_1) (by (with_reducible repeat (first | apply zF | apply zH | apply zG)); exact Z0.out)) : Z15 ≠ Z17))
              have n8_ := zK ((by rw [hg]; exact yn (yo (g := Z15) (o := o1 A0_0 l0_0 c0_0 A0_1 l0_1 c0_1) (by (with_reducible repeat (first | apply zF | apply zH | apply zG)); exact Z0.out)) : Z17 ≠ Z15))
              have n9_ := zK ((by rw [hg]; exact ym (yo (g := Z16) (o := o2 a1_0 a1_1 a1_2 a1_3 a1_4 A1_5 l1_5 c1_5) (by (with_reducible repeat (first | apply zF | apply zH | apply zG)); exact Z1.out)) : Z16 ≠ Z17))
              have n10_ := zK ((by rw [hg]; exact yn (yo (g := Z16) (o := o2 a1_0 a1_1 a1_2 a1_3 a1_4 A1_5 l1_5 c1_5) (by (with_reducible repeat (first | apply zF | apply zH | apply zG)); exact Z1.out)) : Z17 ≠ Z16))
              clear HO372 Z0 Z1 HB
              have HO372 := n0_; have Z0 := n1_; have Z1 := n2_; have HB := n3_; have Z2 := n4_; have Z8 := n5_; have Z5 := n6_; have Z10 := n7_; have Z13 := n8_; have Z12 := n9_; have Z14 := n10_
              clear n0_ n1_ n2_ n3_ n4_ n5_ n6_ n7_ n8_ n9_ n10_ hb hbox hg
              refine hK.out _ _ ⟨(zO Z0.out 0).trans rfl, (zO Z0.out 1).trans rfl, (zO Z1.out 0).trans rfl, (zO Z1.out 1).trans rfl, (zO Z1.out 2).trans rfl, (zO Z1.out 3).trans rfl, (zO Z1.out 4).trans rfl, (zO Z1.out 5).trans rfl⟩ (fun hHeld => ?_)
              clear hK K
              refine norm_ (a' := ?_) ?_ ?_
              rotate_left
              ·show Act.put _ (some 7) _ = _
               simp only [Act.put, zA, zB, zC, i64_w, i32_w]
               rfl
              exact norm_ (by simp only [putAll, Act.put, zA, zB, zC]; try rfl) (hJ0_3_9 (v368, v371, Z17) _ ⟨hHeld, (by (with_reducible repeat (first | apply zL | apply zM | apply zN)); exact HO372.out), (by (with_reducible repeat (first | apply zF | apply zH | apply zG)); exact Z0.out), (by (with_reducible repeat (first | apply zF | apply zH | apply zG)); exact Z1.out), (by (with_reducible repeat (first | apply zF | apply zH | apply zG)); exact Z2.out), Z8.out, Z5.out, Z10.out, Z13.out, Z12.out, Z14.out, (by repeat (first | (with_reducible first | exact HB.out | apply zJ | apply zD | apply zE | refine zI ?_ Z3.out | refine zI ?_ Z4.out | refine zI ?_ Z5.out) | exact HB.out))⟩)
           ·skip
            rintro ⟨v368, v374, Z17⟩ w21 ⟨hS_, h0_, h1_, h2_, h3_, h4_, h5_, h6_, h7_, h8_, h9_, h10_, h11_⟩
            have n0_ : Aside0 (Kd.R (Kd.int .i64) 2 w21 w.heap.size (fun _ => True) v368 y367) := ⟨h0_⟩
            have n1_ : Aside0 (Kd.R Kd.bool 4 w21 w.heap.size (fun _ => True) v374 y373) := ⟨h1_⟩
            have n2_ : Aside0 (w21.heap[Z15]? = some (.cells #[.slice A0_0 l0_0.length c0_0, .slice A0_1 l0_1.length c0_1] 39 (0, 0))) := ⟨h2_⟩
            have n3_ : Aside0 (w21.heap[Z16]? = some (.cells #[.int .i64 a1_0, .int .i64 a1_1, .int .i64 a1_2, .int .i64 a1_3, .int .i64 a1_4, .slice A1_5 l1_5.length c1_5] 24 (0, 0))) := ⟨h3_⟩
            have n4_ : Aside0 (w21.heap[Z17]? = some (.cells #[.int .i64 0, .int .i64 0, .int .i64 0, .int .i64 0, .int .i64 0, .slice none 0 0] 24 (0, 0))) := ⟨h4_⟩
            have n5_ : Aside0 (w.heap.size <= Z17) := ⟨h5_⟩
            have n6_ : Aside0 (w.heap.size <= Z17) := ⟨h6_⟩
            have n7_ : Aside0 (Z15 ≠ Z17) := ⟨h7_⟩
            have n8_ : Aside0 (Z17 ≠ Z15) := ⟨h8_⟩
            have n9_ : Aside0 (Z16 ≠ Z17) := ⟨h9_⟩
            have n10_ : Aside0 (Z17 ≠ Z16) := ⟨h10_⟩
            have n11_ : Aside0 (Below w.heap.size w w21) := ⟨h11_⟩
            clear Z0 Z1 HB h0_ h1_ h2_ h3_ h4_ h5_ h6_ h7_ h8_ h9_ h10_ h11_
            have HO369 := n0_; have HO375 := n1_; have Z0 := n2_; have Z1 := n3_; have Z2 := n4_; have Z8 := n5_; have Z5 := n6_; have Z10 := n7_; have Z13 := n8_; have Z12 := n9_; have Z14 := n10_; have HB := n11_
            clear n0_ n1_ n2_ n3_ n4_ n5_ n6_ n7_ n8_ n9_ n10_ n11_
            have hHeld : w21.cell? ⟨Z15, 0, none⟩ = some (.slice A0_0 l0_0.length c0_0) /\ w21.cell? ⟨Z15, 1, none⟩ = some (.slice A0_1 l0_1.length c0_1) /\ w21.cell? ⟨Z16, 0, none⟩ = some (.int .i64 a1_0) /\ w21.cell? ⟨Z16, 1, none⟩ = some (.int .i64 a1_1) /\ w21.cell? ⟨Z16, 2, none⟩ = some (.int .i64 a1_2) /\ w21.cell? ⟨Z16, 3, none⟩ = some (.int .i64 a1_3) /\ w21.cell? ⟨Z16, 4, none⟩ = some (.int .i64 a1_4) /\ w21.cell? ⟨Z16, 5, none⟩ = some (.slice A1_5 l1_5.length c1_5) := hS_
            refine norm_ (a' := ?_) ?_ ?_
            rotate_left
            ·simp only [putAll, Act.put, zA, zB, zC]
             rfl
            refine one_ (i := 3) (N := some 19) #[true, true, true, true, true, true, true, false, true, true, false, false, false] rfl rfl (one_of HT_.out (by kernel_rfl)) (by decide) (fun K hK => ?_)
            refine Kd.R_append_rows_step (Kd.int .i64) (w0 := w) w.heap.size (by rfl) (.tmp 16) (.tmp 18) 36 2 (.int .i64 0) 8 rfl Try.underlying36 info2 rfl (by decide) (by omega) v368 y367 l0_0 _ _ _ (fun _ => True) (fun _ => False) rfl rfl ?aO ?aR (fun _ _ h => h) (fun _ h => h.elim) ?aF ?aB ?aS ?aL ?_
            (case aR => repeat (first | exact (yc HR0_0.out HB.out) | (with_reducible refine yS ?_ _) | (with_reducible refine yT ?_ _) | (with_reducible refine yU ?_)))
            (case aB => exact (by repeat (first | (with_reducible first | exact HB.out | apply zJ | apply zD | apply zE | refine zI ?_ Z3.out | refine zI ?_ Z4.out | refine zI ?_ Z5.out) | exact HB.out)))
            (case aF => exact (fun _ _ => trivial))
            (case aO => exact (by (with_reducible repeat (first | apply zL | apply zM | apply zN)); exact HO369.out))
            (case aS => exact (yK (by repeat (first | (with_reducible first | exact HB.out | apply zJ | apply zD | apply zE | refine zI ?_ Z3.out | refine zI ?_ Z4.out | refine zI ?_ Z5.out) | exact HB.out))))
            (case aL => have := LMc5.out; omega)
            intro v371 w22 ho hb hg hat
            rw [← Ny370.out] at ho
            have n0_ := zK (blk_grown (g := Z15) (o := o1 A0_0 l0_0 c0_0 A0_1 l0_1 c0_1) (by (with_reducible repeat (first | apply zF | apply zH | apply zG)); exact Z0.out) hg (Kd.R_ne HO369.out Z0.out (by decide)))
            have n1_ := zK (blk_grown (g := Z16) (o := o2 a1_0 a1_1 a1_2 a1_3 a1_4 A1_5 l1_5 c1_5) (by (with_reducible repeat (first | apply zF | apply zH | apply zG)); exact Z1.out) hg (Kd.R_ne HO369.out Z1.out (by decide)))
            have n2_ := zK (Kd.R_over' (by (with_reducible repeat (first | apply zL | apply zM | apply zN)); exact HO375.out) (Kd.R_typed (by (with_reducible repeat (first | apply zL | apply zM | apply zN)); exact HO369.out)) (by decide) hg)
            have n3_ := zK (blk_grown (g := Z17) (o := .cells #[.int .i64 0, .int .i64 0, .int .i64 0, .int .i64 0, .int .i64 0, .slice none 0 0] 24 (0, 0)) (by (with_reducible repeat (first | apply zF | apply zH | apply zG)); exact Z2.out) hg (Kd.R_ne HO369.out Z2.out (by decide)))
            have n4_ := zK (hb)
            have n5_ := zK (ho)
            clear Z0 Z1 HO375 Z2 HB HO369
            have Z0 := n0_; have Z1 := n1_; have HO375 := n2_; have Z2 := n3_; have HB := n4_; have HO372 := n5_
            clear n0_ n1_ n2_ n3_ n4_ n5_ ho hb hg hat
            refine hK.out _ _ ⟨(zO Z0.out 0).trans rfl, (zO Z0.out 1).trans rfl, (zO Z1.out 0).trans rfl, (zO Z1.out 1).trans rfl, (zO Z1.out 2).trans rfl, (zO Z1.out 3).trans rfl, (zO Z1.out 4).trans rfl, (zO Z1.out 5).trans rfl⟩ (fun hHeld => ?_)
            clear hK K
            refine norm_ (a' := ?_) ?_ ?_
            rotate_left
            ·show Act.put _ (some 19) _ = _
             simp only [Act.put, zA, zB, zC, i64_w, i32_w]
             rfl
            exact norm_ (by simp only [putAll, Act.put, zA, zB, zC]; try rfl) (hJ0_3_4_9 (v368, v371, v374, Z17) _ ⟨hHeld, (by (with_reducible repeat (first | apply zL | apply zM | apply zN)); exact HO372.out), (by (with_reducible repeat (first | apply zL | apply zM | apply zN)); exact HO375.out), (by (with_reducible repeat (first | apply zF | apply zH | apply zG)); exact Z0.out), (by (with_reducible repeat (first | apply zF | apply zH | apply zG)); exact Z1.out), (by (with_reducible repeat (first | apply zF | apply zH | apply zG)); exact Z2.out), Z8.out, Z5.out, Z10.out, Z13.out, Z12.out, Z14.out, (by repeat (first | (with_reducible first | exact HB.out | apply zJ | apply zD | apply zE | refine zI ?_ Z3.out | refine zI ?_ Z4.out | refine zI ?_ Z5.out) | exact HB.out))⟩)
          ·skip
           rintro ⟨v368, v371, Z17⟩ w20 ⟨hS_, h0_, h1_, h2_, h3_, h4_, h5_, h6_, h7_, h8_, h9_, h10_⟩
           have n0_ : Aside0 (Kd.R (Kd.int .i64) 2 w20 w.heap.size (fun _ => True) v371 y370) := ⟨h0_⟩
           have n1_ : Aside0 (w20.heap[Z15]? = some (.cells #[.slice A0_0 l0_0.length c0_0, .slice A0_1 l0_1.length c0_1] 39 (0, 0))) := ⟨h1_⟩
           have n2_ : Aside0 (w20.heap[Z16]? = some (.cells #[.int .i64 a1_0, .int .i64 a1_1, .int .i64 a1_2, .int .i64 a1_3, .int .i64 a1_4, .slice A1_5 l1_5.length c1_5] 24 (0, 0))) := ⟨h2_⟩
           have n3_ : Aside0 (w20.heap[Z17]? = some (.cells #[.int .i64 0, .int .i64 0, .int .i64 0, .int .i64 0, .int .i64 0, .slice none 0 0] 24 (0, 0))) := ⟨h3_⟩
           have n4_ : Aside0 (w.heap.size <= Z17) := ⟨h4_⟩
           have n5_ : Aside0 (w.heap.size <= Z17) := ⟨h5_⟩
           have n6_ : Aside0 (Z15 ≠ Z17) := ⟨h6_⟩
           have n7_ : Aside0 (Z17 ≠ Z15) := ⟨h7_⟩
           have n8_ : Aside0 (Z16 ≠ Z17) := ⟨h8_⟩
           have n9_ : Aside0 (Z17 ≠ Z16) := ⟨h9_⟩
           have n10_ : Aside0 (Below w.heap.size w w20) := ⟨h10_⟩
           clear Z0 Z1 HB h0_ h1_ h2_ h3_ h4_ h5_ h6_ h7_ h8_ h9_ h10_
           have HO372 := n0_; have Z0 := n1_; have Z1 := n2_; have Z2 := n3_; have Z8 := n4_; have Z5 := n5_; have Z10 := n6_; have Z13 := n7_; have Z12 := n8_; have Z14 := n9_; have HB := n10_
           clear n0_ n1_ n2_ n3_ n4_ n5_ n6_ n7_ n8_ n9_ n10_
           have hHeld : w20.cell? ⟨Z15, 0, none⟩ = some (.slice A0_0 l0_0.length c0_0) /\ w20.cell? ⟨Z15, 1, none⟩ = some (.slice A0_1 l0_1.length c0_1) /\ w20.cell? ⟨Z16, 0, none⟩ = some (.int .i64 a1_0) /\ w20.cell? ⟨Z16, 1, none⟩ = some (.int .i64 a1_1) /\ w20.cell? ⟨Z16, 2, none⟩ = some (.int .i64 a1_2) /\ w20.cell? ⟨Z16, 3, none⟩ = some (.int .i64 a1_3) /\ w20.cell? ⟨Z16, 4, none⟩ = some (.int .i64 a1_4) /\ w20.cell? ⟨Z16, 5, none⟩ = some (.slice A1_5 l1_5.length c1_5) := hS_
           refine norm_ (a' := ?_) ?_ ?_
           rotate_left
           ·simp only [putAll, Act.put, zA, zB, zC]
            rfl
           refine one_ (i := 4) (N := some 20) #[true, true, true, true, true, true, true, false, true, true, false, false, false] rfl rfl (one_of HT_.out (by kernel_rfl)) (by decide) (fun K hK => ?_)
           refine Kd.R_lit_step Kd.bool _ 4 ?hg (N := 20) ?hd (xs := ([] : List Bool)) (inner := []) (ok := fun _ => True) (okp := fun _ => True) ?hr ?hp (fun _ hk => hk) trivial (Below.refl _ _) (yN _) (by simp) ?_; (case hd => rfl); (case hg => rfl); (case hr => first | (go_simp; done) | (go_simp; rfl)); (case hp => exact (Reps.none _ _))
           intro v374 w21 ho22 hb hg_ hnew_
           clear hg_ hnew_
           (first | rw [← Ny373.out] at ho22 | (simp only [Int.reduceToNat] at ho22; rw [← Ny373.out] at ho22))
           have n0_ := zK (yb (by (with_reducible repeat (first | apply zL | apply zM | apply zN)); exact HO372.out) hb)
           have n1_ := zK (Kd.R_lower ho22 (yK (by repeat (first | (with_reducible first | exact HB.out | apply zJ | apply zD | apply zE | refine zI ?_ Z3.out | refine zI ?_ Z4.out | refine zI ?_ Z5.out) | exact HB.out))))
           have n2_ := zK (zP (g := Z15) (o := o1 A0_0 l0_0 c0_0 A0_1 l0_1 c0_1) (by (with_reducible repeat (first | apply zF | apply zH | apply zG)); exact Z0.out) hb)
           have n3_ := zK (zP (g := Z16) (o := o2 a1_0 a1_1 a1_2 a1_3 a1_4 A1_5 l1_5 c1_5) (by (with_reducible repeat (first | apply zF | apply zH | apply zG)); exact Z1.out) hb)
           have n4_ := zK (zP (g := Z17) (o := .cells #[.int .i64 0, .int .i64 0, .int .i64 0, .int .i64 0, .int .i64 0, .slice none 0 0] 24 (0, 0)) (by (with_reducible repeat (first | apply zF | apply zH | apply zG)); exact Z2.out) hb)
           have n5_ := zK (yL (by repeat (first | (with_reducible first | exact HB.out | apply zJ | apply zD | apply zE | refine zI ?_ Z3.out | refine zI ?_ Z4.out | refine zI ?_ Z5.out) | exact HB.out)) hb)
           clear HO372 Z0 Z1 Z2 HB
           have HO372 := n0_; have HO375 := n1_; have Z0 := n2_; have Z1 := n3_; have Z2 := n4_; have HB := n5_
           clear n0_ n1_ n2_ n3_ n4_ n5_ hb ho22
           refine hK.out _ _ ⟨(zO Z0.out 0).trans rfl, (zO Z0.out 1).trans rfl, (zO Z1.out 0).trans rfl, (zO Z1.out 1).trans rfl, (zO Z1.out 2).trans rfl, (zO Z1.out 3).trans rfl, (zO Z1.out 4).trans rfl, (zO Z1.out 5).trans rfl⟩ (fun hHeld => ?_)
           clear hK K
           refine norm_ (a' := ?_) ?_ ?_
           rotate_left
           ·show Act.put _ (some 20) _ = _
            simp only [Act.put, zA, zB, zC, i64_w, i32_w]
            rfl
           exact norm_ (by simp only [putAll, Act.put, zA, zB, zC]; try rfl) (hJ0_3_4_9 (v368, v371, v374, Z17) _ ⟨hHeld, (by (with_reducible repeat (first | apply zL | apply zM | apply zN)); exact HO372.out), (by (with_reducible repeat (first | apply zL | apply zM | apply zN)); exact HO375.out), (by (with_reducible repeat (first | apply zF | apply zH | apply zG)); exact Z0.out), (by (with_reducible repeat (first | apply zF | apply zH | apply zG)); exact Z1.out), (by (with_reducible repeat (first | apply zF | apply zH | apply zG)); exact Z2.out), Z8.out, Z5.out, Z10.out, Z13.out, Z12.out, Z14.out, (by repeat (first | (with_reducible first | exact HB.out | apply zJ | apply zD | apply zE | refine zI ?_ Z3.out | refine zI ?_ Z4.out | refine zI ?_ Z5.out) | exact HB.out))⟩)
         ·skip
          rintro ⟨v368, v371, v374⟩ w21 ⟨hS_, h0_, h1_, h2_, h3_, h4_⟩
          have n0_ : Aside0 (Kd.R (Kd.int .i64) 2 w21 w.heap.size (fun _ => True) v371 y370) := ⟨h0_⟩
          have n1_ : Aside0 (Kd.R Kd.bool 4 w21 w.heap.size (fun _ => True) v374 y373) := ⟨h1_⟩
          have n2_ : Aside0 (w21.heap[Z15]? = some (.cells #[.slice A0_0 l0_0.length c0_0, .slice A0_1 l0_1.length c0_1] 39 (0, 0))) := ⟨h2_⟩
          have n3_ : Aside0 (w21.heap[Z16]? = some (.cells #[.int .i64 a1_0, .int .i64 a1_1, .int .i64 a1_2, .int .i64 a1_3, .int .i64 a1_4, .slice A1_5 l1_5.length c1_5] 24 (0, 0))) := ⟨h3_⟩
          have n4_ : Aside0 (Below w.heap.size w w21) := ⟨h4_⟩
          clear Z0 Z1 HB h0_ h1_ h2_ h3_ h4_
          have HO372 := n0_; have HO375 := n1_; have Z0 := n2_; have Z1 := n3_; have HB := n4_
          clear n0_ n1_ n2_ n3_ n4_
          have hHeld : w21.cell? ⟨Z15, 0, none⟩ = some (.slice A0_0 l0_0.length c0_0) /\ w21.cell? ⟨Z15, 1, none⟩ = some (.slice A0_1 l0_1.length c0_1) /\ w21.cell? ⟨Z16, 0, none⟩ = some (.int .i64 a1_0) /\ w21.cell? ⟨Z16, 1, none⟩ = some (.int .i64 a1_1) /\ w21.cell? ⟨Z16, 2, none⟩ = some (.int .i64 a1_2) /\ w21.cell? ⟨Z16, 3, none⟩ = some (.int .i64 a1_3) /\ w21.cell? ⟨Z16, 4, none⟩ = some (.int .i64 a1_4) /\ w21.cell? ⟨Z16, 5, none⟩ = some (.slice A1_5 l1_5.length c1_5) := hS_
          refine norm_ (a' := ?_) ?_ ?_
          rotate_left
          ·simp only [putAll, Act.put, zA, zB, zC]
           rfl
          refine two_ (i := 7) (j := 9) (Ni := some 23) (Nj := some 7) #[true, true, true, true, true, true, true, true, true, false, false, false, false] #[true, true, true, true, true, true, true, false, true, true, false, false, false] rfl rfl rfl rfl (two_of HT_.out (by kernel_rfl)) (by decide) (by decide) (fun K hK => ?_) (fun K hK => ?_)
          ·skip
           refine Kd.R_append_rows_step Kd.bool (w0 := w) w.heap.size (by rfl) (.tmp 20) (.tmp 22) 37 4 (.bool false) 1 rfl Try.underlying37 info4 rfl (by decide) (by omega) v374 y373 l0_1 _ _ _ (fun _ => True) (fun _ => False) rfl rfl ?aO ?aR (fun _ _ h => h) (fun _ h => h.elim) ?aF ?aB ?aS ?aL ?_
           (case aR => repeat (first | exact (yc HR0_1.out HB.out) | (with_reducible refine yS ?_ _) | (with_reducible refine yT ?_ _) | (with_reducible refine yU ?_)))
           (case aB => exact (by repeat (first | (with_reducible first | exact HB.out | apply zJ | apply zD | apply zE | refine zI ?_ Z3.out | refine zI ?_ Z4.out) | exact HB.out)))
           (case aF => exact (fun _ _ => trivial))
           (case aO => exact (by (with_reducible repeat (first | apply zL | apply zM | apply zN)); exact HO375.out))
           (case aS => exact (yK (by repeat (first | (with_reducible first | exact HB.out | apply zJ | apply zD | apply zE | refine zI ?_ Z3.out | refine zI ?_ Z4.out) | exact HB.out))))
           (case aL => have := LMc6.out; omega)
           intro v377 w22 ho hb hg hat
           rw [← Ny376.out] at ho
           have n0_ := zK (blk_grown (g := Z15) (o := o1 A0_0 l0_0 c0_0 A0_1 l0_1 c0_1) (by (with_reducible repeat (first | apply zF | apply zH | apply zG)); exact Z0.out) hg (Kd.R_ne HO375.out Z0.out (by decide)))
           have n1_ := zK (blk_grown (g := Z16) (o := o2 a1_0 a1_1 a1_2 a1_3 a1_4 A1_5 l1_5 c1_5) (by (with_reducible repeat (first | apply zF | apply zH | apply zG)); exact Z1.out) hg (Kd.R_ne HO375.out Z1.out (by decide)))
           have n2_ := zK (Kd.R_over' (by (with_reducible repeat (first | apply zL | apply zM | apply zN)); exact HO372.out) (Kd.R_typed (by (with_reducible repeat (first | apply zL | apply zM | apply zN)); exact HO375.out)) (by decide) hg)
           have n3_ := zK (hb)
           have n4_ := zK (ho)
           clear Z0 Z1 HO372 HB HO375
           have Z0 := n0_; have Z1 := n1_; have HO372 := n2_; have HB := n3_; have HO378 := n4_
           clear n0_ n1_ n2_ n3_ n4_ ho hb hg hat
           refine hK.out _ _ ⟨(zO Z0.out 0).trans rfl, (zO Z0.out 1).trans rfl, (zO Z1.out 0).trans rfl, (zO Z1.out 1).trans rfl, (zO Z1.out 2).trans rfl, (zO Z1.out 3).trans rfl, (zO Z1.out 4).trans rfl, (zO Z1.out 5).trans rfl⟩ (fun hHeld => ?_)
           clear hK K
           refine norm_ (a' := ?_) ?_ ?_
           rotate_left
           ·show Act.put _ (some 23) _ = _
            simp only [Act.put, zA, zB, zC, i64_w, i32_w]
            rfl
           exact norm_ (by simp only [putAll, Act.put, zA, zB, zC]; try rfl) (hJ0_3_4_7 (v368, v371, v374, v377) _ ⟨hHeld, (by (with_reducible repeat (first | apply zL | apply zM | apply zN)); exact HO372.out), (by (with_reducible repeat (first | apply zL | apply zM | apply zN)); exact HO378.out), (by (with_reducible repeat (first | apply zF | apply zH | apply zG)); exact Z0.out), (by (with_reducible repeat (first | apply zF | apply zH | apply zG)); exact Z1.out), (by repeat (first | (with_reducible first | exact HB.out | apply zJ | apply zD | apply zE | refine zI ?_ Z3.out | refine zI ?_ Z4.out) | exact HB.out))⟩)
          ·skip
           refine box_step ?hg (N := 7) ?hd (cs := #[.int .i64 0, .int .i64 0, .int .i64 0, .int .i64 0, .int .i64 0, .slice none 0 0]) (t := 24) ?hr ?_; (case hd => rfl); (case hg => rfl); (case hr => first | (go_simp; done) | (go_simp; rfl))
           intro Z17 hg w22 hbox hb
           have n0_ := zK (yb (by (with_reducible repeat (first | apply zL | apply zM | apply zN)); exact HO372.out) hb)
           have n1_ := zK (yb (by (with_reducible repeat (first | apply zL | apply zM | apply zN)); exact HO375.out) hb)
           have n2_ := zK (zP (g := Z15) (o := o1 A0_0 l0_0 c0_0 A0_1 l0_1 c0_1) (by (with_reducible repeat (first | apply zF | apply zH | apply zG)); exact Z0.out) hb)
           have n3_ := zK (zP (g := Z16) (o := o2 a1_0 a1_1 a1_2 a1_3 a1_4 A1_5 l1_5 c1_5) (by (with_reducible repeat (first | apply zF | apply zH | apply zG)); exact Z1.out) hb)
           have n4_ := zK (yL (by repeat (first | (with_reducible first | exact HB.out | apply zJ | apply zD | apply zE | refine zI ?_ Z3.out | refine zI ?_ Z4.out) | exact HB.out)) hb)
           have n5_ := zK (hbox)
           have n6_ := zK ((by rw [hg]; exact (yK (by repeat (first | (with_reducible first | exact HB.out | apply zJ | apply zD | apply zE | refine zI ?_ Z3.out | refine zI ?_ Z4.out) | exact HB.out))) : w.heap.size <= Z17))
           have n7_ := zK ((by rw [hg]; exact (yK (by repeat (first | (with_reducible first | exact HB.out | apply zJ | apply zD | apply zE | refine zI ?_ Z3.out | refine zI ?_ Z4.out) | exact HB.out))) : w.heap.size <= Z17))
           have n8_ := zK ((by rw [hg]; exact ym (yo (g := Z15) (o := o1 A0_0 l0_0 c0_0 A0_1 l0_1 c0_1) (by (with_reducible repeat (first | apply zF | apply zH | apply zG)); exact Z0.out)) : Z15 ≠ Z17))
           have n9_ := zK ((by rw [hg]; exact yn (yo (g := Z15) (o := o1 A0_0 l0_0 c0_0 A0_1 l0_1 c0_1) (by (with_reducible repeat (first | apply zF | apply zH | apply zG)); exact Z0.out)) : Z17 ≠ Z15))
           have n10_ := zK ((by rw [hg]; exact ym (yo (g := Z16) (o := o2 a1_0 a1_1 a1_2 a1_3 a1_4 A1_5 l1_5 c1_5) (by (with_reducible repeat (first | apply zF | apply zH | apply zG)); exact Z1.out)) : Z16 ≠ Z17))
           have n11_ := zK ((by rw [hg]; exact yn (yo (g := Z16) (o := o2 a1_0 a1_1 a1_2 a1_3 a1_4 A1_5 l1_5 c1_5) (by (with_reducible repeat (first | apply zF | apply zH | apply zG)); exact Z1.out)) : Z17 ≠ Z16))
           clear HO372 HO375 Z0 Z1 HB
           have HO372 := n0_; have HO375 := n1_; have Z0 := n2_; have Z1 := n3_; have HB := n4_; have Z2 := n5_; have Z8 := n6_; have Z5 := n7_; have Z10 := n8_; have Z13 := n9_; have Z12 := n10_; have Z14 := n11_
           clear n0_ n1_ n2_ n3_ n4_ n5_ n6_ n7_ n8_ n9_ n10_ n11_ hb hbox hg
           refine hK.out _ _ ⟨(zO Z0.out 0).trans rfl, (zO Z0.out 1).trans rfl, (zO Z1.out 0).trans rfl, (zO Z1.out 1).trans rfl, (zO Z1.out 2).trans rfl, (zO Z1.out 3).trans rfl, (zO Z1.out 4).trans rfl, (zO Z1.out 5).trans rfl⟩ (fun hHeld => ?_)
           clear hK K
           refine norm_ (a' := ?_) ?_ ?_
           rotate_left
           ·show Act.put _ (some 7) _ = _
            simp only [Act.put, zA, zB, zC, i64_w, i32_w]
            rfl
           exact norm_ (by simp only [putAll, Act.put, zA, zB, zC]; try rfl) (hJ0_3_4_9 (v368, v371, v374, Z17) _ ⟨hHeld, (by (with_reducible repeat (first | apply zL | apply zM | apply zN)); exact HO372.out), (by (with_reducible repeat (first | apply zL | apply zM | apply zN)); exact HO375.out), (by (with_reducible repeat (first | apply zF | apply zH | apply zG)); exact Z0.out), (by (with_reducible repeat (first | apply zF | apply zH | apply zG)); exact Z1.out), (by (with_reducible repeat (first | apply zF | apply zH | apply zG)); exact Z2.out), Z8.out, Z5.out, Z10.out, Z13.out, Z12.out, Z14.out, (by repeat (first | (with_reducible first | exact HB.out | apply zJ | apply zD | apply zE | refine zI ?_ Z3.out | refine zI ?_ Z4.out | refine zI ?_ Z5.out) | exact HB.out))⟩)
        ·skip
         rintro ⟨v368, v371, v374, Z17⟩ w22 ⟨hS_, h0_, h1_, h2_, h3_, h4_, h5_, h6_, h7_, h8_, h9_, h10_, h11_⟩
         have n0_ : Aside0 (Kd.R (Kd.int .i64) 2 w22 w.heap.size (fun _ => True) v371 y370) := ⟨h0_⟩
         have n1_ : Aside0 (Kd.R Kd.bool 4 w22 w.heap.size (fun _ => True) v374 y373) := ⟨h1_⟩
         have n2_ : Aside0 (w22.heap[Z15]? = some (.cells #[.slice A0_0 l0_0.length c0_0, .slice A0_1 l0_1.length c0_1] 39 (0, 0))) := ⟨h2_⟩
         have n3_ : Aside0 (w22.heap[Z16]? = some (.cells #[.int .i64 a1_0, .int .i64 a1_1, .int .i64 a1_2, .int .i64 a1_3, .int .i64 a1_4, .slice A1_5 l1_5.length c1_5] 24 (0, 0))) := ⟨h3_⟩
         have n4_ : Aside0 (w22.heap[Z17]? = some (.cells #[.int .i64 0, .int .i64 0, .int .i64 0, .int .i64 0, .int .i64 0, .slice none 0 0] 24 (0, 0))) := ⟨h4_⟩
         have n5_ : Aside0 (w.heap.size <= Z17) := ⟨h5_⟩
         have n6_ : Aside0 (w.heap.size <= Z17) := ⟨h6_⟩
         have n7_ : Aside0 (Z15 ≠ Z17) := ⟨h7_⟩
         have n8_ : Aside0 (Z17 ≠ Z15) := ⟨h8_⟩
         have n9_ : Aside0 (Z16 ≠ Z17) := ⟨h9_⟩
         have n10_ : Aside0 (Z17 ≠ Z16) := ⟨h10_⟩
         have n11_ : Aside0 (Below w.heap.size w w22) := ⟨h11_⟩
         clear Z0 Z1 HB h0_ h1_ h2_ h3_ h4_ h5_ h6_ h7_ h8_ h9_ h10_ h11_
         have HO372 := n0_; have HO375 := n1_; have Z0 := n2_; have Z1 := n3_; have Z2 := n4_; have Z8 := n5_; have Z5 := n6_; have Z10 := n7_; have Z13 := n8_; have Z12 := n9_; have Z14 := n10_; have HB := n11_
         clear n0_ n1_ n2_ n3_ n4_ n5_ n6_ n7_ n8_ n9_ n10_ n11_
         have hHeld : w22.cell? ⟨Z15, 0, none⟩ = some (.slice A0_0 l0_0.length c0_0) /\ w22.cell? ⟨Z15, 1, none⟩ = some (.slice A0_1 l0_1.length c0_1) /\ w22.cell? ⟨Z16, 0, none⟩ = some (.int .i64 a1_0) /\ w22.cell? ⟨Z16, 1, none⟩ = some (.int .i64 a1_1) /\ w22.cell? ⟨Z16, 2, none⟩ = some (.int .i64 a1_2) /\ w22.cell? ⟨Z16, 3, none⟩ = some (.int .i64 a1_3) /\ w22.cell? ⟨Z16, 4, none⟩ = some (.int .i64 a1_4) /\ w22.cell? ⟨Z16, 5, none⟩ = some (.slice A1_5 l1_5.length c1_5) := hS_
         refine norm_ (a' := ?_) ?_ ?_
         rotate_left
         ·simp only [putAll, Act.put, zA, zB, zC]
          rfl
         refine one_ (i := 7) (N := some 23) #[true, true, true, true, true, true, true, true, true, true, false, false, false] rfl rfl (one_of HT_.out (by kernel_rfl)) (by decide) (fun K hK => ?_)
         refine Kd.R_append_rows_step Kd.bool (w0 := w) w.heap.size (by rfl) (.tmp 20) (.tmp 22) 37 4 (.bool false) 1 rfl Try.underlying37 info4 rfl (by decide) (by omega) v374 y373 l0_1 _ _ _ (fun _ => True) (fun _ => False) rfl rfl ?aO ?aR (fun _ _ h => h) (fun _ h => h.elim) ?aF ?aB ?aS ?aL ?_
         (case aR => repeat (first | exact (yc HR0_1.out HB.out) | (with_reducible refine yS ?_ _) | (with_reducible refine yT ?_ _) | (with_reducible refine yU ?_)))
         (case aB => exact (by repeat (first | (with_reducible first | exact HB.out | apply zJ | apply zD | apply zE | refine zI ?_ Z3.out | refine zI ?_ Z4.out | refine zI ?_ Z5.out) | exact HB.out)))
         (case aF => exact (fun _ _ => trivial))
         (case aO => exact (by (with_reducible repeat (first | apply zL | apply zM | apply zN)); exact HO375.out))
         (case aS => exact (yK (by repeat (first | (with_reducible first | exact HB.out | apply zJ | apply zD | apply zE | refine zI ?_ Z3.out | refine zI ?_ Z4.out | refine zI ?_ Z5.out) | exact HB.out))))
         (case aL => have := LMc6.out; omega)
         intro v377 w23 ho hb hg hat
         rw [← Ny376.out] at ho
         have n0_ := zK (blk_grown (g := Z15) (o := o1 A0_0 l0_0 c0_0 A0_1 l0_1 c0_1) (by (with_reducible repeat (first | apply zF | apply zH | apply zG)); exact Z0.out) hg (Kd.R_ne HO375.out Z0.out (by decide)))
         have n1_ := zK (blk_grown (g := Z16) (o := o2 a1_0 a1_1 a1_2 a1_3 a1_4 A1_5 l1_5 c1_5) (by (with_reducible repeat (first | apply zF | apply zH | apply zG)); exact Z1.out) hg (Kd.R_ne HO375.out Z1.out (by decide)))
         have n2_ := zK (Kd.R_over' (by (with_reducible repeat (first | apply zL | apply zM | apply zN)); exact HO372.out) (Kd.R_typed (by (with_reducible repeat (first | apply zL | apply zM | apply zN)); exact HO375.out)) (by decide) hg)
         have n3_ := zK (blk_grown (g := Z17) (o := .cells #[.int .i64 0, .int .i64 0, .int .i64 0, .int .i64 0, .int .i64 0, .slice none 0 0] 24 (0, 0)) (by (with_reducible repeat (first | apply zF | apply zH | apply zG)); exact Z2.out) hg (Kd.R_ne HO375.out Z2.out (by decide)))
         have n4_ := zK (hb)
         have n5_ := zK (ho)
         clear Z0 Z1 HO372 Z2 HB HO375
         have Z0 := n0_; have Z1 := n1_; have HO372 := n2_; have Z2 := n3_; have HB := n4_; have HO378 := n5_
         clear n0_ n1_ n2_ n3_ n4_ n5_ ho hb hg hat
         refine hK.out _ _ ⟨(zO Z0.out 0).trans rfl, (zO Z0.out 1).trans rfl, (zO Z1.out 0).trans rfl, (zO Z1.out 1).trans rfl, (zO Z1.out 2).trans rfl, (zO Z1.out 3).trans rfl, (zO Z1.out 4).trans rfl, (zO Z1.out 5).trans rfl⟩ (fun hHeld => ?_)
         clear hK K
         refine norm_ (a' := ?_) ?_ ?_
         rotate_left
         ·show Act.put _ (some 23) _ = _
          simp only [Act.put, zA, zB, zC, i64_w, i32_w]
          rfl
         exact norm_ (by simp only [putAll, Act.put, zA, zB, zC]; try rfl) (hJ0_3_4_7_9 (v368, v371, v374, v377, Z17) _ ⟨hHeld, (by (with_reducible repeat (first | apply zL | apply zM | apply zN)); exact HO372.out), (by (with_reducible repeat (first | apply zL | apply zM | apply zN)); exact HO378.out), (by (with_reducible repeat (first | apply zF | apply zH | apply zG)); exact Z0.out), (by (with_reducible repeat (first | apply zF | apply zH | apply zG)); exact Z1.out), (by (with_reducible repeat (first | apply zF | apply zH | apply zG)); exact Z2.out), Z8.out, Z5.out, Z10.out, Z13.out, Z12.out, Z14.out, (by repeat (first | (with_reducible first | exact HB.out | apply zJ | apply zD | apply zE | refine zI ?_ Z3.out | refine zI ?_ Z4.out | refine zI ?_ Z5.out) | exact HB.out))⟩)
       ·skip
        rintro ⟨v368, v371, v374, v377⟩ w22 ⟨hS_, h0_, h1_, h2_, h3_, h4_⟩
        have n0_ : Aside0 (Kd.R (Kd.int .i64) 2 w22 w.heap.size (fun _ => True) v371 y370) := ⟨h0_⟩
        have n1_ : Aside0 (Kd.R Kd.bool 4 w22 w.heap.size (fun _ => True) v377 y376) := ⟨h1_⟩
        have n2_ : Aside0 (w22.heap[Z15]? = some (.cells #[.slice A0_0 l0_0.length c0_0, .slice A0_1 l0_1.length c0_1] 39 (0, 0))) := ⟨h2_⟩
        have n3_ : Aside0 (w22.heap[Z16]? = some (.cells #[.int .i64 a1_0, .int .i64 a1_1, .int .i64 a1_2, .int .i64 a1_3, .int .i64 a1_4, .slice A1_5 l1_5.length c1_5] 24 (0, 0))) := ⟨h3_⟩
        have n4_ : Aside0 (Below w.heap.size w w22) := ⟨h4_⟩
        clear Z0 Z1 HB h0_ h1_ h2_ h3_ h4_
        have HO372 := n0_; have HO378 := n1_; have Z0 := n2_; have Z1 := n3_; have HB := n4_
        clear n0_ n1_ n2_ n3_ n4_
        have hHeld : w22.cell? ⟨Z15, 0, none⟩ = some (.slice A0_0 l0_0.length c0_0) /\ w22.cell? ⟨Z15, 1, none⟩ = some (.slice A0_1 l0_1.length c0_1) /\ w22.cell? ⟨Z16, 0, none⟩ = some (.int .i64 a1_0) /\ w22.cell? ⟨Z16, 1, none⟩ = some (.int .i64 a1_1) /\ w22.cell? ⟨Z16, 2, none⟩ = some (.int .i64 a1_2) /\ w22.cell? ⟨Z16, 3, none⟩ = some (.int .i64 a1_3) /\ w22.cell? ⟨Z16, 4, none⟩ = some (.int .i64 a1_4) /\ w22.cell? ⟨Z16, 5, none⟩ = some (.slice A1_5 l1_5.length c1_5) := hS_
        refine norm_ (a' := ?_) ?_ ?_
        rotate_left
        ·simp only [putAll, Act.put, zA, zB, zC]
         rfl
        refine one_ (i := 9) (N := some 7) #[true, true, true, true, true, true, true, true, true, true, false, false, false] rfl rfl (one_of HT_.out (by kernel_rfl)) (by decide) (fun K hK => ?_)
        refine box_step ?hg (N := 7) ?hd (cs := #[.int .i64 0, .int .i64 0, .int .i64 0, .int .i64 0, .int .i64 0, .slice none 0 0]) (t := 24) ?hr ?_; (case hd => rfl); (case hg => rfl); (case hr => first | (go_simp; done) | (go_simp; rfl))
        intro Z17 hg w23 hbox hb
        have n0_ := zK (yb (by (with_reducible repeat (first | apply zL | apply zM | apply zN)); exact HO372.out) hb)
        have n1_ := zK (yb (by (with_reducible repeat (first | apply zL | apply zM | apply zN)); exact HO378.out) hb)
        have n2_ := zK (zP (g := Z15) (o := o1 A0_0 l0_0 c0_0 A0_1 l0_1 c0_1) (by (with_reducible repeat (first | apply zF | apply zH | apply zG)); exact Z0.out) hb)
        have n3_ := zK (zP (g := Z16) (o := o2 a1_0 a1_1 a1_2 a1_3 a1_4 A1_5 l1_5 c1_5) (by (with_reducible repeat (first | apply zF | apply zH | apply zG)); exact Z1.out) hb)
        have n4_ := zK (yL (by repeat (first | (with_reducible first | exact HB.out | apply zJ | apply zD | apply zE | refine zI ?_ Z3.out | refine zI ?_ Z4.out) | exact HB.out)) hb)
        have n5_ := zK (hbox)
        have n6_ := zK ((by rw [hg]; exact (yK (by repeat (first | (with_reducible first | exact HB.out | apply zJ | apply zD | apply zE | refine zI ?_ Z3.out | refine zI ?_ Z4.out) | exact HB.out))) : w.heap.size <= Z17))
        have n7_ := zK ((by rw [hg]; exact (yK (by repeat (first | (with_reducible first | exact HB.out | apply zJ | apply zD | apply zE | refine zI ?_ Z3.out | refine zI ?_ Z4.out) | exact HB.out))) : w.heap.size <= Z17))
        have n8_ := zK ((by rw [hg]; exact ym (yo (g := Z15) (o := o1 A0_0 l0_0 c0_0 A0_1 l0_1 c0_1) (by (with_reducible repeat (first | apply zF | apply zH | apply zG)); exact Z0.out)) : Z15 ≠ Z17))
        have n9_ := zK ((by rw [hg]; exact yn (yo (g := Z15) (o := o1 A0_0 l0_0 c0_0 A0_1 l0_1 c0_1) (by (with_reducible repeat (first | apply zF | apply zH | apply zG)); exact Z0.out)) : Z17 ≠ Z15))
        have n10_ := zK ((by rw [hg]; exact ym (yo (g := Z16) (o := o2 a1_0 a1_1 a1_2 a1_3 a1_4 A1_5 l1_5 c1_5) (by (with_reducible repeat (first | apply zF | apply zH | apply zG)); exact Z1.out)) : Z16 ≠ Z17))
        have n11_ := zK ((by rw [hg]; exact yn (yo (g := Z16) (o := o2 a1_0 a1_1 a1_2 a1_3 a1_4 A1_5 l1_5 c1_5) (by (with_reducible repeat (first | apply zF | apply zH | apply zG)); exact Z1.out)) : Z17 ≠ Z16))
        clear HO372 HO378 Z0 Z1 HB
        have HO372 := n0_; have HO378 := n1_; have Z0 := n2_; have Z1 := n3_; have HB := n4_; have Z2 := n5_; have Z8 := n6_; have Z5 := n7_; have Z10 := n8_; have Z13 := n9_; have Z12 := n10_; have Z14 := n11_
        clear n0_ n1_ n2_ n3_ n4_ n5_ n6_ n7_ n8_ n9_ n10_ n11_ hb hbox hg
        refine hK.out _ _ ⟨(zO Z0.out 0).trans rfl, (zO Z0.out 1).trans rfl, (zO Z1.out 0).trans rfl, (zO Z1.out 1).trans rfl, (zO Z1.out 2).trans rfl, (zO Z1.out 3).trans rfl, (zO Z1.out 4).trans rfl, (zO Z1.out 5).trans rfl⟩ (fun hHeld => ?_)
        clear hK K
        refine norm_ (a' := ?_) ?_ ?_
        rotate_left
        ·show Act.put _ (some 7) _ = _
         simp only [Act.put, zA, zB, zC, i64_w, i32_w]
         rfl
        exact norm_ (by simp only [putAll, Act.put, zA, zB, zC]; try rfl) (hJ0_3_4_7_9 (v368, v371, v374, v377, Z17) _ ⟨hHeld, (by (with_reducible repeat (first | apply zL | apply zM | apply zN)); exact HO372.out), (by (with_reducible repeat (first | apply zL | apply zM | apply zN)); exact HO378.out), (by (with_reducible repeat (first | apply zF | apply zH | apply zG)); exact Z0.out), (by (with_reducible repeat (first | apply zF | apply zH | apply zG)); exact Z1.out), (by (with_reducible repeat (first | apply zF | apply zH | apply zG)); exact Z2.out), Z8.out, Z5.out, Z10.out, Z13.out, Z12.out, Z14.out, (by repeat (first | (with_reducible first | exact HB.out | apply zJ | apply zD | apply zE | refine zI ?_ Z3.out | refine zI ?_ Z4.out | refine zI ?_ Z5.out) | exact HB.out))⟩)
      rintro ⟨v368, v371, v374, v377, Z17⟩ w23 ⟨hS_, h0_, h1_, h2_, h3_, h4_, h5_, h6_, h7_, h8_, h9_, h10_, h11_⟩
      have n0_ : Aside0 (Kd.R (Kd.int .i64) 2 w23 w.heap.size (fun _ => True) v371 y370) := ⟨h0_⟩
      have n1_ : Aside0 (Kd.R Kd.bool 4 w23 w.heap.size (fun _ => True) v377 y376) := ⟨h1_⟩
      have n2_ : Aside0 (w23.heap[Z15]? = some (.cells #[.slice A0_0 l0_0.length c0_0, .slice A0_1 l0_1.length c0_1] 39 (0, 0))) := ⟨h2_⟩
      have n3_ : Aside0 (w23.heap[Z16]? = some (.cells #[.int .i64 a1_0, .int .i64 a1_1, .int .i64 a1_2, .int .i64 a1_3, .int .i64 a1_4, .slice A1_5 l1_5.length c1_5] 24 (0, 0))) := ⟨h3_⟩
      have n4_ : Aside0 (w23.heap[Z17]? = some (.cells #[.int .i64 0, .int .i64 0, .int .i64 0, .int .i64 0, .int .i64 0, .slice none 0 0] 24 (0, 0))) := ⟨h4_⟩
      have n5_ : Aside0 (w.heap.size <= Z17) := ⟨h5_⟩
      have n6_ : Aside0 (w.heap.size <= Z17) := ⟨h6_⟩
      have n7_ : Aside0 (Z15 ≠ Z17) := ⟨h7_⟩
      have n8_ : Aside0 (Z17 ≠ Z15) := ⟨h8_⟩
      have n9_ : Aside0 (Z16 ≠ Z17) := ⟨h9_⟩
      have n10_ : Aside0 (Z17 ≠ Z16) := ⟨h10_⟩
      have n11_ : Aside0 (Below w.heap.size w w23) := ⟨h11_⟩
      clear Z0 Z1 HB h0_ h1_ h2_ h3_ h4_ h5_ h6_ h7_ h8_ h9_ h10_ h11_
      have HO372 := n0_; have HO378 := n1_; have Z0 := n2_; have Z1 := n3_; have Z2 := n4_; have Z8 := n5_; have Z5 := n6_; have Z10 := n7_; have Z13 := n8_; have Z12 := n9_; have Z14 := n10_; have HB := n11_
      clear n0_ n1_ n2_ n3_ n4_ n5_ n6_ n7_ n8_ n9_ n10_ n11_
      have hHeld : w23.cell? ⟨Z15, 0, none⟩ = some (.slice A0_0 l0_0.length c0_0) /\ w23.cell? ⟨Z15, 1, none⟩ = some (.slice A0_1 l0_1.length c0_1) /\ w23.cell? ⟨Z16, 0, none⟩ = some (.int .i64 a1_0) /\ w23.cell? ⟨Z16, 1, none⟩ = some (.int .i64 a1_1) /\ w23.cell? ⟨Z16, 2, none⟩ = some (.int .i64 a1_2) /\ w23.cell? ⟨Z16, 3, none⟩ = some (.int .i64 a1_3) /\ w23.cell? ⟨Z16, 4, none⟩ = some (.int .i64 a1_4) /\ w23.cell? ⟨Z16, 5, none⟩ = some (.slice A1_5 l1_5.length c1_5) := hS_
      refine norm_ (a' := ?_) ?_ ?_
      rotate_left
      ·simp only [putAll, Act.put, zA, zB, zC]
       rfl
      refine pure_ (i := 10) (N := some 5) (v := ?_) (a' := ?_) #[true, true, true, true, true, true, true, true, true, true, true, false, false] rfl rfl (any_of HT_.out (by kernel_rfl)) (fun _ _ _ h => h) (Or.inl ⟨by rfl, ?_⟩) ?_ ?_
      rotate_left
      ·intro w'
       go_simp
       with_reducible rfl
      rotate_left
      ·simp only [Act.put, zA, zB, zC, i64_w, i32_w]
       rfl
      refine pure_ (i := 11) (N := some 6) (v := ?_) (a' := ?_) #[true, true, true, true, true, true, true, true, true, true, true, true, false] rfl rfl (any_of HT_.out (by kernel_rfl)) (fun _ _ _ h => h) (Or.inl ⟨by rfl, ?_⟩) ?_ ?_
      rotate_left
      ·intro w'
       go_simp
       with_reducible rfl
      rotate_left
      ·simp only [Act.put, zA, zB, zC, i64_w, i32_w]
       rfl
      refine one_ (i := 12) (N := none) #[true, true, true, true, true, true, true, true, true, true, true, true, true] rfl rfl (one_of HT_.out (by kernel_rfl)) (by decide) (fun K hK => ?_)
      have hs24 : w23.cell? ⟨Z17, 0, none⟩ = some (.int .i64 0) := (zO Z2.out 0).trans rfl
      have hfs24 := yE Z2.out 0
      have hns24_0 := Z10.out
      have hns24_1 := Z12.out
      have hms24_0 := Z13.out
      have hms24_1 := Z14.out
      have hs25 : w23.cell? ⟨Z17, 1, none⟩ = some (.int .i64 0) := (zO Z2.out 1).trans rfl
      have hfs25 := yE Z2.out 1
      have hns25_0 := Z10.out
      have hns25_1 := Z12.out
      have hms25_0 := Z13.out
      have hms25_1 := Z14.out
      have hs26 : w23.cell? ⟨Z17, 2, none⟩ = some (.int .i64 0) := (zO Z2.out 2).trans rfl
      have hfs26 := yE Z2.out 2
      have hns26_0 := Z10.out
      have hns26_1 := Z12.out
      have hms26_0 := Z13.out
      have hms26_1 := Z14.out
      have hs27 : w23.cell? ⟨Z17, 3, none⟩ = some (.int .i64 0) := (zO Z2.out 3).trans rfl
      have hfs27 := yE Z2.out 3
      have hns27_0 := Z10.out
      have hns27_1 := Z12.out
      have hms27_0 := Z13.out
      have hms27_1 := Z14.out
      have hs28 : w23.cell? ⟨Z17, 4, none⟩ = some (.int .i64 0) := (zO Z2.out 4).trans rfl
      have hfs28 := yE Z2.out 4
      have hns28_0 := Z10.out
      have hns28_1 := Z12.out
      have hms28_0 := Z13.out
      have hms28_1 := Z14.out
      have hs29 : w23.cell? ⟨Z17, 5, none⟩ = some (.slice none 0 0) := (zO Z2.out 5).trans rfl
      have hfs29 := yE Z2.out 5
      have hns29_0 := Z10.out
      have hns29_1 := Z12.out
      have hms29_0 := Z13.out
      have hms29_1 := Z14.out
      refine skip_ (w1 := ?_) (by rfl) rfl ?_ ?_
      rotate_left
      ·go_simp
       rfl
      refine hK.out _ _ ⟨((yp (p := ⟨Z17, _, none⟩) Z10.out _).trans (((yp (p := ⟨Z17, _, none⟩) Z10.out _).trans (((yp (p := ⟨Z17, _, none⟩) Z10.out _).trans (((yp (p := ⟨Z17, _, none⟩) Z10.out _).trans (((yp (p := ⟨Z17, _, none⟩) Z10.out _).trans (((yp (p := ⟨Z17, _, none⟩) Z10.out _).trans (hHeld.1)))))))))))), ((yp (p := ⟨Z17, _, none⟩) Z10.out _).trans (((yp (p := ⟨Z17, _, none⟩) Z10.out _).trans (((yp (p := ⟨Z17, _, none⟩) Z10.out _).trans (((yp (p := ⟨Z17, _, none⟩) Z10.out _).trans (((yp (p := ⟨Z17, _, none⟩) Z10.out _).trans (((yp (p := ⟨Z17, _, none⟩) Z10.out _).trans (hHeld.2.1)))))))))))), ((yp (p := ⟨Z17, _, none⟩) Z12.out _).trans (((yp (p := ⟨Z17, _, none⟩) Z12.out _).trans (((yp (p := ⟨Z17, _, none⟩) Z12.out _).trans (((yp (p := ⟨Z17, _, none⟩) Z12.out _).trans (((yp (p := ⟨Z17, _, none⟩) Z12.out _).trans (((yp (p := ⟨Z17, _, none⟩) Z12.out _).trans (hHeld.2.2.1)))))))))))), ((yp (p := ⟨Z17, _, none⟩) Z12.out _).trans (((yp (p := ⟨Z17, _, none⟩) Z12.out _).trans (((yp (p := ⟨Z17, _, none⟩) Z12.out _).trans (((yp (p := ⟨Z17, _, none⟩) Z12.out _).trans (((yp (p := ⟨Z17, _, none⟩) Z12.out _).trans (((yp (p := ⟨Z17, _, none⟩) Z12.out _).trans (hHeld.2.2.2.1)))))))))))), ((yp (p := ⟨Z17, _, none⟩) Z12.out _).trans (((yp (p := ⟨Z17, _, none⟩) Z12.out _).trans (((yp (p := ⟨Z17, _, none⟩) Z12.out _).trans (((yp (p := ⟨Z17, _, none⟩) Z12.out _).trans (((yp (p := ⟨Z17, _, none⟩) Z12.out _).trans (((yp (p := ⟨Z17, _, none⟩) Z12.out _).trans (hHeld.2.2.2.2.1)))))))))))), ((yp (p := ⟨Z17, _, none⟩) Z12.out _).trans (((yp (p := ⟨Z17, _, none⟩) Z12.out _).trans (((yp (p := ⟨Z17, _, none⟩) Z12.out _).trans (((yp (p := ⟨Z17, _, none⟩) Z12.out _).trans (((yp (p := ⟨Z17, _, none⟩) Z12.out _).trans (((yp (p := ⟨Z17, _, none⟩) Z12.out _).trans (hHeld.2.2.2.2.2.1)))))))))))), ((yp (p := ⟨Z17, _, none⟩) Z12.out _).trans (((yp (p := ⟨Z17, _, none⟩) Z12.out _).trans (((yp (p := ⟨Z17, _, none⟩) Z12.out _).trans (((yp (p := ⟨Z17, _, none⟩) Z12.out _).trans (((yp (p := ⟨Z17, _, none⟩) Z12.out _).trans (((yp (p := ⟨Z17, _, none⟩) Z12.out _).trans (hHeld.2.2.2.2.2.2.1)))))))))))), ((yp (p := ⟨Z17, _, none⟩) Z12.out _).trans (((yp (p := ⟨Z17, _, none⟩) Z12.out _).trans (((yp (p := ⟨Z17, _, none⟩) Z12.out _).trans (((yp (p := ⟨Z17, _, none⟩) Z12.out _).trans (((yp (p := ⟨Z17, _, none⟩) Z12.out _).trans (((yp (p := ⟨Z17, _, none⟩) Z12.out _).trans (hHeld.2.2.2.2.2.2.2))))))))))))⟩ (fun hHeld => ?_)
      clear hK K
      refine done_ (done_of HT_.out (by kernel_rfl)) ?_
      try go_wp2_with (first | ((with_reducible refine gate_dst (N := 25) rfl ?_); refine Kd.R_lit k46 _ 46 ?hg (N := 25) ?hd (xs := ([] : List (S46))) (inner := []) (ok := fun _ => True) (okp := fun _ => True) ?hr ?hp (fun _ hk => hk) trivial (Below.refl _ _) (yN _) (by simp) ?_; (case hd => rfl); (case hg => rfl); (case hr => first | (go_simp; done) | (go_simp; rfl)); (case hp => exact (Reps.none _ _)); intro v381 w30 ho31 hb hg_ hnew_; clear hg_ hnew_; (first | rw [← Ny380.out] at ho31 | (simp only [Int.reduceToNat] at ho31; rw [← Ny380.out] at ho31)); have n0_ := zK (yb (by (with_reducible repeat (first | apply zL | apply zM | apply zN)); exact (yd (Kd.R_far (p := ⟨Z17, 5, none⟩) (Kd.R_far (p := ⟨Z17, 4, none⟩) (Kd.R_far (p := ⟨Z17, 3, none⟩) (Kd.R_far (p := ⟨Z17, 2, none⟩) (Kd.R_far (p := ⟨Z17, 1, none⟩) (Kd.R_far (p := ⟨Z17, 0, none⟩) (Kd.R_types HO372.out Z2.out (by decide)) (fun _ hk => hk.2) (.int .i64 a1_0)) (fun _ hk => hk.2) (.int .i64 a1_1)) (fun _ hk => hk.2) (.int .i64 a1_2)) (fun _ hk => hk.2) (.int .i64 a1_3)) (fun _ hk => hk.2) (.int .i64 a1_4)) (fun _ hk => hk.2) (.slice A1_5 l1_5.length c1_5)) (fun _ h_ => h_.1))) hb); have n1_ := zK (yb (by (with_reducible repeat (first | apply zL | apply zM | apply zN)); exact (yd (Kd.R_far (p := ⟨Z17, 5, none⟩) (Kd.R_far (p := ⟨Z17, 4, none⟩) (Kd.R_far (p := ⟨Z17, 3, none⟩) (Kd.R_far (p := ⟨Z17, 2, none⟩) (Kd.R_far (p := ⟨Z17, 1, none⟩) (Kd.R_far (p := ⟨Z17, 0, none⟩) (Kd.R_types HO378.out Z2.out (by decide)) (fun _ hk => hk.2) (.int .i64 a1_0)) (fun _ hk => hk.2) (.int .i64 a1_1)) (fun _ hk => hk.2) (.int .i64 a1_2)) (fun _ hk => hk.2) (.int .i64 a1_3)) (fun _ hk => hk.2) (.int .i64 a1_4)) (fun _ hk => hk.2) (.slice A1_5 l1_5.length c1_5)) (fun _ h_ => h_.1))) hb); have n2_ := zK (Kd.R_lower ho31 (yK (by repeat (first | (with_reducible first | exact HB.out | apply zJ | apply zD | apply zE | refine zI ?_ Z3.out | refine zI ?_ Z4.out | refine zI ?_ Z5.out) | exact HB.out)))); have n3_ := zK (zP (g := Z15) (o := o1 A0_0 l0_0 c0_0 A0_1 l0_1 c0_1) (by (with_reducible repeat (first | apply zF | apply zH | apply zG)); refine blk_far ?_ Z10.out _; (with_reducible repeat (first | apply zF | apply zH | apply zG)); refine blk_far ?_ Z10.out _; (with_reducible repeat (first | apply zF | apply zH | apply zG)); refine blk_far ?_ Z10.out _; (with_reducible repeat (first | apply zF | apply zH | apply zG)); refine blk_far ?_ Z10.out _; (with_reducible repeat (first | apply zF | apply zH | apply zG)); refine blk_far ?_ Z10.out _; (with_reducible repeat (first | apply zF | apply zH | apply zG)); refine blk_far ?_ Z10.out _; (with_reducible repeat (first | apply zF | apply zH | apply zG)); exact Z0.out) hb); have n4_ := zK (zP (g := Z16) (o := o2 a1_0 a1_1 a1_2 a1_3 a1_4 A1_5 l1_5 c1_5) (by (with_reducible repeat (first | apply zF | apply zH | apply zG)); refine blk_far ?_ Z12.out _; (with_reducible repeat (first | apply zF | apply zH | apply zG)); refine blk_far ?_ Z12.out _; (with_reducible repeat (first | apply zF | apply zH | apply zG)); refine blk_far ?_ Z12.out _; (with_reducible repeat (first | apply zF | apply zH | apply zG)); refine blk_far ?_ Z12.out _; (with_reducible repeat (first | apply zF | apply zH | apply zG)); refine blk_far ?_ Z12.out _; (with_reducible repeat (first | apply zF | apply zH | apply zG)); refine blk_far ?_ Z12.out _; (with_reducible repeat (first | apply zF | apply zH | apply zG)); exact Z1.out) hb); have n5_ := zK (zP (g := Z17) (o := o2 a1_0 a1_1 a1_2 a1_3 a1_4 A1_5 l1_5 c1_5) (by (with_reducible repeat (first | apply zF | apply zH | apply zG)); refine blk_put (cs := #[.int .i64 a1_0, .int .i64 a1_1, .int .i64 a1_2, .int .i64 a1_3, .int .i64 a1_4, .slice none 0 0]) ?_ 5 _ rfl; (with_reducible repeat (first | apply zF | apply zH | apply zG)); refine blk_put (cs := #[.int .i64 a1_0, .int .i64 a1_1, .int .i64 a1_2, .int .i64 a1_3, .int .i64 0, .slice none 0 0]) ?_ 4 _ rfl; (with_reducible repeat (first | apply zF | apply zH | apply zG)); refine blk_put (cs := #[.int .i64 a1_0, .int .i64 a1_1, .int .i64 a1_2, .int .i64 0, .int .i64 0, .slice none 0 0]) ?_ 3 _ rfl; (with_reducible repeat (first | apply zF | apply zH | apply zG)); refine blk_put (cs := #[.int .i64 a1_0, .int .i64 a1_1, .int .i64 0, .int .i64 0, .int .i64 0, .slice none 0 0]) ?_ 2 _ rfl; (with_reducible repeat (first | apply zF | apply zH | apply zG)); refine blk_put (cs := #[.int .i64 a1_0, .int .i64 0, .int .i64 0, .int .i64 0, .int .i64 0, .slice none 0 0]) ?_ 1 _ rfl; (with_reducible repeat (first | apply zF | apply zH | apply zG)); refine blk_put (cs := #[.int .i64 0, .int .i64 0, .int .i64 0, .int .i64 0, .int .i64 0, .slice none 0 0]) ?_ 0 _ rfl; (with_reducible repeat (first | apply zF | apply zH | apply zG)); exact Z2.out) hb); have n6_ := zK (yL (by repeat (first | (with_reducible first | exact HB.out | apply zJ | apply zD | apply zE | refine zI ?_ Z3.out | refine zI ?_ Z4.out | refine zI ?_ Z5.out) | exact HB.out)) hb); clear HO372 HO378 Z0 Z1 Z2 HB; have HO372 := n0_; have HO378 := n1_; have HO382 := n2_; have Z0 := n3_; have Z1 := n4_; have Z2 := n5_; have HB := n6_; clear n0_ n1_ n2_ n3_ n4_ n5_ n6_ hb ho31; have hnb32 := Z11.out; have hnc32 := Z9.out; have hnb33 := Z12.out; have hnc33 := Z14.out; have hcz34_0 : w30.cell? ⟨Z16, 0, none⟩ = some (.int .i64 a1_0) := (zO Z1.out 0).trans rfl; have hcz34_1 : w30.cell? ⟨Z16, 1, none⟩ = some (.int .i64 a1_1) := (zO Z1.out 1).trans rfl; have hcz34_2 : w30.cell? ⟨Z16, 2, none⟩ = some (.int .i64 a1_2) := (zO Z1.out 2).trans rfl; have hcz34_3 : w30.cell? ⟨Z16, 3, none⟩ = some (.int .i64 a1_3) := (zO Z1.out 3).trans rfl; have hcz34_4 : w30.cell? ⟨Z16, 4, none⟩ = some (.int .i64 a1_4) := (zO Z1.out 4).trans rfl; have hcz34_5 : w30.cell? ⟨Z16, 5, none⟩ = some (.slice A1_5 l1_5.length c1_5) := (zO Z1.out 5).trans rfl; have hfz34_0 := yE Z1.out 0; have hfz34_1 := yE Z1.out 1; have hfz34_2 := yE Z1.out 2; have hfz34_3 := yE Z1.out 3; have hfz34_4 := yE Z1.out 4; have hfz34_5 := yE Z1.out 5) | ((with_reducible refine gate_builtin (b := .append) (xs := #[.tmp 25, .tmp 27]) rfl ?_); at_builtin; refine Kd.R_append_rows k46 (w0 := w) w.heap.size rfl (.tmp 25) (.tmp 27) 22 46 (.agg #[(.int .i64 0), (.int .i64 0)]) 16 rfl Try.underlying22 info46 rfl (by decide) (by omega) v381 y380 l1_5 _ _ _ (fun _ => True) (fun _ => False) rfl rfl ?aO ?aR (fun _ _ h => h) (fun _ h => h.elim) ?aF ?aB ?aS ?aL ?_; (case aR => repeat (first | exact (yc HR1_5.out HB.out) | (with_reducible refine yS ?_ _) | (with_reducible refine yT ?_ _) | (with_reducible refine yU ?_))); (case aB => exact (by repeat (first | (with_reducible first | exact HB.out | apply zJ | apply zD | apply zE | refine zI ?_ Z3.out | refine zI ?_ Z4.out | refine zI ?_ Z5.out) | exact HB.out))); (case aF => exact (fun _ _ => trivial)); (case aO => exact (by (with_reducible repeat (first | apply zL | apply zM | apply zN)); exact HO382.out)); (case aS => exact (yK (by repeat (first | (with_reducible first | exact HB.out | apply zJ | apply zD | apply zE | refine zI ?_ Z3.out | refine zI ?_ Z4.out | refine zI ?_ Z5.out) | exact HB.out)))); (case aL => have := LMc7.out; omega); intro v384 w35 ho hb hg hat; rw [← Ny383.out] at ho; have n0_ := zK (blk_grown (g := Z15) (o := o1 A0_0 l0_0 c0_0 A0_1 l0_1 c0_1) (by (with_reducible repeat (first | apply zF | apply zH | apply zG)); exact Z0.out) hg (Kd.R_ne HO382.out Z0.out (by decide))); have n1_ := zK (blk_grown (g := Z16) (o := o2 a1_0 a1_1 a1_2 a1_3 a1_4 A1_5 l1_5 c1_5) (by (with_reducible repeat (first | apply zF | apply zH | apply zG)); exact Z1.out) hg (Kd.R_ne HO382.out Z1.out (by decide))); have n2_ := zK (Kd.R_over' (by (with_reducible repeat (first | apply zL | apply zM | apply zN)); exact HO372.out) (Kd.R_typed (by (with_reducible repeat (first | apply zL | apply zM | apply zN)); exact HO382.out)) (by decide) hg); have n3_ := zK (Kd.R_over' (by (with_reducible repeat (first | apply zL | apply zM | apply zN)); exact HO378.out) (Kd.R_typed (by (with_reducible repeat (first | apply zL | apply zM | apply zN)); exact HO382.out)) (by decide) hg); have n4_ := zK (blk_grown (g := Z17) (o := o2 a1_0 a1_1 a1_2 a1_3 a1_4 A1_5 l1_5 c1_5) (by (with_reducible repeat (first | apply zF | apply zH | apply zG)); exact Z2.out) hg (Kd.R_ne HO382.out Z2.out (by decide))); have n5_ := zK (hb); have n6_ := zK (ho); clear Z0 Z1 HO372 HO378 Z2 HB HO382; have Z0 := n0_; have Z1 := n1_; have HO372 := n2_; have HO378 := n3_; have Z2 := n4_; have HB := n5_; have HO385 := n6_; clear n0_ n1_ n2_ n3_ n4_ n5_ n6_ ho hb hg hat; obtain ⟨Ao36, co36, eo36⟩ := Kd.R_slice HO385.out; subst eo36; have hnb37 := Z13.out; have hnc37 := Z10.out; have hcz38_0 : w35.cell? ⟨Z17, 0, none⟩ = some (.int .i64 a1_0) := (zO Z2.out 0).trans rfl; have hcz38_1 : w35.cell? ⟨Z17, 1, none⟩ = some (.int .i64 a1_1) := (zO Z2.out 1).trans rfl; have hcz38_2 : w35.cell? ⟨Z17, 2, none⟩ = some (.int .i64 a1_2) := (zO Z2.out 2).trans rfl; have hcz38_3 : w35.cell? ⟨Z17, 3, none⟩ = some (.int .i64 a1_3) := (zO Z2.out 3).trans rfl; have hcz38_4 : w35.cell? ⟨Z17, 4, none⟩ = some (.int .i64 a1_4) := (zO Z2.out 4).trans rfl; have hcz38_5 : w35.cell? ⟨Z17, 5, none⟩ = some (.slice A1_5 l1_5.length c1_5) := (zO Z2.out 5).trans rfl; have hfz38_0 := yE Z2.out 0; have hfz38_1 := yE Z2.out 1; have hfz38_2 := yE Z2.out 2; have hfz38_3 := yE Z2.out 3; have hfz38_4 := yE Z2.out 4; have hfz38_5 := yE Z2.out 5; obtain ⟨Ao39, co39, eo39⟩ := Kd.R_slice HO372.out; subst eo39; obtain ⟨Ao40, co40, eo40⟩ := Kd.R_slice HO378.out; subst eo40) | ((with_reducible refine gate_callee (f := 19) rfl ?_); refine goesL_ (some 34) rfl rfl Try.func19 (by kernel_rfl) rfl #[.slice Ao39 y370.length co39, .slice Ao40 y376.length co40, .agg #[.int .i64 a1_0, .int .i64 a1_1, .int .i64 a1_2, .int .i64 a1_3, .int .i64 a1_4, .slice Ao36 y383.length co36]] rfl (by (try simp only [yH, yI, yJ]); first | done | rfl | (simp only [yG, yF]; rfl)) ?_; (with_reducible refine (dist_Weights.calls k _ _ y370 _ _ y376 a1_0 a1_1 a1_2 a1_3 a1_4 _ _ y383 t386 t389 _ ?side1 ?side2 ?side3 ?side4 ?side5 ?side6 A8.out).mono ?_); (case side1 => refine (yM (e := 2) (base := w.heap.size) (ok := fun k_ => True) (n := y370.length) (c := co39) ?_).2.2; exact (by (with_reducible repeat (first | apply zL | apply zM | apply zN)); exact (yd (Kd.R_far (p := ⟨Z17, 5, none⟩) (Kd.R_types HO372.out Z2.out (by decide)) (fun _ hk => hk.2) (.slice Ao36 y383.length co36)) (fun _ h_ => h_.1)))); (case side2 => exact (yM HO372.out).2.1); (case side3 => refine (yM (e := 4) (base := w.heap.size) (ok := fun k_ => True) (n := y376.length) (c := co40) ?_).2.2; exact (by (with_reducible repeat (first | apply zL | apply zM | apply zN)); exact (yd (Kd.R_far (p := ⟨Z17, 5, none⟩) (Kd.R_types HO378.out Z2.out (by decide)) (fun _ hk => hk.2) (.slice Ao36 y383.length co36)) (fun _ h_ => h_.1)))); (case side4 => exact (yM HO378.out).2.1); (case side5 => refine (yM (e := 46) (base := w.heap.size) (ok := fun k_ => True) (n := y383.length) (c := co36) ?_).2.2; exact (by (with_reducible repeat (first | apply zL | apply zM | apply zN)); exact (yd (Kd.R_far (p := ⟨Z17, 5, none⟩) (Kd.R_types HO385.out Z2.out (by decide)) (fun _ hk => hk.2) (.slice Ao36 y383.length co36)) (fun _ h_ => h_.1)))); (case side6 => exact (yM HO385.out).2.1); rintro e w41 ⟨v387, rfl, ho0, hb⟩; refine ⟨_, rfl, ?_⟩; have n0_ := zK (Kd.R_elder' (by (with_reducible repeat (first | apply zL | apply zM | apply zN)); exact (yd (Kd.R_far (p := ⟨Z17, 5, none⟩) (Kd.R_types HO372.out Z2.out (by decide)) (fun _ hk => hk.2) (.slice Ao36 y383.length co36)) (fun _ h_ => h_.1))) (Kd.R_base ho0) hb); have n1_ := zK (yb (by (with_reducible repeat (first | apply zL | apply zM | apply zN)); exact (yd (Kd.R_far (p := ⟨Z17, 5, none⟩) (Kd.R_types HO378.out Z2.out (by decide)) (fun _ hk => hk.2) (.slice Ao36 y383.length co36)) (fun _ h_ => h_.1))) hb); have n2_ := zK (yb (by (with_reducible repeat (first | apply zL | apply zM | apply zN)); exact (yd (Kd.R_far (p := ⟨Z17, 5, none⟩) (Kd.R_types HO385.out Z2.out (by decide)) (fun _ hk => hk.2) (.slice Ao36 y383.length co36)) (fun _ h_ => h_.1))) hb); have n3_ := zK (Kd.R_lower (Kd.R_new' ho0 (Kd.R_lt (by (with_reducible repeat (first | apply zL | apply zM | apply zN)); exact (yd (Kd.R_far (p := ⟨Z17, 5, none⟩) (Kd.R_types HO372.out Z2.out (by decide)) (fun _ hk => hk.2) (.slice Ao36 y383.length co36)) (fun _ h_ => h_.1))))) (yK (by repeat (first | (with_reducible first | exact HB.out | apply zJ | apply zD | apply zE | refine zI ?_ Z3.out | refine zI ?_ Z4.out | refine zI ?_ Z5.out) | exact HB.out)))); have n4_ := zK (zP (g := Z15) (o := o1 A0_0 l0_0 c0_0 A0_1 l0_1 c0_1) (by (with_reducible repeat (first | apply zF | apply zH | apply zG)); refine blk_far ?_ Z10.out _; (with_reducible repeat (first | apply zF | apply zH | apply zG)); exact Z0.out) hb); have n5_ := zK (zP (g := Z16) (o := o2 a1_0 a1_1 a1_2 a1_3 a1_4 A1_5 l1_5 c1_5) (by (with_reducible repeat (first | apply zF | apply zH | apply zG)); refine blk_far ?_ Z12.out _; (with_reducible repeat (first | apply zF | apply zH | apply zG)); exact Z1.out) hb); have n6_ := zK (zP (g := Z17) (o := o2 a1_0 a1_1 a1_2 a1_3 a1_4 Ao36 y383 co36) (by (with_reducible repeat (first | apply zF | apply zH | apply zG)); refine blk_put (cs := #[.int .i64 a1_0, .int .i64 a1_1, .int .i64 a1_2, .int .i64 a1_3, .int .i64 a1_4, .slice A1_5 l1_5.length c1_5]) ?_ 5 _ rfl; (with_reducible repeat (first | apply zF | apply zH | apply zG)); exact Z2.out) hb); have n7_ := zK (yL (by repeat (first | (with_reducible first | exact HB.out | apply zJ | apply zD | apply zE | refine zI ?_ Z3.out | refine zI ?_ Z4.out | refine zI ?_ Z5.out) | exact HB.out)) hb); clear HO372 HO378 HO385 Z0 Z1 Z2 HB; have HO372 := n0_; have HO378 := n1_; have HO385 := n2_; have HO388 := n3_; have Z0 := n4_; have Z1 := n5_; have Z2 := n6_; have HB := n7_; clear n0_ n1_ n2_ n3_ n4_ n5_ n6_ n7_; (try clear hb); (try clear hb2); (try clear hk); (try clear hi); (try clear ho0)))
      have n0_ := zK (zN HO372.out)
      have n1_ := zK (zN HO378.out)
      have n2_ := zK (zN HO385.out)
      have n3_ := zK (zN HO388.out)
      have n4_ := zK (zH Z0.out)
      have n5_ := zK (zH Z1.out)
      have n6_ := zK (zH Z2.out)
      have n7_ := zK (zE HB.out)
      clear HO372 HO378 HO385 HO388 Z0 Z1 Z2 HB
      have HO372 := n0_; have HO378 := n1_; have HO385 := n2_; have HO388 := n3_; have Z0 := n4_; have Z1 := n5_; have Z2 := n6_; have HB := n7_
      clear n0_ n1_ n2_ n3_ n4_ n5_ n6_ n7_
      refine start_ (n := 12) (S := fun w' => w'.cell? ⟨Z15, 0, none⟩ = some (.slice A0_0 l0_0.length c0_0) /\ w'.cell? ⟨Z15, 1, none⟩ = some (.slice A0_1 l0_1.length c0_1) /\ w'.cell? ⟨Z16, 0, none⟩ = some (.int .i64 a1_0) /\ w'.cell? ⟨Z16, 1, none⟩ = some (.int .i64 a1_1) /\ w'.cell? ⟨Z16, 2, none⟩ = some (.int .i64 a1_2) /\ w'.cell? ⟨Z16, 3, none⟩ = some (.int .i64 a1_3) /\ w'.cell? ⟨Z16, 4, none⟩ = some (.int .i64 a1_4) /\ w'.cell? ⟨Z16, 5, none⟩ = some (.slice A1_5 l1_5.length c1_5)) (ds := []) #[false, false, false, false, false, false, false, false, false, false, false, false] (by kernel_rfl) rfl rfl ⟨(zO Z0.out 0).trans rfl, (zO Z0.out 1).trans rfl, (zO Z1.out 0).trans rfl, (zO Z1.out 1).trans rfl, (zO Z1.out 2).trans rfl, (zO Z1.out 3).trans rfl, (zO Z1.out 4).trans rfl, (zO Z1.out 5).trans rfl⟩ (fun hHeld => ?_); refine with_tabW w22_DistWeights.tab6 w22_DistWeights.bits6 (fun HT_ HW_ => ?_)
      generalize w41.drew = w42 at HO372 HO378 HO385 HO388 Z0 Z1 Z2 HB hHeld ⊢
      refine pure_ (i := 0) (N := some 38) (v := ?_) (a' := ?_) #[true, false, false, false, false, false, false, false, false, false, false, false] rfl rfl (any_of HT_.out (by kernel_rfl)) (fun _ _ _ h => h) (Or.inl ⟨by rfl, ?_⟩) ?_ ?_
      rotate_left
      ·intro w'
       go_simp
       with_reducible rfl
      rotate_left
      ·simp only [Act.put, zA, zB, zC, i64_w, i32_w]
       rfl
      refine pure_ (i := 2) (N := some 40) (v := ?_) (a' := ?_) #[true, false, true, false, false, false, false, false, false, false, false, false] rfl rfl (any_of HT_.out (by kernel_rfl)) (fun _ _ _ h => h) (Or.inl ⟨by rfl, ?_⟩) ?_ ?_
      rotate_left
      ·intro w'
       go_simp
       with_reducible rfl
      rotate_left
      ·simp only [Act.put, zA, zB, zC, i64_w, i32_w]
       rfl
      refine take_ (i := 1) (N := some 39) (v := ?_) (a' := ?_) #[true, true, true, false, false, false, false, false, false, false, false, false] rfl rfl (take_ofW HT_.out HW_.out (by kernel_rfl)) (fun _ _ _ h => h) (Or.inl ⟨by rfl, ?_⟩) hHeld ?_ ?_
      rotate_left
      ·rintro w' ⟨s0, s1, s2, s3, s4, s5, s6, s7⟩
       go_simp
       with_reducible rfl
      rotate_left
      ·simp only [Act.put, zA, zB, zC, i64_w, i32_w]
       rfl
      refine take_ (i := 3) (N := some 41) (v := ?_) (a' := ?_) #[true, true, true, true, false, false, false, false, false, false, false, false] rfl rfl (take_ofW HT_.out HW_.out (by kernel_rfl)) (fun _ _ _ h => h) (Or.inl ⟨by rfl, ?_⟩) hHeld ?_ ?_
      rotate_left
      ·rintro w' ⟨s0, s1, s2, s3, s4, s5, s6, s7⟩
       go_simp
       with_reducible rfl
      rotate_left
      ·simp only [Act.put, zA, zB, zC, i64_w, i32_w]
       rfl
      refine take_ (i := 4) (N := some 42) (v := ?_) (a' := ?_) #[true, true, true, true, true, false, false, false, false, false, false, false] rfl rfl (take_ofW HT_.out HW_.out (by kernel_rfl)) (fun _ _ _ h => h) (Or.inl ⟨by rfl, ?_⟩) hHeld ?_ ?_
      rotate_left
      ·rintro w' ⟨s0, s1, s2, s3, s4, s5, s6, s7⟩
       go_simp
       with_reducible rfl
      rotate_left
      ·simp only [Act.put, zA, zB, zC, i64_w, i32_w]
       rfl
      refine one_ (i := 5) (N := some 43) #[true, true, true, true, true, true, false, false, false, false, false, false] rfl rfl (one_of HT_.out (by kernel_rfl)) (by decide) (fun K hK => ?_)
      refine goes_ Try.func16 (by kernel_rfl) rfl #[.agg #[.int .i64 a1_0, .int .i64 a1_1, .int .i64 a1_2, .int .i64 a1_3, .int .i64 a1_4, .slice A1_5 l1_5.length c1_5]] (by rfl) rfl rfl (by (try simp only [yH, yI, yJ]); first | done | rfl | (simp only [yG, yF]; rfl)) ?_
      with_reducible refine (w22_plain.calls k a1_0 a1_1 a1_2 a1_3 a1_4 _ _ l1_5 t390 t391 t392 t393 t394 t395 _ ?side1 ?side2 A9.out).mono ?_
      (case side1 => repeat (first | exact (yc HR1_5.out HB.out) | (with_reducible refine yS ?_ _) | (with_reducible refine yT ?_ _) | (with_reducible refine yU ?_)))
      (case side2 => exact HC1_5.out)
      rintro e w43 ⟨v396, rfl, ho0, hb⟩
      refine ⟨_, rfl, ?_⟩
      have n0_ := zK (yb (by (with_reducible repeat (first | apply zL | apply zM | apply zN)); exact HO372.out) hb)
      have n1_ := zK (yb (by (with_reducible repeat (first | apply zL | apply zM | apply zN)); exact HO378.out) hb)
      have n2_ := zK (yb (by (with_reducible repeat (first | apply zL | apply zM | apply zN)); exact HO385.out) hb)
      have n3_ := zK (yb (by (with_reducible repeat (first | apply zL | apply zM | apply zN)); exact HO388.out) hb)
      have n4_ := zK (Kd.R_lower ho0 (yK (by repeat (first | (with_reducible first | exact HB.out | apply zJ | apply zD | apply zE | refine zI ?_ Z3.out | refine zI ?_ Z4.out | refine zI ?_ Z5.out) | exact HB.out))))
      have n5_ := zK (zP (g := Z15) (o := o1 A0_0 l0_0 c0_0 A0_1 l0_1 c0_1) (by (with_reducible repeat (first | apply zF | apply zH | apply zG)); exact Z0.out) hb)
      have n6_ := zK (zP (g := Z16) (o := o2 a1_0 a1_1 a1_2 a1_3 a1_4 A1_5 l1_5 c1_5) (by (with_reducible repeat (first | apply zF | apply zH | apply zG)); exact Z1.out) hb)
      have n7_ := zK (zP (g := Z17) (o := o2 a1_0 a1_1 a1_2 a1_3 a1_4 Ao36 y383 co36) (by (with_reducible repeat (first | apply zF | apply zH | apply zG)); exact Z2.out) hb)
      have n8_ := zK (yL (by repeat (first | (with_reducible first | exact HB.out | apply zJ | apply zD | apply zE | refine zI ?_ Z3.out | refine zI ?_ Z4.out | refine zI ?_ Z5.out) | exact HB.out)) hb)
      clear HO372 HO378 HO385 HO388 Z0 Z1 Z2 HB
      have HO372 := n0_; have HO378 := n1_; have HO385 := n2_; have HO388 := n3_; have HO397 := n4_; have Z0 := n5_; have Z1 := n6_; have Z2 := n7_; have HB := n8_
      clear n0_ n1_ n2_ n3_ n4_ n5_ n6_ n7_ n8_
      (try clear hb)
      (try clear hb2)
      (try clear hk)
      (try clear hi)
      (try clear ho0)
      obtain ⟨Ao44, co44, eo44⟩ := Kd.R_slice HO397.out
      (first | subst eo44 | (injection eo44 with f1_ f2_ f3_; have f4_ := f1_.symm; have f5_ := f3_.symm; clear f1_ f2_ f3_; subst f4_; subst f5_))
      refine hK.out _ _ ⟨(zO Z0.out 0).trans rfl, (zO Z0.out 1).trans rfl, (zO Z1.out 0).trans rfl, (zO Z1.out 1).trans rfl, (zO Z1.out 2).trans rfl, (zO Z1.out 3).trans rfl, (zO Z1.out 4).trans rfl, (zO Z1.out 5).trans rfl⟩ (fun hHeld => ?_)
      clear hK K
      refine norm_ (a' := ?_) ?_ ?_
      rotate_left
      ·show Act.put _ (some 43) _ = _
       simp only [Act.put, zA, zB, zC, i64_w, i32_w]
       rfl
      refine one_ (i := 6) (N := some 44) #[true, true, true, true, true, true, true, false, false, false, false, false] rfl rfl (one_of HT_.out (by kernel_rfl)) (by decide) (fun K hK => ?_)
      refine goes_ Try.func20 (by kernel_rfl) rfl #[.slice A0_0 l0_0.length c0_0, .slice A0_1 l0_1.length c0_1, .agg #[.int .i64 t390, .int .i64 t391, .int .i64 t392, .int .i64 t393, .int .i64 t394, .slice Ao44 t395.length co44]] (by rfl) rfl rfl (by (try simp only [yH, yI, yJ]); first | done | rfl | (simp only [yG, yF]; rfl)) ?_
      with_reducible refine (r22_Weights.calls k _ _ l0_0 _ _ l0_1 t390 t391 t392 t393 t394 _ _ t395 t398 t401 _ ?side1 ?side2 ?side3 ?side4 ?side5 ?side6 A10.out).mono ?_
      (case side1 => repeat (first | exact (yc HR0_0.out HB.out) | (with_reducible refine yS ?_ _) | (with_reducible refine yT ?_ _) | (with_reducible refine yU ?_)))
      (case side2 => exact HC0_0.out)
      (case side3 => repeat (first | exact (yc HR0_1.out HB.out) | (with_reducible refine yS ?_ _) | (with_reducible refine yT ?_ _) | (with_reducible refine yU ?_)))
      (case side4 => exact HC0_1.out)
      (case side5 => repeat (first | exact (yM HO397.out).2.2 | (with_reducible refine yS ?_ _) | (with_reducible refine yT ?_ _) | (with_reducible refine yU ?_)))
      (case side6 => exact (yM HO397.out).2.1)
      rintro e w45 ⟨v399, rfl, ho0, hb⟩
      refine ⟨_, rfl, ?_⟩
      have n0_ := zK (Kd.R_elder' (by (with_reducible repeat (first | apply zL | apply zM | apply zN)); exact HO372.out) (Kd.R_base ho0) hb)
      have n1_ := zK (yb (by (with_reducible repeat (first | apply zL | apply zM | apply zN)); exact HO378.out) hb)
      have n2_ := zK (yb (by (with_reducible repeat (first | apply zL | apply zM | apply zN)); exact HO385.out) hb)
      have n3_ := zK (Kd.R_elder' (by (with_reducible repeat (first | apply zL | apply zM | apply zN)); exact HO388.out) (Kd.R_base ho0) hb)
      have n4_ := zK (yb (by (with_reducible repeat (first | apply zL | apply zM | apply zN)); exact HO397.out) hb)
      have n5_ := zK (Kd.R_lower (Kd.R_new' (Kd.R_new' ho0 (Kd.R_lt (by (with_reducible repeat (first | apply zL | apply zM | apply zN)); exact HO372.out))) (Kd.R_lt (by (with_reducible repeat (first | apply zL | apply zM | apply zN)); exact HO388.out))) (yK (by repeat (first | (with_reducible first | exact HB.out | apply zJ | apply zD | apply zE | refine zI ?_ Z3.out | refine zI ?_ Z4.out | refine zI ?_ Z5.out) | exact HB.out))))
      have n6_ := zK (zP (g := Z15) (o := o1 A0_0 l0_0 c0_0 A0_1 l0_1 c0_1) (by (with_reducible repeat (first | apply zF | apply zH | apply zG)); exact Z0.out) hb)
      have n7_ := zK (zP (g := Z16) (o := o2 a1_0 a1_1 a1_2 a1_3 a1_4 A1_5 l1_5 c1_5) (by (with_reducible repeat (first | apply zF | apply zH | apply zG)); exact Z1.out) hb)
      have n8_ := zK (zP (g := Z17) (o := o2 a1_0 a1_1 a1_2 a1_3 a1_4 Ao36 y383 co36) (by (with_reducible repeat (first | apply zF | apply zH | apply zG)); exact Z2.out) hb)
      have n9_ := zK (yL (by repeat (first | (with_reducible first | exact HB.out | apply zJ | apply zD | apply zE | refine zI ?_ Z3.out | refine zI ?_ Z4.out | refine zI ?_ Z5.out) | exact HB.out)) hb)
      clear HO372 HO378 HO385 HO388 HO397 Z0 Z1 Z2 HB
      have HO372 := n0_; have HO378 := n1_; have HO385 := n2_; have HO388 := n3_; have HO397 := n4_; have HO400 := n5_; have Z0 := n6_; have Z1 := n7_; have Z2 := n8_; have HB := n9_
      clear n0_ n1_ n2_ n3_ n4_ n5_ n6_ n7_ n8_ n9_
      (try clear hb)
      (try clear hb2)
      (try clear hk)
      (try clear hi)
      (try clear ho0)
      refine hK.out _ _ ⟨(zO Z0.out 0).trans rfl, (zO Z0.out 1).trans rfl, (zO Z1.out 0).trans rfl, (zO Z1.out 1).trans rfl, (zO Z1.out 2).trans rfl, (zO Z1.out 3).trans rfl, (zO Z1.out 4).trans rfl, (zO Z1.out 5).trans rfl⟩ (fun hHeld => ?_)
      clear hK K
      refine norm_ (a' := ?_) ?_ ?_
      rotate_left
      ·show Act.put _ (some 44) _ = _
       simp only [Act.put, zA, zB, zC, i64_w, i32_w]
       rfl
      refine pure_ (i := 7) (N := some 37) (v := ?_) (a' := ?_) #[true, true, true, true, true, true, true, true, false, false, false, false] rfl rfl (any_of HT_.out (by kernel_rfl)) (fun _ _ _ h => h) (Or.inl ⟨by rfl, ?_⟩) ?_ ?_
      rotate_left
      ·intro w'
       go_simp
       with_reducible rfl
      rotate_left
      ·simp only [Act.put, zA, zB, zC, i64_w, i32_w]
       rfl
      refine pure_ (i := 8) (N := some 45) (v := ?_) (a' := ?_) #[true, true, true, true, true, true, true, true, true, false, false, false] rfl rfl (any_of HT_.out (by kernel_rfl)) (fun _ _ _ h => h) (Or.inl ⟨by rfl, ?_⟩) ?_ ?_
      rotate_left
      ·intro w'
       go_simp
       with_reducible rfl
      rotate_left
      ·simp only [Act.put, zA, zB, zC, i64_w, i32_w]
       rfl
      refine pure_ (i := 9) (N := some 46) (v := ?_) (a' := ?_) #[true, true, true, true, true, true, true, true, true, true, false, false] rfl rfl (any_of HT_.out (by kernel_rfl)) (fun _ _ _ h => h) (Or.inl ⟨by rfl, ?_⟩) ?_ ?_
      rotate_left
      ·intro w'
       go_simp
       with_reducible rfl
      rotate_left
      ·simp only [Act.put, zA, zB, zC, i64_w, i32_w]
       rfl
      refine pure_ (i := 10) (N := some 10) (v := ?_) (a' := ?_) #[true, true, true, true, true, true, true, true, true, true, true, false] rfl rfl (any_of HT_.out (by kernel_rfl)) (fun _ _ _ h => h) (Or.inl ⟨by rfl, ?_⟩) ?_ ?_
      rotate_left
      ·intro w'
       go_simp
       with_reducible rfl
      rotate_left
      ·simp only [Act.put, zA, zB, zC, i64_w, i32_w]
       rfl
      refine pure_ (i := 11) (N := some 11) (v := ?_) (a' := ?_) #[true, true, true, true, true, true, true, true, true, true, true, true] rfl rfl (any_of HT_.out (by kernel_rfl)) (fun _ _ _ h => h) (Or.inl ⟨by rfl, ?_⟩) ?_ ?_
      rotate_left
      ·intro w'
       go_simp
       with_reducible rfl
      rotate_left
      ·simp only [Act.put, zA, zB, zC, i64_w, i32_w]
       rfl
      refine done_ (done_of HT_.out (by kernel_rfl)) ?_
      go_upto_region 7 with (fail)
      go_cut [62] (fun v62 wc => ∃ (kq : Nat) (x62_10 : Bool), v62 = .bool x62_10 /\ Aside0 (w22_DistWeights.j0 kq y376 x62_10 l0_0 l0_1 a1_0 a1_1 a1_2 a1_3 a1_4 l1_5 a1_0 a1_1 a1_2 a1_3 a1_4 y383 = some r) /\ Aside0 (kq <= k) /\ Aside0 (Kd.R Kd.bool 4 wc w.heap.size (fun _ => True) (.slice Ao40 y376.length co40) y376) /\ Aside0 (Kd.R k46 46 wc w.heap.size (fun _ => True) (.slice Ao36 y383.length co36) y383) /\ Aside0 (wc.heap[Z15]? = some (.cells #[(.slice A0_0 l0_0.length c0_0), (.slice A0_1 l0_1.length c0_1)] 39 (0, 0))) /\ Aside0 (wc.heap[Z16]? = some (.cells #[.int .i64 a1_0, .int .i64 a1_1, .int .i64 a1_2, .int .i64 a1_3, .int .i64 a1_4, (.slice A1_5 l1_5.length c1_5)] 24 (0, 0))) /\ Aside0 (wc.heap[Z17]? = some (.cells #[.int .i64 a1_0, .int .i64 a1_1, .int .i64 a1_2, .int .i64 a1_3, .int .i64 a1_4, (.slice Ao36 y383.length co36)] 24 (0, 0))) /\ Aside0 (Below w.heap.size w wc))
      case first =>
       have H := HC11.out
       clear HC11
       replace H := yA.mp H
       obtain ⟨t402, A460, H⟩ := H
       replace H : (if t402 = true then (if t389 = t401 then ((w22_same.f k y370 l0_0).bind fun t403 => (w22_DistWeights.j0 k y376 (!t403) l0_0 l0_1 a1_0 a1_1 a1_2 a1_3 a1_4 l1_5 a1_0 a1_1 a1_2 a1_3 a1_4 y383)) else (w22_DistWeights.j0 k y376 true l0_0 l0_1 a1_0 a1_1 a1_2 a1_3 a1_4 l1_5 a1_0 a1_1 a1_2 a1_3 a1_4 y383)) else (w22_DistWeights.j0 k y376 true l0_0 l0_1 a1_0 a1_1 a1_2 a1_3 a1_4 l1_5 a1_0 a1_1 a1_2 a1_3 a1_4 y383)) = some r := H
       have A46 := zK A460
       clear A460
       by_cases c47 : t402 = true
       ·subst c47
        have H1 : (if t389 = t401 then ((w22_same.f k y370 l0_0).bind fun t403 => (w22_DistWeights.j0 k y376 (!t403) l0_0 l0_1 a1_0 a1_1 a1_2 a1_3 a1_4 l1_5 a1_0 a1_1 a1_2 a1_3 a1_4 y383)) else (w22_DistWeights.j0 k y376 true l0_0 l0_1 a1_0 a1_1 a1_2 a1_3 a1_4 l1_5 a1_0 a1_1 a1_2 a1_3 a1_4 y383)) = some r := by rw [if_pos rfl] at H; exact H
        clear H
        have H := H1
        clear H1
        by_cases c48 : t389 = t401
        ·rw [if_pos c48] at H
         have c48b0 : (t389 == t401) = true := beq_iff_eq.mpr c48
         have c48b1 : (t389 != t401) = false := bne_eq_false_iff_eq.mpr c48
         clear c48
         (first | rw [c48b0] | (simp only [i64_w, i32_w]; rw [c48b0]) | skip)
         replace H := yA.mp H
         obtain ⟨t403, A490, H⟩ := H
         replace H : (w22_DistWeights.j0 k y376 (!t403) l0_0 l0_1 a1_0 a1_1 a1_2 a1_3 a1_4 l1_5 a1_0 a1_1 a1_2 a1_3 a1_4 y383) = some r := H
         have A49 := zK A490
         clear A490
         have H' := zK H
         clear H
         obtain ⟨Ao50, co50, eo50⟩ := Kd.R_slice HO388.out
         subst eo50
         obtain ⟨Ao51, co51, eo51⟩ := Kd.R_slice HO400.out
         subst eo51
         go_wp2_with (first | ((with_reducible refine gate_callee (f := 21) rfl ?_); refine goesL_ (some 49) rfl rfl Try.func21 (by kernel_rfl) rfl #[.slice Ao50 t386.length co50, .slice Ao51 t398.length co51] rfl (by (try simp only [yH, yI, yJ]); first | done | rfl | (simp only [yG, yF]; rfl)) ?_; (with_reducible refine (w22_same.calls k _ _ t386 _ _ t398 true _ ?side1 ?side2 ?side3 ?side4 A46.out).mono ?_); (case side1 => repeat (first | exact (yM HO388.out).2.2 | (with_reducible refine yS ?_ _) | (with_reducible refine yT ?_ _) | (with_reducible refine yU ?_))); (case side2 => exact (yM HO388.out).2.1); (case side3 => repeat (first | exact (yM HO400.out).2.2 | (with_reducible refine yS ?_ _) | (with_reducible refine yT ?_ _) | (with_reducible refine yU ?_))); (case side4 => exact (yM HO400.out).2.1); rintro e w' ⟨rfl, ⟨nd, rfl⟩⟩; refine ⟨_, rfl, ?_⟩; have hnb52 := Z9.out; have hnc52 := Z11.out; have hnb53 := Z10.out; have hnc53 := Z13.out; have hcz54_0 : w45.cell? ⟨Z15, 0, none⟩ = some (.slice A0_0 l0_0.length c0_0) := (zO Z0.out 0).trans rfl; have hcz54_1 : w45.cell? ⟨Z15, 1, none⟩ = some (.slice A0_1 l0_1.length c0_1) := (zO Z0.out 1).trans rfl; have hfz54_0 := yE Z0.out 0; have hfz54_1 := yE Z0.out 1) | (go_at_call 21; (with_reducible refine (w22_same.calls k _ _ y370 _ _ l0_0 t403 _ ?side1 ?side2 ?side3 ?side4 A49.out).mono ?_); (case side1 => repeat (first | exact (yM HO372.out).2.2 | (with_reducible refine yS ?_ _) | (with_reducible refine yT ?_ _) | (with_reducible refine yU ?_))); (case side2 => exact (yM HO372.out).2.1); (case side3 => repeat (first | exact (yc HR0_0.out (by repeat (first | (with_reducible first | exact HB.out | apply zJ | apply zD | apply zE | refine zI ?_ Z3.out | refine zI ?_ Z4.out | refine zI ?_ Z5.out) | exact HB.out))) | (with_reducible refine yS ?_ _) | (with_reducible refine yT ?_ _) | (with_reducible refine yU ?_))); (case side4 => exact HC0_0.out); rintro e w' ⟨rfl, ⟨nd, rfl⟩⟩))
         go_meet
         case rel => exact ⟨_, (!t403), (by first | rfl | (simp; done) | (simp [*]; done)), H', ⟨by first | omega | exact yN _⟩, ⟨by (with_reducible repeat (first | apply zL | apply zM | apply zN)); exact HO378.out⟩, ⟨by (with_reducible repeat (first | apply zL | apply zM | apply zN)); exact HO385.out⟩, ⟨by (with_reducible repeat (first | apply zF | apply zH | apply zG)); exact Z0.out⟩, ⟨by (with_reducible repeat (first | apply zF | apply zH | apply zG)); exact Z1.out⟩, ⟨by (with_reducible repeat (first | apply zF | apply zH | apply zG)); exact Z2.out⟩, ⟨by repeat (first | (with_reducible first | exact HB.out | apply zJ | apply zD | apply zE | refine zI ?_ Z3.out | refine zI ?_ Z4.out | refine zI ?_ Z5.out) | exact HB.out)⟩⟩
        ·rw [if_neg c48] at H
         have c48b0 : (t389 == t401) = false := beq_eq_false_iff_ne.mpr c48
         have c48b1 : (t389 != t401) = true := bne_iff_ne.mpr c48
         (first | rw [c48b0] | (simp only [i64_w, i32_w]; rw [c48b0]) | skip)
         have H' := zK H
         clear H
         obtain ⟨Ao55, co55, eo55⟩ := Kd.R_slice HO388.out
         subst eo55
         obtain ⟨Ao56, co56, eo56⟩ := Kd.R_slice HO400.out
         subst eo56
         go_wp2_with (first | ((with_reducible refine gate_callee (f := 21) rfl ?_); refine goesL_ (some 49) rfl rfl Try.func21 (by kernel_rfl) rfl #[.slice Ao55 t386.length co55, .slice Ao56 t398.length co56] rfl (by (try simp only [yH, yI, yJ]); first | done | rfl | (simp only [yG, yF]; rfl)) ?_; (with_reducible refine (w22_same.calls k _ _ t386 _ _ t398 true _ ?side1 ?side2 ?side3 ?side4 A46.out).mono ?_); (case side1 => repeat (first | exact (yM HO388.out).2.2 | (with_reducible refine yS ?_ _) | (with_reducible refine yT ?_ _) | (with_reducible refine yU ?_))); (case side2 => exact (yM HO388.out).2.1); (case side3 => repeat (first | exact (yM HO400.out).2.2 | (with_reducible refine yS ?_ _) | (with_reducible refine yT ?_ _) | (with_reducible refine yU ?_))); (case side4 => exact (yM HO400.out).2.1); rintro e w' ⟨rfl, ⟨nd, rfl⟩⟩; refine ⟨_, rfl, ?_⟩))
         go_meet
         case rel => exact ⟨_, (true), (by first | rfl | (simp; done) | (simp [*]; done)), H', ⟨by first | omega | exact yN _⟩, ⟨by (with_reducible repeat (first | apply zL | apply zM | apply zN)); exact HO378.out⟩, ⟨by (with_reducible repeat (first | apply zL | apply zM | apply zN)); exact HO385.out⟩, ⟨by (with_reducible repeat (first | apply zF | apply zH | apply zG)); exact Z0.out⟩, ⟨by (with_reducible repeat (first | apply zF | apply zH | apply zG)); exact Z1.out⟩, ⟨by (with_reducible repeat (first | apply zF | apply zH | apply zG)); exact Z2.out⟩, ⟨by repeat (first | (with_reducible first | exact HB.out | apply zJ | apply zD | apply zE | refine zI ?_ Z3.out | refine zI ?_ Z4.out | refine zI ?_ Z5.out) | exact HB.out)⟩⟩
       ·replace c47 := yh.mpr c47
        subst c47
        have H1 : (w22_DistWeights.j0 k y376 true l0_0 l0_1 a1_0 a1_1 a1_2 a1_3 a1_4 l1_5 a1_0 a1_1 a1_2 a1_3 a1_4 y383) = some r := by rw [if_neg (show ¬ (false = true) by decide)] at H; exact H
        clear H
        have H := H1
        clear H1
        have H' := zK H
        clear H
        obtain ⟨Ao57, co57, eo57⟩ := Kd.R_slice HO388.out
        subst eo57
        obtain ⟨Ao58, co58, eo58⟩ := Kd.R_slice HO400.out
        subst eo58
        go_wp2_with (first | ((with_reducible refine gate_callee (f := 21) rfl ?_); refine goesL_ (some 49) rfl rfl Try.func21 (by kernel_rfl) rfl #[.slice Ao57 t386.length co57, .slice Ao58 t398.length co58] rfl (by (try simp only [yH, yI, yJ]); first | done | rfl | (simp only [yG, yF]; rfl)) ?_; (with_reducible refine (w22_same.calls k _ _ t386 _ _ t398 false _ ?side1 ?side2 ?side3 ?side4 A46.out).mono ?_); (case side1 => repeat (first | exact (yM HO388.out).2.2 | (with_reducible refine yS ?_ _) | (with_reducible refine yT ?_ _) | (with_reducible refine yU ?_))); (case side2 => exact (yM HO388.out).2.1); (case side3 => repeat (first | exact (yM HO400.out).2.2 | (with_reducible refine yS ?_ _) | (with_reducible refine yT ?_ _) | (with_reducible refine yU ?_))); (case side4 => exact (yM HO400.out).2.1); rintro e w' ⟨rfl, ⟨nd, rfl⟩⟩; refine ⟨_, rfl, ?_⟩))
        go_meet
        case rel => exact ⟨_, (true), (by first | rfl | (simp; done) | (simp [*]; done)), H', ⟨by first | omega | exact yN _⟩, ⟨by (with_reducible repeat (first | apply zL | apply zM | apply zN)); exact HO378.out⟩, ⟨by (with_reducible repeat (first | apply zL | apply zM | apply zN)); exact HO385.out⟩, ⟨by (with_reducible repeat (first | apply zF | apply zH | apply zG)); exact Z0.out⟩, ⟨by (with_reducible repeat (first | apply zF | apply zH | apply zG)); exact Z1.out⟩, ⟨by (with_reducible repeat (first | apply zF | apply zH | apply zG)); exact Z2.out⟩, ⟨by repeat (first | (with_reducible first | exact HB.out | apply zJ | apply zD | apply zE | refine zI ?_ Z3.out | refine zI ?_ Z4.out | refine zI ?_ Z5.out) | exact HB.out)⟩⟩
      case rest =>
       clear HC11
       try clear c1
       try clear c2
       try clear p2
       try clear c3
       try clear c4
       try clear c5
       try clear c6
       try clear c7
       try clear c16
       try clear c19
       try clear c20
       try clear c21
       try clear c32
       try clear c33
       try clear c37
       try clear c47
       try clear c48
       try clear c48b0
       try clear c48b1
       try clear c52
       try clear c53
       try clear hcz34_0
       try clear hcz34_1
       try clear hcz34_2
       try clear hcz34_3
       try clear hcz34_4
       try clear hcz34_5
       try clear hcz38_0
       try clear hcz38_1
       try clear hcz38_2
       try clear hcz38_3
       try clear hcz38_4
       try clear hcz38_5
       try clear hcz54_0
       try clear hcz54_1
       try clear hfz34_0
       try clear hfz34_1
       try clear hfz34_2
       try clear hfz34_3
       try clear hfz34_4
       try clear hfz34_5
       try clear hfz38_0
       try clear hfz38_1
       try clear hfz38_2
       try clear hfz38_3
       try clear hfz38_4
       try clear hfz38_5
       try clear hfz54_0
       try clear hfz54_1
       obtain ⟨kq, x62_10, rfl, HA, HJ10, HO_6, HO_380005, Z0, Z1, Z2, HB⟩ := hcut
       cases kq with
       | zero => exact absurd HA.out (by simp [w22_DistWeights.j0])
       | succ kj10 =>
        have H := HA.out
        clear HA
        simp only [w22_DistWeights.j0] at H
        by_cases c59 : x62_10 = true
        ·subst c59
         have H1 : (some false) = some r := by rw [if_pos rfl] at H; exact H
         clear H
         have H := H1
         clear H1
         obtain rfl := yY H
         go_wp2
         go_ret
         exact ⟨by first | rfl | (simp [errW_none, errW_some] <;> rfl) | (simp [*, errW_none, errW_some] <;> rfl), by repeat (first | (with_reducible first | exact HB.out | apply zJ | apply zD | apply zE | refine zI ?_ Z3.out | refine zI ?_ Z4.out | refine zI ?_ Z5.out) | exact HB.out)⟩
        ·replace c59 := yh.mpr c59
         subst c59
         have H1 : (w22_DistWeights.l0 kj10 y376 (y376.length : Int) 0 l0_0 l0_1 a1_0 a1_1 a1_2 a1_3 a1_4 l1_5 a1_0 a1_1 a1_2 a1_3 a1_4 y383) = some r := by rw [if_neg (show ¬ (false = true) by decide)] at H; exact H
         clear H
         have H := H1
         clear H1
         have H' := zK H
         clear H
         go_wp2
         go_loopg [65] kj10 (fun kq v65 w' => ∃ (x65_2 : Int), v65 = .int .i64 x65_2 /\ Aside0 (w22_DistWeights.l0 kq y376 (y376.length : Int) x65_2 l0_0 l0_1 a1_0 a1_1 a1_2 a1_3 a1_4 l1_5 a1_0 a1_1 a1_2 a1_3 a1_4 y383 = some r) /\ Aside0 (kq <= kj10) /\ Aside0 (Kd.R Kd.bool 4 w' w.heap.size (fun _ => True) (.slice Ao40 y376.length co40) y376) /\ Aside0 (Kd.R k46 46 w' w.heap.size (fun _ => True) (.slice Ao36 y383.length co36) y383) /\ Aside0 (w'.heap[Z15]? = some (.cells #[(.slice A0_0 l0_0.length c0_0), (.slice A0_1 l0_1.length c0_1)] 39 (0, 0))) /\ Aside0 (w'.heap[Z16]? = some (.cells #[.int .i64 a1_0, .int .i64 a1_1, .int .i64 a1_2, .int .i64 a1_3, .int .i64 a1_4, (.slice A1_5 l1_5.length c1_5)] 24 (0, 0))) /\ Aside0 (w'.heap[Z17]? = some (.cells #[.int .i64 a1_0, .int .i64 a1_1, .int .i64 a1_2, .int .i64 a1_3, .int .i64 a1_4, (.slice Ao36 y383.length co36)] 24 (0, 0))) /\ Aside0 (Below w.heap.size w w'))
         case atStart => exact ⟨(0), (by first | rfl | (simp; done) | (simp [*]; done)), H', ⟨yN _⟩, ⟨by (with_reducible repeat (first | apply zL | apply zM | apply zN)); exact HO_6.out⟩, ⟨by (with_reducible repeat (first | apply zL | apply zM | apply zN)); exact HO_380005.out⟩, ⟨by (with_reducible repeat (first | apply zF | apply zH | apply zG)); exact Z0.out⟩, ⟨by (with_reducible repeat (first | apply zF | apply zH | apply zG)); exact Z1.out⟩, ⟨by (with_reducible repeat (first | apply zF | apply zH | apply zG)); exact Z2.out⟩, ⟨by repeat (first | (with_reducible first | exact HB.out | apply zJ | apply zD | apply zE | refine zI ?_ Z3.out | refine zI ?_ Z4.out | refine zI ?_ Z5.out) | exact HB.out)⟩⟩
         case round =>
          clear H'
          try clear c1
          try clear c2
          try clear p2
          try clear c3
          try clear c4
          try clear c5
          try clear c6
          try clear c7
          try clear c16
          try clear c19
          try clear c20
          try clear c21
          try clear c32
          try clear c33
          try clear c37
          try clear c47
          try clear c48
          try clear c48b0
          try clear c48b1
          try clear c52
          try clear c53
          try clear c59
          try clear hcz34_0
          try clear hcz34_1
          try clear hcz34_2
          try clear hcz34_3
          try clear hcz34_4
          try clear hcz34_5
          try clear hcz38_0
          try clear hcz38_1
          try clear hcz38_2
          try clear hcz38_3
          try clear hcz38_4
          try clear hcz38_5
          try clear hcz54_0
          try clear hcz54_1
          try clear hfz34_0
          try clear hfz34_1
          try clear hfz34_2
          try clear hfz34_3
          try clear hfz34_4
          try clear hfz34_5
          try clear hfz38_0
          try clear hfz38_1
          try clear hfz38_2
          try clear hfz38_3
          try clear hfz38_4
          try clear hfz38_5
          try clear hfz54_0
          try clear hfz54_1
          try clear p2
          obtain ⟨x65_2, rfl, HA, HK2, HO_6, HO_380005, Z0, Z1, Z2, HB⟩ := hrel
          cases gk with
          | zero => exact absurd HA.out (by simp [w22_DistWeights.l0])
          | succ k2 =>
           have H := HA.out
           clear HA
           simp only [w22_DistWeights.l0] at H
           by_cases c60 : x65_2 < (y376.length : Int)
           ·rw [if_pos c60] at H
            have c60b0 : decide (x65_2 < (y376.length : Int)) = true := yC c60
            clear c60
            by_cases c61 : 0 <= x65_2
            ·rw [if_pos c61] at H
             have c61b0 : decide (0 <= x65_2) = true := yC c61
             clear c61
             by_cases c62 : x65_2 < (y376.length : Int)
             ·rw [if_pos c62] at H
              have c62b0 : decide (x65_2 < (y376.length : Int)) = true := yC c62
              clear c62
              by_cases c63 : x65_2 < (l0_1.length : Int)
              ·rw [if_pos c63] at H
               have c63b0 : decide (x65_2 < (l0_1.length : Int)) = true := yC c63
               clear c63
               by_cases c64 : ((rdOf false y376 x65_2) != (rdOf false l0_1 x65_2)) = true
               ·rw [if_pos c64] at H
                have c64b0 : ((rdOf false y376 x65_2) != (rdOf false l0_1 x65_2)) = true := c64
                (try (have c64b1 : decide ((rdOf false y376 x65_2) = (rdOf false l0_1 x65_2)) = false := by simpa using c64))
                (try (have c64b2 : ((rdOf false y376 x65_2) == (rdOf false l0_1 x65_2)) = false := by simpa using c64))
                (try (have c64b3 : ¬ ((rdOf false y376 x65_2) = (rdOf false l0_1 x65_2)) := by simpa using c64))
                clear c64
                obtain rfl := yY H
                try go_wp2
                have n0_ := zK (zN HO_6.out)
                have n1_ := zK (zN HO_380005.out)
                have n2_ := zK (zH Z0.out)
                have n3_ := zK (zH Z1.out)
                have n4_ := zK (zH Z2.out)
                have n5_ := zK (zE HB.out)
                clear HO_6 HO_380005 Z0 Z1 Z2 HB
                have HO_6 := n0_; have HO_380005 := n1_; have Z0 := n2_; have Z1 := n3_; have Z2 := n4_; have HB := n5_
                clear n0_ n1_ n2_ n3_ n4_ n5_
                have p404 : 0 <= (x65_2 : Int) := yB (by first | (with_reducible assumption) | assumption)
                have q404 : x65_2 < (y376.length : Int) := yB (by first | (with_reducible assumption) | assumption)
                obtain ⟨ad404, e404, hx404_0⟩ := Kd.at_bool (yM HO_6.out).2.2 x65_2 p404 q404
                cases e404
                replace p404 := yg p404
                replace q404 := yg q404
                have p405 : 0 <= (x65_2 : Int) := yB (by first | (with_reducible assumption) | assumption)
                have q405 : x65_2 < (l0_1.length : Int) := yB (by first | (with_reducible assumption) | assumption)
                obtain ⟨ad405, e405, hx405_0⟩ := Kd.at_bool HR0_1.out x65_2 p405 q405
                have hw405_0 := hx405_0
                cases e405
                replace hx405_0 := (HB.out.cell (World.block_lt_of_cell? w _ hx405_0)).trans hx405_0
                replace p405 := yg p405
                replace q405 := yg q405
                refine start_ (n := 10) (S := fun w' => w'.cell? ⟨Z15, 0, none⟩ = some (.slice A0_0 l0_0.length c0_0) /\ w'.cell? ⟨Z15, 1, none⟩ = some (.slice (some ad405) l0_1.length c0_1) /\ w'.cell? (ad404.add (x65_2).toNat) = some (.bool (rdOf false y376 x65_2)) /\ w'.cell? (ad405.add (x65_2).toNat) = some (.bool (rdOf false l0_1 x65_2))) (ds := []) #[false, false, false, false, false, false, false, false, false, false] (by kernel_rfl) rfl rfl ⟨(zO Z0.out 0).trans rfl, (zO Z0.out 1).trans rfl, hx404_0, ((HB.out.cell (World.block_lt_of_cell? w _ hw405_0)).trans hw405_0)⟩ (fun hHeld => ?_); refine with_tabW w22_DistWeights.tab12 w22_DistWeights.bits12 (fun HT_ HW_ => ?_)
                generalize wr.drew = w65 at HO_6 HO_380005 Z0 Z1 Z2 HB hx404_0 hx405_0 hHeld ⊢
                refine pure_ (i := 0) (N := some 68) (v := ?_) (a' := ?_) #[true, false, false, false, false, false, false, false, false, false] rfl rfl (any_of HT_.out (by kernel_rfl)) (fun _ _ _ h => h) (Or.inl ⟨by rfl, ?_⟩) ?_ ?_
                rotate_left
                ·intro w'
                 go_simp
                 with_reducible rfl
                rotate_left
                ·simp only [Act.put, zA, zB, zC, i64_w, i32_w]
                 rfl
                refine pure_ (i := 1) (N := some 69) (v := ?_) (a' := ?_) #[true, true, false, false, false, false, false, false, false, false] rfl rfl (any_of HT_.out (by kernel_rfl)) (fun _ _ _ h => h) (Or.inl ⟨by rfl, ?_⟩) ?_ ?_
                rotate_left
                ·intro w'
                 go_simp
                 with_reducible rfl
                rotate_left
                ·simp only [Act.put, zA, zB, zC, i64_w, i32_w]
                 rfl
                refine pure_ (i := 2) (N := some 70) (v := ?_) (a' := ?_) #[true, true, true, false, false, false, false, false, false, false] rfl rfl (any_of HT_.out (by kernel_rfl)) (fun _ _ _ h => h) (Or.inl ⟨by rfl, ?_⟩) ?_ ?_
                rotate_left
                ·intro w'
                 go_simp
                 with_reducible rfl
                rotate_left
                ·simp only [Act.put, zA, zB, zC, i64_w, i32_w]
                 rfl
                refine pure_ (i := 4) (N := some 72) (v := ?_) (a' := ?_) #[true, true, true, false, true, false, false, false, false, false] rfl rfl (any_of HT_.out (by kernel_rfl)) (fun _ _ _ h => h) (Or.inl ⟨by rfl, ?_⟩) ?_ ?_
                rotate_left
                ·intro w'
                 go_simp
                 with_reducible rfl
                rotate_left
                ·simp only [Act.put, zA, zB, zC, i64_w, i32_w]
                 rfl
                refine pure_ (i := 6) (N := some 74) (v := ?_) (a' := ?_) #[true, true, true, false, true, false, true, false, false, false] rfl rfl (any_of HT_.out (by kernel_rfl)) (fun _ _ _ h => h) (Or.inl ⟨by rfl, ?_⟩) ?_ ?_
                rotate_left
                ·intro w'
                 go_simp
                 with_reducible rfl
                rotate_left
                ·simp only [Act.put, zA, zB, zC, i64_w, i32_w]
                 rfl
                refine take_ (i := 3) (N := some 71) (v := ?_) (a' := ?_) #[true, true, true, true, true, false, true, false, false, false] rfl rfl (take_ofW HT_.out HW_.out (by kernel_rfl)) (fun _ _ _ h => h) (Or.inl ⟨by rfl, ?_⟩) hHeld ?_ ?_
                rotate_left
                ·rintro w' ⟨s0, s1, s2, s3⟩
                 go_simp
                 with_reducible rfl
                rotate_left
                ·simp only [Act.put, zA, zB, zC, i64_w, i32_w]
                 rfl
                refine take_ (i := 5) (N := some 73) (v := ?_) (a' := ?_) #[true, true, true, true, true, true, true, false, false, false] rfl rfl (take_ofW HT_.out HW_.out (by kernel_rfl)) (fun _ _ _ h => h) (Or.inl ⟨by rfl, ?_⟩) hHeld ?_ ?_
                rotate_left
                ·rintro w' ⟨s0, s1, s2, s3⟩
                 go_simp
                 with_reducible rfl
                rotate_left
                ·simp only [Act.put, zA, zB, zC, i64_w, i32_w]
                 rfl
                refine pure_ (i := 7) (N := some 75) (v := ?_) (a' := ?_) #[true, true, true, true, true, true, true, true, false, false] rfl rfl (any_of HT_.out (by kernel_rfl)) (fun _ _ _ h => h) (Or.inl ⟨by rfl, ?_⟩) ?_ ?_
                rotate_left
                ·intro w'
                 go_simp
                 with_reducible rfl
                rotate_left
                ·simp only [Act.put, zA, zB, zC, i64_w, i32_w]
                 rfl
                refine take_ (i := 8) (N := some 76) (v := ?_) (a' := ?_) #[true, true, true, true, true, true, true, true, true, false] rfl rfl (take_ofW HT_.out HW_.out (by kernel_rfl)) (fun _ _ _ h => h) (Or.inl ⟨by rfl, ?_⟩) hHeld ?_ ?_
                rotate_left
                ·rintro w' ⟨s0, s1, s2, s3⟩
                 go_simp
                 with_reducible rfl
                rotate_left
                ·simp only [Act.put, zA, zB, zC, i64_w, i32_w]
                 rfl
                refine pure_ (i := 9) (N := some 77) (v := ?_) (a' := ?_) #[true, true, true, true, true, true, true, true, true, true] rfl rfl (any_of HT_.out (by kernel_rfl)) (fun _ _ _ h => h) (Or.inl ⟨by rfl, ?_⟩) ?_ ?_
                rotate_left
                ·intro w'
                 go_simp
                 with_reducible rfl
                rotate_left
                ·simp only [Act.put, zA, zB, zC, i64_w, i32_w]
                 rfl
                refine done_ (done_of HT_.out (by kernel_rfl)) ?_
                try go_wp2
                go_ret
                exact ⟨by first | rfl | (simp [errW_none, errW_some] <;> rfl) | (simp [*, errW_none, errW_some] <;> rfl), by repeat (first | (with_reducible first | exact HB.out | apply zJ | apply zD | apply zE | refine zI ?_ Z3.out | refine zI ?_ Z4.out | refine zI ?_ Z5.out) | exact HB.out)⟩
               ·rw [if_neg c64] at H
                have c64b0 : ((rdOf false y376 x65_2) != (rdOf false l0_1 x65_2)) = false := by simpa using c64
                (try (have c64b1 : decide ((rdOf false y376 x65_2) = (rdOf false l0_1 x65_2)) = true := by simpa using c64))
                (try (have c64b2 : ((rdOf false y376 x65_2) == (rdOf false l0_1 x65_2)) = true := by simpa using c64))
                clear c64
                have H' := zK H
                clear H
                try go_wp2
                have n0_ := zK (zN HO_6.out)
                have n1_ := zK (zN HO_380005.out)
                have n2_ := zK (zH Z0.out)
                have n3_ := zK (zH Z1.out)
                have n4_ := zK (zH Z2.out)
                have n5_ := zK (zE HB.out)
                clear HO_6 HO_380005 Z0 Z1 Z2 HB
                have HO_6 := n0_; have HO_380005 := n1_; have Z0 := n2_; have Z1 := n3_; have Z2 := n4_; have HB := n5_
                clear n0_ n1_ n2_ n3_ n4_ n5_
                have p404 : 0 <= (x65_2 : Int) := yB (by first | (with_reducible assumption) | assumption)
                have q404 : x65_2 < (y376.length : Int) := yB (by first | (with_reducible assumption) | assumption)
                obtain ⟨ad404, e404, hx404_0⟩ := Kd.at_bool (yM HO_6.out).2.2 x65_2 p404 q404
                cases e404
                replace p404 := yg p404
                replace q404 := yg q404
                have p405 : 0 <= (x65_2 : Int) := yB (by first | (with_reducible assumption) | assumption)
                have q405 : x65_2 < (l0_1.length : Int) := yB (by first | (with_reducible assumption) | assumption)
                obtain ⟨ad405, e405, hx405_0⟩ := Kd.at_bool HR0_1.out x65_2 p405 q405
                have hw405_0 := hx405_0
                cases e405
                replace hx405_0 := (HB.out.cell (World.block_lt_of_cell? w _ hx405_0)).trans hx405_0
                replace p405 := yg p405
                replace q405 := yg q405
                refine start_ (n := 10) (S := fun w' => w'.cell? ⟨Z15, 0, none⟩ = some (.slice A0_0 l0_0.length c0_0) /\ w'.cell? ⟨Z15, 1, none⟩ = some (.slice (some ad405) l0_1.length c0_1) /\ w'.cell? (ad404.add (x65_2).toNat) = some (.bool (rdOf false y376 x65_2)) /\ w'.cell? (ad405.add (x65_2).toNat) = some (.bool (rdOf false l0_1 x65_2))) (ds := []) #[false, false, false, false, false, false, false, false, false, false] (by kernel_rfl) rfl rfl ⟨(zO Z0.out 0).trans rfl, (zO Z0.out 1).trans rfl, hx404_0, ((HB.out.cell (World.block_lt_of_cell? w _ hw405_0)).trans hw405_0)⟩ (fun hHeld => ?_); refine with_tabW w22_DistWeights.tab12 w22_DistWeights.bits12 (fun HT_ HW_ => ?_)
                generalize wr.drew = w66 at HO_6 HO_380005 Z0 Z1 Z2 HB hx404_0 hx405_0 hHeld ⊢
                refine pure_ (i := 0) (N := some 68) (v := ?_) (a' := ?_) #[true, false, false, false, false, false, false, false, false, false] rfl rfl (any_of HT_.out (by kernel_rfl)) (fun _ _ _ h => h) (Or.inl ⟨by rfl, ?_⟩) ?_ ?_
                rotate_left
                ·intro w'
                 go_simp
                 with_reducible rfl
                rotate_left
                ·simp only [Act.put, zA, zB, zC, i64_w, i32_w]
                 rfl
                refine pure_ (i := 1) (N := some 69) (v := ?_) (a' := ?_) #[true, true, false, false, false, false, false, false, false, false] rfl rfl (any_of HT_.out (by kernel_rfl)) (fun _ _ _ h => h) (Or.inl ⟨by rfl, ?_⟩) ?_ ?_
                rotate_left
                ·intro w'
                 go_simp
                 with_reducible rfl
                rotate_left
                ·simp only [Act.put, zA, zB, zC, i64_w, i32_w]
                 rfl
                refine pure_ (i := 2) (N := some 70) (v := ?_) (a' := ?_) #[true, true, true, false, false, false, false, false, false, false] rfl rfl (any_of HT_.out (by kernel_rfl)) (fun _ _ _ h => h) (Or.inl ⟨by rfl, ?_⟩) ?_ ?_
                rotate_left
                ·intro w'
                 go_simp
                 with_reducible rfl
                rotate_left
                ·simp only [Act.put, zA, zB, zC, i64_w, i32_w]
                 rfl
                refine pure_ (i := 4) (N := some 72) (v := ?_) (a' := ?_) #[true, true, true, false, true, false, false, false, false, false] rfl rfl (any_of HT_.out (by kernel_rfl)) (fun _ _ _ h => h) (Or.inl ⟨by rfl, ?_⟩) ?_ ?_
                rotate_left
                ·intro w'
                 go_simp
                 with_reducible rfl
                rotate_left
                ·simp only [Act.put, zA, zB, zC, i64_w, i32_w]
                 rfl
                refine pure_ (i := 6) (N := some 74) (v := ?_) (a' := ?_) #[true, true, true, false, true, false, true, false, false, false] rfl rfl (any_of HT_.out (by kernel_rfl)) (fun _ _ _ h => h) (Or.inl ⟨by rfl, ?_⟩) ?_ ?_
                rotate_left
                ·intro w'
                 go_simp
                 with_reducible rfl
                rotate_left
                ·simp only [Act.put, zA, zB, zC, i64_w, i32_w]
                 rfl
                refine take_ (i := 3) (N := some 71) (v := ?_) (a' := ?_) #[true, true, true, true, true, false, true, false, false, false] rfl rfl (take_ofW HT_.out HW_.out (by kernel_rfl)) (fun _ _ _ h => h) (Or.inl ⟨by rfl, ?_⟩) hHeld ?_ ?_
                rotate_left
                ·rintro w' ⟨s0, s1, s2, s3⟩
                 go_simp
                 with_reducible rfl
                rotate_left
                ·simp only [Act.put, zA, zB, zC, i64_w, i32_w]
                 rfl
                refine take_ (i := 5) (N := some 73) (v := ?_) (a' := ?_) #[true, true, true, true, true, true, true, false, false, false] rfl rfl (take_ofW HT_.out HW_.out (by kernel_rfl)) (fun _ _ _ h => h) (Or.inl ⟨by rfl, ?_⟩) hHeld ?_ ?_
                rotate_left
                ·rintro w' ⟨s0, s1, s2, s3⟩
                 go_simp
                 with_reducible rfl
                rotate_left
                ·simp only [Act.put, zA, zB, zC, i64_w, i32_w]
                 rfl
                refine pure_ (i := 7) (N := some 75) (v := ?_) (a' := ?_) #[true, true, true, true, true, true, true, true, false, false] rfl rfl (any_of HT_.out (by kernel_rfl)) (fun _ _ _ h => h) (Or.inl ⟨by rfl, ?_⟩) ?_ ?_
                rotate_left
                ·intro w'
                 go_simp
                 with_reducible rfl
                rotate_left
                ·simp only [Act.put, zA, zB, zC, i64_w, i32_w]
                 rfl
                refine take_ (i := 8) (N := some 76) (v := ?_) (a' := ?_) #[true, true, true, true, true, true, true, true, true, false] rfl rfl (take_ofW HT_.out HW_.out (by kernel_rfl)) (fun _ _ _ h => h) (Or.inl ⟨by rfl, ?_⟩) hHeld ?_ ?_
                rotate_left
                ·rintro w' ⟨s0, s1, s2, s3⟩
                 go_simp
                 with_reducible rfl
                rotate_left
                ·simp only [Act.put, zA, zB, zC, i64_w, i32_w]
                 rfl
                refine pure_ (i := 9) (N := some 77) (v := ?_) (a' := ?_) #[true, true, true, true, true, true, true, true, true, true] rfl rfl (any_of HT_.out (by kernel_rfl)) (fun _ _ _ h => h) (Or.inl ⟨by rfl, ?_⟩) ?_ ?_
                rotate_left
                ·intro w'
                 go_simp
                 with_reducible rfl
                rotate_left
                ·simp only [Act.put, zA, zB, zC, i64_w, i32_w]
                 rfl
                refine done_ (done_of HT_.out (by kernel_rfl)) ?_
                try go_wp2
                go_roundg k2
                case measure => have := HJ10.out; have := HK2.out; omega
                case rel => exact ⟨(wrap64 (x65_2 + 1)), (by first | rfl | (simp; done) | (simp [*]; done)), H', ⟨by have := HJ10.out; have := HK2.out; omega⟩, ⟨by (with_reducible repeat (first | apply zL | apply zM | apply zN)); exact HO_6.out⟩, ⟨by (with_reducible repeat (first | apply zL | apply zM | apply zN)); exact HO_380005.out⟩, ⟨by (with_reducible repeat (first | apply zF | apply zH | apply zG)); exact Z0.out⟩, ⟨by (with_reducible repeat (first | apply zF | apply zH | apply zG)); exact Z1.out⟩, ⟨by (with_reducible repeat (first | apply zF | apply zH | apply zG)); exact Z2.out⟩, ⟨by repeat (first | (with_reducible first | exact HB.out | apply zJ | apply zD | apply zE | refine zI ?_ Z3.out | refine zI ?_ Z4.out | refine zI ?_ Z5.out) | exact HB.out)⟩⟩
              ·rw [if_neg c63] at H
               exact absurd H (by simp)
             ·rw [if_neg c62] at H
              exact absurd H (by simp)
            ·rw [if_neg c61] at H
             exact absurd H (by simp)
           ·rw [if_neg c60] at H
            have c60b0 : decide (x65_2 < (y376.length : Int)) = false := yD c60
            clear c60
            have H' := zK H
            clear H
            have hnb67 := Z13.out
            have hnc67 := Z10.out
            have hnb68 := Z14.out
            have hnc68 := Z12.out
            have hcz69_0 : wr.cell? ⟨Z17, 0, none⟩ = some (.int .i64 a1_0) := (zO Z2.out 0).trans rfl
            have hcz69_1 : wr.cell? ⟨Z17, 1, none⟩ = some (.int .i64 a1_1) := (zO Z2.out 1).trans rfl
            have hcz69_2 : wr.cell? ⟨Z17, 2, none⟩ = some (.int .i64 a1_2) := (zO Z2.out 2).trans rfl
            have hcz69_3 : wr.cell? ⟨Z17, 3, none⟩ = some (.int .i64 a1_3) := (zO Z2.out 3).trans rfl
            have hcz69_4 : wr.cell? ⟨Z17, 4, none⟩ = some (.int .i64 a1_4) := (zO Z2.out 4).trans rfl
            have hcz69_5 : wr.cell? ⟨Z17, 5, none⟩ = some (.slice Ao36 y383.length co36) := (zO Z2.out 5).trans rfl
            have hfz69_0 := yE Z2.out 0
            have hfz69_1 := yE Z2.out 1
            have hfz69_2 := yE Z2.out 2
            have hfz69_3 := yE Z2.out 3
            have hfz69_4 := yE Z2.out 4
            have hfz69_5 := yE Z2.out 5
            go_wp2
            go_loopg [82] k2 (fun kq v82 w' => ∃ (x82_3 : Int), v82 = .int .i64 x82_3 /\ Aside0 (w22_DistWeights.l1 kq (y383.length : Int) x82_3 a1_0 a1_1 a1_2 a1_3 a1_4 l1_5 a1_0 a1_1 a1_2 a1_3 a1_4 y383 = some r) /\ Aside0 (kq <= k2) /\ Aside0 (Kd.R k46 46 w' w.heap.size (fun _ => True) (.slice Ao36 y383.length co36) y383) /\ Aside0 (w'.heap[Z15]? = some (.cells #[(.slice A0_0 l0_0.length c0_0), (.slice A0_1 l0_1.length c0_1)] 39 (0, 0))) /\ Aside0 (w'.heap[Z16]? = some (.cells #[.int .i64 a1_0, .int .i64 a1_1, .int .i64 a1_2, .int .i64 a1_3, .int .i64 a1_4, (.slice A1_5 l1_5.length c1_5)] 24 (0, 0))) /\ Aside0 (w'.heap[Z17]? = some (.cells #[.int .i64 a1_0, .int .i64 a1_1, .int .i64 a1_2, .int .i64 a1_3, .int .i64 a1_4, (.slice Ao36 y383.length co36)] 24 (0, 0))) /\ Aside0 (Below w.heap.size w w'))
            case atStart => exact ⟨(0), (by first | rfl | (simp; done) | (simp [*]; done)), H', ⟨yN _⟩, ⟨by (with_reducible repeat (first | apply zL | apply zM | apply zN)); exact HO_380005.out⟩, ⟨by (with_reducible repeat (first | apply zF | apply zH | apply zG)); exact Z0.out⟩, ⟨by (with_reducible repeat (first | apply zF | apply zH | apply zG)); exact Z1.out⟩, ⟨by (with_reducible repeat (first | apply zF | apply zH | apply zG)); exact Z2.out⟩, ⟨by repeat (first | (with_reducible first | exact HB.out | apply zJ | apply zD | apply zE | refine zI ?_ Z3.out | refine zI ?_ Z4.out | refine zI ?_ Z5.out) | exact HB.out)⟩⟩
            case round =>
             clear H'
             try clear c1
             try clear c2
             try clear p2
             try clear c3
             try clear c4
             try clear p4
             try clear q4
             try clear hx4
             try clear c5
             try clear c6
             try clear p6
             try clear c7
             try clear c16
             try clear c19
             try clear c20
             try clear c21
             try clear c32
             try clear c33
             try clear c37
             try clear p40
             try clear q40
             try clear hx40
             try clear c47
             try clear c48
             try clear c48b0
             try clear c48b1
             try clear c52
             try clear c53
             try clear c59
             try clear c60
             try clear c60b0
             try clear c61
             try clear c61b0
             try clear c62
             try clear c62b0
             try clear c63
             try clear c63b0
             try clear c64
             try clear c64b0
             try clear c64b1
             try clear c64b2
             try clear p64
             try clear c67
             try clear c68
             try clear hcz34_0
             try clear hcz34_1
             try clear hcz34_2
             try clear hcz34_3
             try clear hcz34_4
             try clear hcz34_5
             try clear hcz38_0
             try clear hcz38_1
             try clear hcz38_2
             try clear hcz38_3
             try clear hcz38_4
             try clear hcz38_5
             try clear hcz54_0
             try clear hcz54_1
             try clear hcz69_0
             try clear hcz69_1
             try clear hcz69_2
             try clear hcz69_3
             try clear hcz69_4
             try clear hcz69_5
             try clear hfz34_0
             try clear hfz34_1
             try clear hfz34_2
             try clear hfz34_3
             try clear hfz34_4
             try clear hfz34_5
             try clear hfz38_0
             try clear hfz38_1
             try clear hfz38_2
             try clear hfz38_3
             try clear hfz38_4
             try clear hfz38_5
             try clear hfz54_0
             try clear hfz54_1
             try clear hfz69_0
             try clear hfz69_1
             try clear hfz69_2
             try clear hfz69_3
             try clear hfz69_4
             try clear hfz69_5
             try clear hx404_0
             try clear hx405_0
             try clear p2
             try clear p404
             try clear p405
             try clear q404
             try clear q405
             obtain ⟨x82_3, rfl, HA, HK3, HO_380005, Z0, Z1, Z2, HB⟩ := hrel
             cases gk with
             | zero => exact absurd HA.out (by simp [w22_DistWeights.l1])
             | succ k3 =>
              have H := HA.out
              clear HA
              simp only [w22_DistWeights.l1] at H
              by_cases c70 : x82_3 < (y383.length : Int)
              ·rw [if_pos c70] at H
               have c70b0 : decide (x82_3 < (y383.length : Int)) = true := yC c70
               clear c70
               by_cases c71 : 0 <= x82_3
               ·rw [if_pos c71] at H
                have c71b0 : decide (0 <= x82_3) = true := yC c71
                clear c71
                by_cases c72 : x82_3 < (y383.length : Int)
                ·rw [if_pos c72] at H
                 have c72b0 : decide (x82_3 < (y383.length : Int)) = true := yC c72
                 clear c72
                 by_cases c73 : x82_3 < (l1_5.length : Int)
                 ·rw [if_pos c73] at H
                  have c73b0 : decide (x82_3 < (l1_5.length : Int)) = true := yC c73
                  clear c73
                  by_cases c74 : (!(((rd_T46 y383 x82_3).f0) == ((rd_T46 l1_5 x82_3).f0)) || (!(((rd_T46 y383 x82_3).f1) == ((rd_T46 l1_5 x82_3).f1)))) = true
                  ·rw [if_pos c74] at H
                   have c74b0 : (!(((rd_T46 y383 x82_3).f0) == ((rd_T46 l1_5 x82_3).f0)) || (!(((rd_T46 y383 x82_3).f1) == ((rd_T46 l1_5 x82_3).f1)))) = true := c74
                   clear c74
                   obtain rfl := yY H
                   try go_wp2
                   have n0_ := zK (zN HO_380005.out)
                   have n1_ := zK (zH Z0.out)
                   have n2_ := zK (zH Z1.out)
                   have n3_ := zK (zH Z2.out)
                   have n4_ := zK (zE HB.out)
                   clear HO_380005 Z0 Z1 Z2 HB
                   have HO_380005 := n0_; have Z0 := n1_; have Z1 := n2_; have Z2 := n3_; have HB := n4_
                   clear n0_ n1_ n2_ n3_ n4_
                   have p406 : 0 <= (x82_3 : Int) := yB (by first | (with_reducible assumption) | assumption)
                   have q406 : x82_3 < (y383.length : Int) := yB (by first | (with_reducible assumption) | assumption)
                   obtain ⟨ad406, e406, hx406_0, hx406_1⟩ := at_T46 (yM HO_380005.out).2.2 x82_3 p406 q406
                   cases e406
                   replace p406 := yg p406
                   replace q406 := yg q406
                   have p407 : 0 <= (x82_3 : Int) := yB (by first | (with_reducible assumption) | assumption)
                   have q407 : x82_3 < (l1_5.length : Int) := yB (by first | (with_reducible assumption) | assumption)
                   obtain ⟨ad407, e407, hx407_0, hx407_1⟩ := at_T46 HR1_5.out x82_3 p407 q407
                   have hw407_1 := hx407_1
                   have hw407_0 := hx407_0
                   cases e407
                   replace hx407_0 := (HB.out.cell (World.block_lt_of_cell? w _ hx407_0)).trans hx407_0
                   replace hx407_1 := (HB.out.cell (World.block_lt_of_cell? w _ hx407_1)).trans hx407_1
                   replace p407 := yg p407
                   replace q407 := yg q407
                   refine start_ (n := 11) (S := fun w' => w'.cell? ⟨Z17, 0, none⟩ = some (.int .i64 a1_0) /\ w'.cell? ⟨Z17, 1, none⟩ = some (.int .i64 a1_1) /\ w'.cell? ⟨Z17, 2, none⟩ = some (.int .i64 a1_2) /\ w'.cell? ⟨Z17, 3, none⟩ = some (.int .i64 a1_3) /\ w'.cell? ⟨Z17, 4, none⟩ = some (.int .i64 a1_4) /\ w'.cell? ⟨Z17, 5, none⟩ = some (.slice (some ad406) y383.length co36) /\ w'.cell? ⟨Z16, 0, none⟩ = some (.int .i64 a1_0) /\ w'.cell? ⟨Z16, 1, none⟩ = some (.int .i64 a1_1) /\ w'.cell? ⟨Z16, 2, none⟩ = some (.int .i64 a1_2) /\ w'.cell? ⟨Z16, 3, none⟩ = some (.int .i64 a1_3) /\ w'.cell? ⟨Z16, 4, none⟩ = some (.int .i64 a1_4) /\ w'.cell? ⟨Z16, 5, none⟩ = some (.slice (some ad407) l1_5.length c1_5) /\ w'.cell? (ad406.add ((x82_3).toNat * 2)) = some (.int .i64 ((rd_T46 y383 x82_3).f0)) /\ w'.cell? ⟨(ad406.add ((x82_3).toNat * 2)).block, (ad406.add ((x82_3).toNat * 2)).off + 1, none⟩ = some (.int .i64 ((rd_T46 y383 x82_3).f1)) /\ w'.cell? (ad407.add ((x82_3).toNat * 2)) = some (.int .i64 ((rd_T46 l1_5 x82_3).f0)) /\ w'.cell? ⟨(ad407.add ((x82_3).toNat * 2)).block, (ad407.add ((x82_3).toNat * 2)).off + 1, none⟩ = some (.int .i64 ((rd_T46 l1_5 x82_3).f1))) (ds := []) #[false, false, false, false, false, false, false, false, false, false, false] (by kernel_rfl) rfl rfl ⟨(zO Z2.out 0).trans rfl, (zO Z2.out 1).trans rfl, (zO Z2.out 2).trans rfl, (zO Z2.out 3).trans rfl, (zO Z2.out 4).trans rfl, (zO Z2.out 5).trans rfl, (zO Z1.out 0).trans rfl, (zO Z1.out 1).trans rfl, (zO Z1.out 2).trans rfl, (zO Z1.out 3).trans rfl, (zO Z1.out 4).trans rfl, (zO Z1.out 5).trans rfl, hx406_0, hx406_1, ((HB.out.cell (World.block_lt_of_cell? w _ hw407_0)).trans hw407_0), ((HB.out.cell (World.block_lt_of_cell? w _ hw407_1)).trans hw407_1)⟩ (fun hHeld => ?_); refine with_tabW w22_DistWeights.tab18 w22_DistWeights.bits18 (fun HT_ HW_ => ?_)
                   generalize wr.drew = w75 at HO_380005 Z0 Z1 Z2 HB hx406_0 hx406_1 hx407_0 hx407_1 hHeld ⊢
                   refine pure_ (i := 0) (N := some 85) (v := ?_) (a' := ?_) #[true, false, false, false, false, false, false, false, false, false, false] rfl rfl (any_of HT_.out (by kernel_rfl)) (fun _ _ _ h => h) (Or.inl ⟨by rfl, ?_⟩) ?_ ?_
                   rotate_left
                   ·intro w'
                    go_simp
                    with_reducible rfl
                   rotate_left
                   ·simp only [Act.put, zA, zB, zC, i64_w, i32_w]
                    rfl
                   refine pure_ (i := 2) (N := some 87) (v := ?_) (a' := ?_) #[true, false, true, false, false, false, false, false, false, false, false] rfl rfl (any_of HT_.out (by kernel_rfl)) (fun _ _ _ h => h) (Or.inl ⟨by rfl, ?_⟩) ?_ ?_
                   rotate_left
                   ·intro w'
                    go_simp
                    with_reducible rfl
                   rotate_left
                   ·simp only [Act.put, zA, zB, zC, i64_w, i32_w]
                    rfl
                   refine pure_ (i := 5) (N := some 90) (v := ?_) (a' := ?_) #[true, false, true, false, false, true, false, false, false, false, false] rfl rfl (any_of HT_.out (by kernel_rfl)) (fun _ _ _ h => h) (Or.inl ⟨by rfl, ?_⟩) ?_ ?_
                   rotate_left
                   ·intro w'
                    go_simp
                    with_reducible rfl
                   rotate_left
                   ·simp only [Act.put, zA, zB, zC, i64_w, i32_w]
                    rfl
                   refine pure_ (i := 7) (N := some 92) (v := ?_) (a' := ?_) #[true, false, true, false, false, true, false, true, false, false, false] rfl rfl (any_of HT_.out (by kernel_rfl)) (fun _ _ _ h => h) (Or.inl ⟨by rfl, ?_⟩) ?_ ?_
                   rotate_left
                   ·intro w'
                    go_simp
                    with_reducible rfl
                   rotate_left
                   ·simp only [Act.put, zA, zB, zC, i64_w, i32_w]
                    rfl
                   refine take_ (i := 1) (N := some 86) (v := ?_) (a' := ?_) #[true, true, true, false, false, true, false, true, false, false, false] rfl rfl (take_ofW HT_.out HW_.out (by kernel_rfl)) (fun _ _ _ h => h) (Or.inl ⟨by rfl, ?_⟩) hHeld ?_ ?_
                   rotate_left
                   ·rintro w' ⟨s0, s1, s2, s3, s4, s5, s6, s7, s8, s9, s10, s11, s12, s13, s14, s15⟩
                    go_simp
                    with_reducible rfl
                   rotate_left
                   ·simp only [Act.put, zA, zB, zC, i64_w, i32_w]
                    rfl
                   refine pure_ (i := 3) (N := some 88) (v := ?_) (a' := ?_) #[true, true, true, true, false, true, false, true, false, false, false] rfl rfl (any_of HT_.out (by kernel_rfl)) (fun _ _ _ h => h) (Or.inl ⟨by rfl, ?_⟩) ?_ ?_
                   rotate_left
                   ·intro w'
                    go_simp
                    with_reducible rfl
                   rotate_left
                   ·simp only [Act.put, zA, zB, zC, i64_w, i32_w]
                    rfl
                   refine take_ (i := 4) (N := some 89) (v := ?_) (a' := ?_) #[true, true, true, true, true, true, false, true, false, false, false] rfl rfl (take_ofW HT_.out HW_.out (by kernel_rfl)) (fun _ _ _ h => h) (Or.inl ⟨by rfl, ?_⟩) hHeld ?_ ?_
                   rotate_left
                   ·rintro w' ⟨s0, s1, s2, s3, s4, s5, s6, s7, s8, s9, s10, s11, s12, s13, s14, s15⟩
                    go_simp
                    with_reducible rfl
                   rotate_left
                   ·simp only [Act.put, zA, zB, zC, i64_w, i32_w]
                    rfl
                   refine take_ (i := 6) (N := some 91) (v := ?_) (a' := ?_) #[true, true, true, true, true, true, true, true, false, false, false] rfl rfl (take_ofW HT_.out HW_.out (by kernel_rfl)) (fun _ _ _ h => h) (Or.inl ⟨by rfl, ?_⟩) hHeld ?_ ?_
                   rotate_left
                   ·rintro w' ⟨s0, s1, s2, s3, s4, s5, s6, s7, s8, s9, s10, s11, s12, s13, s14, s15⟩
                    go_simp
                    with_reducible rfl
                   rotate_left
                   ·simp only [Act.put, zA, zB, zC, i64_w, i32_w]
                    rfl
                   refine pure_ (i := 8) (N := some 93) (v := ?_) (a' := ?_) #[true, true, true, true, true, true, true, true, true, false, false] rfl rfl (any_of HT_.out (by kernel_rfl)) (fun _ _ _ h => h) (Or.inl ⟨by rfl, ?_⟩) ?_ ?_
                   rotate_left
                   ·intro w'
                    go_simp
                    with_reducible rfl
                   rotate_left
                   ·simp only [Act.put, zA, zB, zC, i64_w, i32_w]
                    rfl
                   refine take_ (i := 9) (N := some 94) (v := ?_) (a' := ?_) #[true, true, true, true, true, true, true, true, true, true, false] rfl rfl (take_ofW HT_.out HW_.out (by kernel_rfl)) (fun _ _ _ h => h) (Or.inl ⟨by rfl, ?_⟩) hHeld ?_ ?_
                   rotate_left
                   ·rintro w' ⟨s0, s1, s2, s3, s4, s5, s6, s7, s8, s9, s10, s11, s12, s13, s14, s15⟩
                    go_simp
                    with_reducible rfl
                   rotate_left
                   ·simp only [Act.put, zA, zB, zC, i64_w, i32_w]
                    rfl
                   refine pure_ (i := 10) (N := some 95) (v := ?_) (a' := ?_) #[true, true, true, true, true, true, true, true, true, true, true] rfl rfl (any_of HT_.out (by kernel_rfl)) (fun _ _ _ h => h) (Or.inl ⟨by rfl, ?_⟩) ?_ ?_
                   rotate_left
                   ·intro w'
                    go_simp
                    with_reducible rfl
                   rotate_left
                   ·simp only [Act.put, zA, zB, zC, i64_w, i32_w]
                    rfl
                   refine done_ (done_of HT_.out (by kernel_rfl)) ?_
                   try go_wp2
                   go_ret
                   exact ⟨by first | rfl | (simp [errW_none, errW_some] <;> rfl) | (simp [*, errW_none, errW_some] <;> rfl), by repeat (first | (with_reducible first | exact HB.out | apply zJ | apply zD | apply zE | refine zI ?_ Z3.out | refine zI ?_ Z4.out | refine zI ?_ Z5.out) | exact HB.out)⟩
                  ·rw [if_neg c74] at H
                   have c74b0 : (!(((rd_T46 y383 x82_3).f0) == ((rd_T46 l1_5 x82_3).f0)) || (!(((rd_T46 y383 x82_3).f1) == ((rd_T46 l1_5 x82_3).f1)))) = false := by simpa using c74
                   clear c74
                   have H' := zK H
                   clear H
                   try go_wp2
                   have n0_ := zK (zN HO_380005.out)
                   have n1_ := zK (zH Z0.out)
                   have n2_ := zK (zH Z1.out)
                   have n3_ := zK (zH Z2.out)
                   have n4_ := zK (zE HB.out)
                   clear HO_380005 Z0 Z1 Z2 HB
                   have HO_380005 := n0_; have Z0 := n1_; have Z1 := n2_; have Z2 := n3_; have HB := n4_
                   clear n0_ n1_ n2_ n3_ n4_
                   have p406 : 0 <= (x82_3 : Int) := yB (by first | (with_reducible assumption) | assumption)
                   have q406 : x82_3 < (y383.length : Int) := yB (by first | (with_reducible assumption) | assumption)
                   obtain ⟨ad406, e406, hx406_0, hx406_1⟩ := at_T46 (yM HO_380005.out).2.2 x82_3 p406 q406
                   cases e406
                   replace p406 := yg p406
                   replace q406 := yg q406
                   have p407 : 0 <= (x82_3 : Int) := yB (by first | (with_reducible assumption) | assumption)
                   have q407 : x82_3 < (l1_5.length : Int) := yB (by first | (with_reducible assumption) | assumption)
                   obtain ⟨ad407, e407, hx407_0, hx407_1⟩ := at_T46 HR1_5.out x82_3 p407 q407
                   have hw407_1 := hx407_1
                   have hw407_0 := hx407_0
                   cases e407
                   replace hx407_0 := (HB.out.cell (World.block_lt_of_cell? w _ hx407_0)).trans hx407_0
                   replace hx407_1 := (HB.out.cell (World.block_lt_of_cell? w _ hx407_1)).trans hx407_1
                   replace p407 := yg p407
                   replace q407 := yg q407
                   refine start_ (n := 11) (S := fun w' => w'.cell? ⟨Z17, 0, none⟩ = some (.int .i64 a1_0) /\ w'.cell? ⟨Z17, 1, none⟩ = some (.int .i64 a1_1) /\ w'.cell? ⟨Z17, 2, none⟩ = some (.int .i64 a1_2) /\ w'.cell? ⟨Z17, 3, none⟩ = some (.int .i64 a1_3) /\ w'.cell? ⟨Z17, 4, none⟩ = some (.int .i64 a1_4) /\ w'.cell? ⟨Z17, 5, none⟩ = some (.slice (some ad406) y383.length co36) /\ w'.cell? ⟨Z16, 0, none⟩ = some (.int .i64 a1_0) /\ w'.cell? ⟨Z16, 1, none⟩ = some (.int .i64 a1_1) /\ w'.cell? ⟨Z16, 2, none⟩ = some (.int .i64 a1_2) /\ w'.cell? ⟨Z16, 3, none⟩ = some (.int .i64 a1_3) /\ w'.cell? ⟨Z16, 4, none⟩ = some (.int .i64 a1_4) /\ w'.cell? ⟨Z16, 5, none⟩ = some (.slice (some ad407) l1_5.length c1_5) /\ w'.cell? (ad406.add ((x82_3).toNat * 2)) = some (.int .i64 ((rd_T46 y383 x82_3).f0)) /\ w'.cell? ⟨(ad406.add ((x82_3).toNat * 2)).block, (ad406.add ((x82_3).toNat * 2)).off + 1, none⟩ = some (.int .i64 ((rd_T46 y383 x82_3).f1)) /\ w'.cell? (ad407.add ((x82_3).toNat * 2)) = some (.int .i64 ((rd_T46 l1_5 x82_3).f0)) /\ w'.cell? ⟨(ad407.add ((x82_3).toNat * 2)).block, (ad407.add ((x82_3).toNat * 2)).off + 1, none⟩ = some (.int .i64 ((rd_T46 l1_5 x82_3).f1))) (ds := []) #[false, false, false, false, false, false, false, false, false, false, false] (by kernel_rfl) rfl rfl ⟨(zO Z2.out 0).trans rfl, (zO Z2.out 1).trans rfl, (zO Z2.out 2).trans rfl, (zO Z2.out 3).trans rfl, (zO Z2.out 4).trans rfl, (zO Z2.out 5).trans rfl, (zO Z1.out 0).trans rfl, (zO Z1.out 1).trans rfl, (zO Z1.out 2).trans rfl, (zO Z1.out 3).trans rfl, (zO Z1.out 4).trans rfl, (zO Z1.out 5).trans rfl, hx406_0, hx406_1, ((HB.out.cell (World.block_lt_of_cell? w _ hw407_0)).trans hw407_0), ((HB.out.cell (World.block_lt_of_cell? w _ hw407_1)).trans hw407_1)⟩ (fun hHeld => ?_); refine with_tabW w22_DistWeights.tab18 w22_DistWeights.bits18 (fun HT_ HW_ => ?_)
                   generalize wr.drew = w76 at HO_380005 Z0 Z1 Z2 HB hx406_0 hx406_1 hx407_0 hx407_1 hHeld ⊢
                   refine pure_ (i := 0) (N := some 85) (v := ?_) (a' := ?_) #[true, false, false, false, false, false, false, false, false, false, false] rfl rfl (any_of HT_.out (by kernel_rfl)) (fun _ _ _ h => h) (Or.inl ⟨by rfl, ?_⟩) ?_ ?_
                   rotate_left
                   ·intro w'
                    go_simp
                    with_reducible rfl
                   rotate_left
                   ·simp only [Act.put, zA, zB, zC, i64_w, i32_w]
                    rfl
                   refine pure_ (i := 2) (N := some 87) (v := ?_) (a' := ?_) #[true, false, true, false, false, false, false, false, false, false, false] rfl rfl (any_of HT_.out (by kernel_rfl)) (fun _ _ _ h => h) (Or.inl ⟨by rfl, ?_⟩) ?_ ?_
                   rotate_left
                   ·intro w'
                    go_simp
                    with_reducible rfl
                   rotate_left
                   ·simp only [Act.put, zA, zB, zC, i64_w, i32_w]
                    rfl
                   refine pure_ (i := 5) (N := some 90) (v := ?_) (a' := ?_) #[true, false, true, false, false, true, false, false, false, false, false] rfl rfl (any_of HT_.out (by kernel_rfl)) (fun _ _ _ h => h) (Or.inl ⟨by rfl, ?_⟩) ?_ ?_
                   rotate_left
                   ·intro w'
                    go_simp
                    with_reducible rfl
                   rotate_left
                   ·simp only [Act.put, zA, zB, zC, i64_w, i32_w]
                    rfl
                   refine pure_ (i := 7) (N := some 92) (v := ?_) (a' := ?_) #[true, false, true, false, false, true, false, true, false, false, false] rfl rfl (any_of HT_.out (by kernel_rfl)) (fun _ _ _ h => h) (Or.inl ⟨by rfl, ?_⟩) ?_ ?_
                   rotate_left
                   ·intro w'
                    go_simp
                    with_reducible rfl
                   rotate_left
                   ·simp only [Act.put, zA, zB, zC, i64_w, i32_w]
                    rfl
                   refine take_ (i := 1) (N := some 86) (v := ?_) (a' := ?_) #[true, true, true, false, false, true, false, true, false, false, false] rfl rfl (take_ofW HT_.out HW_.out (by kernel_rfl)) (fun _ _ _ h => h) (Or.inl ⟨by rfl, ?_⟩) hHeld ?_ ?_
                   rotate_left
                   ·rintro w' ⟨s0, s1, s2, s3, s4, s5, s6, s7, s8, s9, s10, s11, s12, s13, s14, s15⟩
                    go_simp
                    with_reducible rfl
                   rotate_left
                   ·simp only [Act.put, zA, zB, zC, i64_w, i32_w]
                    rfl
                   refine pure_ (i := 3) (N := some 88) (v := ?_) (a' := ?_) #[true, true, true, true, false, true, false, true, false, false, false] rfl rfl (any_of HT_.out (by kernel_rfl)) (fun _ _ _ h => h) (Or.inl ⟨by rfl, ?_⟩) ?_ ?_
                   rotate_left
                   ·intro w'
                    go_simp
                    with_reducible rfl
                   rotate_left
                   ·simp only [Act.put, zA, zB, zC, i64_w, i32_w]
                    rfl
                   refine take_ (i := 4) (N := some 89) (v := ?_) (a' := ?_) #[true, true, true, true, true, true, false, true, false, false, false] rfl rfl (take_ofW HT_.out HW_.out (by kernel_rfl)) (fun _ _ _ h => h) (Or.inl ⟨by rfl, ?_⟩) hHeld ?_ ?_
                   rotate_left
                   ·rintro w' ⟨s0, s1, s2, s3, s4, s5, s6, s7, s8, s9, s10, s11, s12, s13, s14, s15⟩
                    go_simp
                    with_reducible rfl
                   rotate_left
                   ·simp only [Act.put, zA, zB, zC, i64_w, i32_w]
                    rfl
                   refine take_ (i := 6) (N := some 91) (v := ?_) (a' := ?_) #[true, true, true, true, true, true, true, true, false, false, false] rfl rfl (take_ofW HT_.out HW_.out (by kernel_rfl)) (fun _ _ _ h => h) (Or.inl ⟨by rfl, ?_⟩) hHeld ?_ ?_
                   rotate_left
                   ·rintro w' ⟨s0, s1, s2, s3, s4, s5, s6, s7, s8, s9, s10, s11, s12, s13, s14, s15⟩
                    go_simp
                    with_reducible rfl
                   rotate_left
                   ·simp only [Act.put, zA, zB, zC, i64_w, i32_w]
                    rfl
                   refine pure_ (i := 8) (N := some 93) (v := ?_) (a' := ?_) #[true, true, true, true, true, true, true, true, true, false, false] rfl rfl (any_of HT_.out (by kernel_rfl)) (fun _ _ _ h => h) (Or.inl ⟨by rfl, ?_⟩) ?_ ?_
                   rotate_left
                   ·intro w'
                    go_simp
                    with_reducible rfl
                   rotate_left
                   ·simp only [Act.put, zA, zB, zC, i64_w, i32_w]
                    rfl
                   refine take_ (i := 9) (N := some 94) (v := ?_) (a' := ?_) #[true, true, true, true, true, true, true, true, true, true, false] rfl rfl (take_ofW HT_.out HW_.out (by kernel_rfl)) (fun _ _ _ h => h) (Or.inl ⟨by rfl, ?_⟩) hHeld ?_ ?_
                   rotate_left
                   ·rintro w' ⟨s0, s1, s2, s3, s4, s5, s6, s7, s8, s9, s10, s11, s12, s13, s14, s15⟩
                    go_simp
                    with_reducible rfl
                   rotate_left
                   ·simp only [Act.put, zA, zB, zC, i64_w, i32_w]
                    rfl
                   refine pure_ (i := 10) (N := some 95) (v := ?_) (a' := ?_) #[true, true, true, true, true, true, true, true, true, true, true] rfl rfl (any_of HT_.out (by kernel_rfl)) (fun _ _ _ h => h) (Or.inl ⟨by rfl, ?_⟩) ?_ ?_
                   rotate_left
                   ·intro w'
                    go_simp
                    with_reducible rfl
                   rotate_left
                   ·simp only [Act.put, zA, zB, zC, i64_w, i32_w]
                    rfl
                   refine done_ (done_of HT_.out (by kernel_rfl)) ?_
                   try go_wp2
                   go_roundg k3
                   case measure => have := HJ10.out; have := HK2.out; have := HK3.out; omega
                   case rel => exact ⟨(wrap64 (x82_3 + 1)), (by first | rfl | (simp; done) | (simp [*]; done)), H', ⟨by have := HJ10.out; have := HK2.out; have := HK3.out; omega⟩, ⟨by (with_reducible repeat (first | apply zL | apply zM | apply zN)); exact HO_380005.out⟩, ⟨by (with_reducible repeat (first | apply zF | apply zH | apply zG)); exact Z0.out⟩, ⟨by (with_reducible repeat (first | apply zF | apply zH | apply zG)); exact Z1.out⟩, ⟨by (with_reducible repeat (first | apply zF | apply zH | apply zG)); exact Z2.out⟩, ⟨by repeat (first | (with_reducible first | exact HB.out | apply zJ | apply zD | apply zE | refine zI ?_ Z3.out | refine zI ?_ Z4.out | refine zI ?_ Z5.out) | exact HB.out)⟩⟩
                 ·rw [if_neg c73] at H
                  exact absurd H (by simp)
                ·rw [if_neg c72] at H
                 exact absurd H (by simp)
               ·rw [if_neg c71] at H
                exact absurd H (by simp)
              ·rw [if_neg c70] at H
               have c70b0 : decide (x82_3 < (y383.length : Int)) = false := yD c70
               clear c70
               obtain rfl := yY H
               go_wp2
               go_ret
               exact ⟨by first | rfl | (simp [errW_none, errW_some] <;> rfl) | (simp [*, errW_none, errW_some] <;> rfl), by repeat (first | (with_reducible first | exact HB.out | apply zJ | apply zD | apply zE | refine zI ?_ Z3.out | refine zI ?_ Z4.out | refine zI ?_ Z5.out) | exact HB.out)⟩
     ·rw [if_neg c7] at H
      exact absurd H (by simp)
    ·rw [if_neg c6] at H
     exact absurd H (by simp)
   ·rw [if_neg c5] at H
    exact absurd H (by simp)
  ·replace c4 := yh.mpr c4
   subst c4
   have H1 : (some false) = some r := by rw [if_neg (show ¬ (false = true) by decide)] at H; exact H
   clear H
   have H := H1
   clear H1
   obtain rfl := yY H
   go_enter Try.func4, Try.ntmps4
   go_wp2_with (first | ((with_reducible refine gate_dst (N := 2) rfl ?_); refine box_event ?hg (N := 2) ?hd (cs := #[.slice A0_0 l0_0.length c0_0, .slice A0_1 l0_1.length c0_1]) (t := 39) ?hr ?_; (case hd => rfl); (case hg => rfl); (case hr => first | (go_simp; done) | (go_simp; rfl)); intro Z15 hg w77 hbox hb; have n0_ := zK (yL (by repeat (first | (with_reducible first | exact HB.out | apply zJ | apply zD | apply zE) | exact HB.out)) hb); have n1_ := zK (hbox); have n2_ := zK ((by rw [hg]; exact (yK (by repeat (first | (with_reducible first | exact HB.out | apply zJ | apply zD | apply zE) | exact HB.out))) : w.heap.size <= Z15)); have n3_ := zK ((by rw [hg]; exact (yK (by repeat (first | (with_reducible first | exact HB.out | apply zJ | apply zD | apply zE) | exact HB.out))) : w.heap.size <= Z15)); clear HB; have HB := n0_; have Z0 := n1_; have Z6 := n2_; have Z3 := n3_; clear n0_ n1_ n2_ n3_ hb hbox hg) | ((with_reducible refine gate_dst (N := 3) rfl ?_); refine box_event ?hg (N := 3) ?hd (cs := #[.int .i64 a1_0, .int .i64 a1_1, .int .i64 a1_2, .int .i64 a1_3, .int .i64 a1_4, .slice A1_5 l1_5.length c1_5]) (t := 24) ?hr ?_; (case hd => rfl); (case hg => rfl); (case hr => first | (go_simp; done) | (go_simp; rfl)); intro Z16 hg w78 hbox hb; have n0_ := zK (zP (g := Z15) (o := o1 A0_0 l0_0 c0_0 A0_1 l0_1 c0_1) (by (with_reducible repeat (first | apply zF | apply zH | apply zG)); exact Z0.out) hb); have n1_ := zK (yL (by repeat (first | (with_reducible first | exact HB.out | apply zJ | apply zD | apply zE | refine zI ?_ Z3.out) | exact HB.out)) hb); have n2_ := zK (hbox); have n3_ := zK ((by rw [hg]; exact (yK (by repeat (first | (with_reducible first | exact HB.out | apply zJ | apply zD | apply zE | refine zI ?_ Z3.out) | exact HB.out))) : w.heap.size <= Z16)); have n4_ := zK ((by rw [hg]; exact (yK (by repeat (first | (with_reducible first | exact HB.out | apply zJ | apply zD | apply zE | refine zI ?_ Z3.out) | exact HB.out))) : w.heap.size <= Z16)); have n5_ := zK ((by rw [hg]; exact ym (yo (g := Z15) (o := o1 A0_0 l0_0 c0_0 A0_1 l0_1 c0_1) (by (with_reducible repeat (first | apply zF | apply zH | apply zG)); exact Z0.out)) : Z15 ≠ Z16)); have n6_ := zK ((by rw [hg]; exact yn (yo (g := Z15) (o := o1 A0_0 l0_0 c0_0 A0_1 l0_1 c0_1) (by (with_reducible repeat (first | apply zF | apply zH | apply zG)); exact Z0.out)) : Z16 ≠ Z15)); clear Z0 HB; have Z0 := n0_; have HB := n1_; have Z1 := n2_; have Z7 := n3_; have Z4 := n4_; have Z9 := n5_; have Z11 := n6_; clear n0_ n1_ n2_ n3_ n4_ n5_ n6_ hb hbox hg) | ((with_reducible refine gate_callee (f := 13) rfl ?_); refine goesL_ (some 14) rfl rfl Try.func13 (by kernel_rfl) rfl #[] rfl (by (try simp only [yH, yI, yJ]); first | done | rfl | (simp only [yG, yF]; rfl)) ?_; (with_reducible refine (w22_awake.calls k  false _ A3.out).mono ?_); rintro e w79 ⟨rfl, hb⟩; refine ⟨_, rfl, ?_⟩; have n0_ := zK (zP (g := Z15) (o := o1 A0_0 l0_0 c0_0 A0_1 l0_1 c0_1) (by (with_reducible repeat (first | apply zF | apply zH | apply zG)); exact Z0.out) hb); have n1_ := zK (zP (g := Z16) (o := o2 a1_0 a1_1 a1_2 a1_3 a1_4 A1_5 l1_5 c1_5) (by (with_reducible repeat (first | apply zF | apply zH | apply zG)); exact Z1.out) hb); have n2_ := zK (yL (by repeat (first | (with_reducible first | exact HB.out | apply zJ | apply zD | apply zE | refine zI ?_ Z3.out | refine zI ?_ Z4.out) | exact HB.out)) hb); clear Z0 Z1 HB; have Z0 := n0_; have Z1 := n1_; have HB := n2_; clear n0_ n1_ n2_; (try clear hb); (try clear hb2); (try clear hk); (try clear hi)))
   go_ret
   exact ⟨by first | rfl | (simp [errW_none, errW_some] <;> rfl) | (simp [*, errW_none, errW_some] <;> rfl), by repeat (first | (with_reducible first | exact HB.out | apply zJ | apply zD | apply zE | refine zI ?_ Z3.out | refine zI ?_ Z4.out) | exact HB.out)⟩

end Go.Proofs.Ythmckhfjaleomaa.T
