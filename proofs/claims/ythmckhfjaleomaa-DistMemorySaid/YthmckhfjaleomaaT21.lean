-- Printed by this session's own driver (wip/tools/xprint.py) over the kit's printer; given functions are this session's own.
import Derived.Test.YthmckhfjaleomaaT0
import Derived.Test.YthmckhfjaleomaaT5
import Derived.Test.YthmckhfjaleomaaT6
import Derived.Test.YthmckhfjaleomaaT8
import Derived.Test.YthmckhfjaleomaaT13
import Derived.Test.YthmckhfjaleomaaT14
import Derived.Test.YthmckhfjaleomaaT16
namespace Go.Proofs.Ythmckhfjaleomaa.T
open Go.RowKit Go.Proofs.YthmckhfjaleomaaW.PrintWords Go.Proofs.YthmckhfjaleomaaW.PrintLast Go.Proofs.YthmckhfjaleomaaW.PrintMore
attribute [local go_sem] max2_int min2_int max_two min_two max_three min_three max_four min_four   -- for this text's walks alone
set_option linter.unusedVariables false
set_option linter.unusedSimpArgs false

/-! ### w22_DistMemory: function 8 -/
mutual
def w22_DistMemory.j0 : Nat → List Int → List Int → List Int → Bool → List Int → List Bool → Int → Int → Int → Int → Int → List (S46) → Option (Bool)
  | 0, _, _, _, _, _, _, _, _, _, _, _, _ => none
  | k + 1, x5, x7, x9, x53, Y0, Y1, Y2, Y3, Y4, Y5, Y6, Y7 => if x53 = true then (some false) else (w22_DistMemory.l0 k x5 x7 x9 (x5.length : Int) 0 Y0 Y1 Y2 Y3 Y4 Y5 Y6 Y7)
def w22_DistMemory.l0 : Nat → List Int → List Int → List Int → Int → Int → List Int → List Bool → Int → Int → Int → Int → Int → List (S46) → Option (Bool)
  | 0, _, _, _, _, _, _, _, _, _, _, _, _, _ => none
  | k + 1, x5, x7, x9, x55, x56, Y0, Y1, Y2, Y3, Y4, Y5, Y6, Y7 => if x56 < x55 then (if 0 ≤ x56 then (if x56 < (x5.length : Int) then (w22_DistMemory.l0 k (x5.set (x56 : Int).toNat (-7)) x7 x9 x55 (wrap64 (x56 + 1)) Y0 Y1 Y2 Y3 Y4 Y5 Y6 Y7) else (none)) else (none)) else (w22_DistMemory.l1 k x5 x7 x9 0 Y0 Y1 Y2 Y3 Y4 Y5 Y6 Y7)
def w22_DistMemory.l1 : Nat → List Int → List Int → List Int → Int → List Int → List Bool → Int → Int → Int → Int → Int → List (S46) → Option (Bool)
  | 0, _, _, _, _, _, _, _, _, _, _, _, _ => none
  | k + 1, x5, x7, x9, x63, Y0, Y1, Y2, Y3, Y4, Y5, Y6, Y7 => if x63 < 9 then (if x5.length < 17592186044416 then (w22_DistMemory.l1 k (x5 ++ [(-8)]) x7 x9 (wrap64 (x63 + 1)) Y0 Y1 Y2 Y3 Y4 Y5 Y6 Y7) else (none)) else ((dist_Weights.f k Y0 Y1 Y2 Y3 Y4 Y5 Y6 Y7).bind fun bt524 => (if bt524.2 = 0 then ((w22_same.f k x7 x9).bind fun t528 => (if t528 = true then ((w22_same.f k bt524.1 x9).bind fun t529 => (if t529 = true then (some ((x5.length : Int) == (wrap64 ((x9.length : Int) + 9)))) else (some false))) else (some false))) else (some false)))
end
def w22_DistMemory.f (k : Nat) (l0_0 : List Int) (l0_1 : List Bool) (a1_0 : Int) (a1_1 : Int) (a1_2 : Int) (a1_3 : Int) (a1_4 : Int) (l1_5 : List (S46)) : Option (Bool) := (w22_awake.f k).bind fun t498 => (if t498 = true then ((w22_right.f k l0_0 l0_1 a1_0 a1_1 a1_2 a1_3 a1_4 l1_5).bind fun t499 => (if t499 = true then ((dist_Weights.f k l0_0 l0_1 a1_0 a1_1 a1_2 a1_3 a1_4 l1_5).bind fun bt500 => ((dist_Weights.f k l0_0 l0_1 a1_0 a1_1 a1_2 a1_3 a1_4 l1_5).bind fun bt504 => ((w22_plain.f k a1_0 a1_1 a1_2 a1_3 a1_4 l1_5).bind fun bt508 => ((r22_Weights.f k l0_0 l0_1 bt508.1 bt508.2.1 bt508.2.2.1 bt508.2.2.2.1 bt508.2.2.2.2.1 bt508.2.2.2.2.2).bind fun bt516 => (if bt500.2 = 0 then (w22_DistMemory.j0 k bt500.1 bt504.1 bt516.1 (bt504.2 != 0) l0_0 l0_1 a1_0 a1_1 a1_2 a1_3 a1_4 l1_5) else (w22_DistMemory.j0 k bt500.1 bt504.1 bt516.1 true l0_0 l0_1 a1_0 a1_1 a1_2 a1_3 a1_4 l1_5)))))) else (some true))) else (some false))
theorem w22_DistMemory.mono_l : ∀ k, (∀ y0 y1 y2 y3 y4 y5 y6 y7 y8 y9 y10 y11, LeO (w22_DistMemory.j0 k y0 y1 y2 y3 y4 y5 y6 y7 y8 y9 y10 y11) (w22_DistMemory.j0 (k + 1) y0 y1 y2 y3 y4 y5 y6 y7 y8 y9 y10 y11)) ∧ (∀ y0 y1 y2 y3 y4 y5 y6 y7 y8 y9 y10 y11 y12, LeO (w22_DistMemory.l0 k y0 y1 y2 y3 y4 y5 y6 y7 y8 y9 y10 y11 y12) (w22_DistMemory.l0 (k + 1) y0 y1 y2 y3 y4 y5 y6 y7 y8 y9 y10 y11 y12)) ∧ (∀ y0 y1 y2 y3 y4 y5 y6 y7 y8 y9 y10 y11, LeO (w22_DistMemory.l1 k y0 y1 y2 y3 y4 y5 y6 y7 y8 y9 y10 y11) (w22_DistMemory.l1 (k + 1) y0 y1 y2 y3 y4 y5 y6 y7 y8 y9 y10 y11))
  | 0 => ⟨fun _ _ _ _ _ _ _ _ _ _ _ _ r h => by simp [w22_DistMemory.j0] at h, fun _ _ _ _ _ _ _ _ _ _ _ _ _ r h => by simp [w22_DistMemory.l0] at h, fun _ _ _ _ _ _ _ _ _ _ _ _ r h => by simp [w22_DistMemory.l1] at h⟩
  | k + 1 => by
    obtain ⟨ih0, ih1, ih2⟩ := w22_DistMemory.mono_l k
    refine ⟨?_, ?_, ?_⟩ <;> (intros; first | unfold w22_DistMemory.j0 | unfold w22_DistMemory.l0 | unfold w22_DistMemory.l1)
    all_goals repeat' first
      | (with_reducible exact ih0 _ _ _ _ _ _ _ _ _ _ _ _)
      | (with_reducible exact ih1 _ _ _ _ _ _ _ _ _ _ _ _ _)
      | (with_reducible exact ih2 _ _ _ _ _ _ _ _ _ _ _ _)
      | (with_reducible exact dist_Weights.mono _ _ _ _ _ _ _ _ _)
      | (with_reducible exact r22_Weights.mono _ _ _ _ _ _ _ _ _)
      | (with_reducible exact w22_awake.mono _)
      | (with_reducible exact w22_plain.mono _ _ _ _ _ _ _)
      | (with_reducible exact w22_right.mono _ _ _ _ _ _ _ _ _)
      | (with_reducible exact w22_same.mono _ _ _)
      | (with_reducible exact yR _)
      | (with_reducible exact yO _)
      | (with_reducible refine yQ ?_ ?_)
      | (with_reducible refine yP ?_ (fun _ => ?_))
      | exact ih0 _ _ _ _ _ _ _ _ _ _ _ _
      | exact ih1 _ _ _ _ _ _ _ _ _ _ _ _ _
      | exact ih2 _ _ _ _ _ _ _ _ _ _ _ _
      | exact dist_Weights.mono _ _ _ _ _ _ _ _ _
      | exact r22_Weights.mono _ _ _ _ _ _ _ _ _
      | exact w22_awake.mono _
      | exact w22_plain.mono _ _ _ _ _ _ _
      | exact w22_right.mono _ _ _ _ _ _ _ _ _
      | exact w22_same.mono _ _ _
      | exact yO _
      | refine yQ ?_ ?_
      | refine yP ?_ (fun _ => ?_)
theorem w22_DistMemory.mono : ∀ a0 a1 a2 a3 a4 a5 a6 a7 k, LeO (w22_DistMemory.f k a0 a1 a2 a3 a4 a5 a6 a7) (w22_DistMemory.f (k + 1) a0 a1 a2 a3 a4 a5 a6 a7) := by
  intro a0 a1 a2 a3 a4 a5 a6 a7 k
  obtain ⟨ih0, ih1, ih2⟩ := w22_DistMemory.mono_l k
  unfold w22_DistMemory.f
  repeat' first
      | (with_reducible exact ih0 _ _ _ _ _ _ _ _ _ _ _ _)
      | (with_reducible exact ih1 _ _ _ _ _ _ _ _ _ _ _ _ _)
      | (with_reducible exact ih2 _ _ _ _ _ _ _ _ _ _ _ _)
      | (with_reducible exact dist_Weights.mono _ _ _ _ _ _ _ _ _)
      | (with_reducible exact r22_Weights.mono _ _ _ _ _ _ _ _ _)
      | (with_reducible exact w22_awake.mono _)
      | (with_reducible exact w22_plain.mono _ _ _ _ _ _ _)
      | (with_reducible exact w22_right.mono _ _ _ _ _ _ _ _ _)
      | (with_reducible exact w22_same.mono _ _ _)
      | (with_reducible exact yR _)
      | (with_reducible exact yO _)
      | (with_reducible refine yQ ?_ ?_)
      | (with_reducible refine yP ?_ (fun _ => ?_))
      | exact ih0 _ _ _ _ _ _ _ _ _ _ _ _
      | exact ih1 _ _ _ _ _ _ _ _ _ _ _ _ _
      | exact ih2 _ _ _ _ _ _ _ _ _ _ _ _
      | exact dist_Weights.mono _ _ _ _ _ _ _ _ _
      | exact r22_Weights.mono _ _ _ _ _ _ _ _ _
      | exact w22_awake.mono _
      | exact w22_plain.mono _ _ _ _ _ _ _
      | exact w22_right.mono _ _ _ _ _ _ _ _ _
      | exact w22_same.mono _ _ _
      | exact yO _
      | refine yQ ?_ ?_
      | refine yP ?_ (fun _ => ?_)
def w22_DistMemory.T7 : Bool × List (List Nat × List Nat) := (true, [([], []), ([0], [0]), ([], []), ([2], [2]), ([], []), ([4], [4]), ([1, 3, 5, 5], [1, 3, 5]), ([6], [6]), ([7], [7]), ([7], [7]), ([8, 6, 0, 1, 2, 3, 4, 5, 6, 7, 8], [8]), ([9, 10, 0, 1, 2, 3, 4, 5, 6, 7, 8, 9, 10], [9])])
def w22_DistMemory.B7 : List Nat := [0, 1, 0, 4, 0, 16, 63, 127, 255, 255, 511, 2047]
theorem w22_DistMemory.tab7 : rtab .any (opsOf Try.f8 7) = w22_DistMemory.T7 := by kernel_rfl
theorem w22_DistMemory.bits7 : waitsOk w22_DistMemory.T7.2 w22_DistMemory.B7 = true := by kernel_rfl
set_option maxHeartbeats 8000000 in
set_option maxRecDepth 100000 in
theorem w22_DistMemory.calls (k : Nat) (A0_0 : Option Addr) (c0_0 : Nat) (l0_0 : List Int) (A0_1 : Option Addr) (c0_1 : Nat) (l0_1 : List Bool) (a1_0 : Int) (a1_1 : Int) (a1_2 : Int) (a1_3 : Int) (a1_4 : Int) (A1_5 : Option Addr) (c1_5 : Nat) (l1_5 : List (S46)) (r : Bool) (w : World) (hr0_0 : Kd.C (Kd.int .i64) w A0_0 l0_0.length l0_0) (hc0_0 : l0_0.length ≤ c0_0) (hr0_1 : Kd.C Kd.bool w A0_1 l0_1.length l0_1) (hc0_1 : l0_1.length ≤ c0_1) (hr1_5 : Kd.C k46 w A1_5 l1_5.length l1_5) (hc1_5 : l1_5.length ≤ c1_5) (h : w22_DistMemory.f k l0_0 l0_1 a1_0 a1_1 a1_2 a1_3 a1_4 l1_5 = some r) :
    Calls Try.prog 8 #[.agg #[.slice A0_0 l0_0.length c0_0, .slice A0_1 l0_1.length c0_1], .agg #[.int .i64 a1_0, .int .i64 a1_1, .int .i64 a1_2, .int .i64 a1_3, .int .i64 a1_4, .slice A1_5 l1_5.length c1_5]] w fun e w' => e = .returned (.bool r) ∧ Below w.heap.size w w' := by
  have hu39 := Try.underlying39
  have hu24 := Try.underlying24
  have HR0_0 := zK hr0_0
  have HC0_0 := zK hc0_0
  clear hr0_0 hc0_0
  have HR0_1 := zK hr0_1
  have HC0_1 := zK hc0_1
  clear hr0_1 hc0_1
  have HR1_5 := zK hr1_5
  have HC1_5 := zK hc1_5
  clear hr1_5 hc1_5
  have HB := zK (Below.refl w.heap.size w)
  have H : ((w22_awake.f k).bind fun t498 => (if t498 = true then ((w22_right.f k l0_0 l0_1 a1_0 a1_1 a1_2 a1_3 a1_4 l1_5).bind fun t499 => (if t499 = true then ((dist_Weights.f k l0_0 l0_1 a1_0 a1_1 a1_2 a1_3 a1_4 l1_5).bind fun bt500 => ((dist_Weights.f k l0_0 l0_1 a1_0 a1_1 a1_2 a1_3 a1_4 l1_5).bind fun bt504 => ((w22_plain.f k a1_0 a1_1 a1_2 a1_3 a1_4 l1_5).bind fun bt508 => ((r22_Weights.f k l0_0 l0_1 bt508.1 bt508.2.1 bt508.2.2.1 bt508.2.2.2.1 bt508.2.2.2.2.1 bt508.2.2.2.2.2).bind fun bt516 => (if bt500.2 = 0 then (w22_DistMemory.j0 k bt500.1 bt504.1 bt516.1 (bt504.2 != 0) l0_0 l0_1 a1_0 a1_1 a1_2 a1_3 a1_4 l1_5) else (w22_DistMemory.j0 k bt500.1 bt504.1 bt516.1 true l0_0 l0_1 a1_0 a1_1 a1_2 a1_3 a1_4 l1_5)))))) else (some true))) else (some false))) = some r := h
  clear h
  replace H := yA.mp H
  obtain ⟨t498, A30, H⟩ := H
  replace H : (if t498 = true then ((w22_right.f k l0_0 l0_1 a1_0 a1_1 a1_2 a1_3 a1_4 l1_5).bind fun t499 => (if t499 = true then ((dist_Weights.f k l0_0 l0_1 a1_0 a1_1 a1_2 a1_3 a1_4 l1_5).bind fun bt500 => ((dist_Weights.f k l0_0 l0_1 a1_0 a1_1 a1_2 a1_3 a1_4 l1_5).bind fun bt504 => ((w22_plain.f k a1_0 a1_1 a1_2 a1_3 a1_4 l1_5).bind fun bt508 => ((r22_Weights.f k l0_0 l0_1 bt508.1 bt508.2.1 bt508.2.2.1 bt508.2.2.2.1 bt508.2.2.2.2.1 bt508.2.2.2.2.2).bind fun bt516 => (if bt500.2 = 0 then (w22_DistMemory.j0 k bt500.1 bt504.1 bt516.1 (bt504.2 != 0) l0_0 l0_1 a1_0 a1_1 a1_2 a1_3 a1_4 l1_5) else (w22_DistMemory.j0 k bt500.1 bt504.1 bt516.1 true l0_0 l0_1 a1_0 a1_1 a1_2 a1_3 a1_4 l1_5)))))) else (some true))) else (some false)) = some r := H
  have A3 := zK A30
  clear A30
  by_cases c4 : t498 = true
  ·subst c4
   have H1 : ((w22_right.f k l0_0 l0_1 a1_0 a1_1 a1_2 a1_3 a1_4 l1_5).bind fun t499 => (if t499 = true then ((dist_Weights.f k l0_0 l0_1 a1_0 a1_1 a1_2 a1_3 a1_4 l1_5).bind fun bt500 => ((dist_Weights.f k l0_0 l0_1 a1_0 a1_1 a1_2 a1_3 a1_4 l1_5).bind fun bt504 => ((w22_plain.f k a1_0 a1_1 a1_2 a1_3 a1_4 l1_5).bind fun bt508 => ((r22_Weights.f k l0_0 l0_1 bt508.1 bt508.2.1 bt508.2.2.1 bt508.2.2.2.1 bt508.2.2.2.2.1 bt508.2.2.2.2.2).bind fun bt516 => (if bt500.2 = 0 then (w22_DistMemory.j0 k bt500.1 bt504.1 bt516.1 (bt504.2 != 0) l0_0 l0_1 a1_0 a1_1 a1_2 a1_3 a1_4 l1_5) else (w22_DistMemory.j0 k bt500.1 bt504.1 bt516.1 true l0_0 l0_1 a1_0 a1_1 a1_2 a1_3 a1_4 l1_5)))))) else (some true))) = some r := by rw [if_pos rfl] at H; exact H
   clear H
   have H := H1
   clear H1
   replace H := yA.mp H
   obtain ⟨t499, A50, H⟩ := H
   replace H : (if t499 = true then ((dist_Weights.f k l0_0 l0_1 a1_0 a1_1 a1_2 a1_3 a1_4 l1_5).bind fun bt500 => ((dist_Weights.f k l0_0 l0_1 a1_0 a1_1 a1_2 a1_3 a1_4 l1_5).bind fun bt504 => ((w22_plain.f k a1_0 a1_1 a1_2 a1_3 a1_4 l1_5).bind fun bt508 => ((r22_Weights.f k l0_0 l0_1 bt508.1 bt508.2.1 bt508.2.2.1 bt508.2.2.2.1 bt508.2.2.2.2.1 bt508.2.2.2.2.2).bind fun bt516 => (if bt500.2 = 0 then (w22_DistMemory.j0 k bt500.1 bt504.1 bt516.1 (bt504.2 != 0) l0_0 l0_1 a1_0 a1_1 a1_2 a1_3 a1_4 l1_5) else (w22_DistMemory.j0 k bt500.1 bt504.1 bt516.1 true l0_0 l0_1 a1_0 a1_1 a1_2 a1_3 a1_4 l1_5)))))) else (some true)) = some r := H
   have A5 := zK A50
   clear A50
   by_cases c6 : t499 = true
   ·subst c6
    have H1 : ((dist_Weights.f k l0_0 l0_1 a1_0 a1_1 a1_2 a1_3 a1_4 l1_5).bind fun bt500 => ((dist_Weights.f k l0_0 l0_1 a1_0 a1_1 a1_2 a1_3 a1_4 l1_5).bind fun bt504 => ((w22_plain.f k a1_0 a1_1 a1_2 a1_3 a1_4 l1_5).bind fun bt508 => ((r22_Weights.f k l0_0 l0_1 bt508.1 bt508.2.1 bt508.2.2.1 bt508.2.2.2.1 bt508.2.2.2.2.1 bt508.2.2.2.2.2).bind fun bt516 => (if bt500.2 = 0 then (w22_DistMemory.j0 k bt500.1 bt504.1 bt516.1 (bt504.2 != 0) l0_0 l0_1 a1_0 a1_1 a1_2 a1_3 a1_4 l1_5) else (w22_DistMemory.j0 k bt500.1 bt504.1 bt516.1 true l0_0 l0_1 a1_0 a1_1 a1_2 a1_3 a1_4 l1_5)))))) = some r := by rw [if_pos rfl] at H; exact H
    clear H
    have H := H1
    clear H1
    replace H := yA.mp H
    obtain ⟨⟨t500, t503⟩, A70, H⟩ := H
    replace H : ((dist_Weights.f k l0_0 l0_1 a1_0 a1_1 a1_2 a1_3 a1_4 l1_5).bind fun bt504 => ((w22_plain.f k a1_0 a1_1 a1_2 a1_3 a1_4 l1_5).bind fun bt508 => ((r22_Weights.f k l0_0 l0_1 bt508.1 bt508.2.1 bt508.2.2.1 bt508.2.2.2.1 bt508.2.2.2.2.1 bt508.2.2.2.2.2).bind fun bt516 => (if t503 = 0 then (w22_DistMemory.j0 k t500 bt504.1 bt516.1 (bt504.2 != 0) l0_0 l0_1 a1_0 a1_1 a1_2 a1_3 a1_4 l1_5) else (w22_DistMemory.j0 k t500 bt504.1 bt516.1 true l0_0 l0_1 a1_0 a1_1 a1_2 a1_3 a1_4 l1_5))))) = some r := H
    have A7 := zK A70
    clear A70
    replace H := yA.mp H
    obtain ⟨⟨t504, t507⟩, A80, H⟩ := H
    replace H : ((w22_plain.f k a1_0 a1_1 a1_2 a1_3 a1_4 l1_5).bind fun bt508 => ((r22_Weights.f k l0_0 l0_1 bt508.1 bt508.2.1 bt508.2.2.1 bt508.2.2.2.1 bt508.2.2.2.2.1 bt508.2.2.2.2.2).bind fun bt516 => (if t503 = 0 then (w22_DistMemory.j0 k t500 t504 bt516.1 (t507 != 0) l0_0 l0_1 a1_0 a1_1 a1_2 a1_3 a1_4 l1_5) else (w22_DistMemory.j0 k t500 t504 bt516.1 true l0_0 l0_1 a1_0 a1_1 a1_2 a1_3 a1_4 l1_5)))) = some r := H
    have A8 := zK A80
    clear A80
    replace H := yA.mp H
    obtain ⟨⟨t508, t509, t510, t511, t512, t513⟩, A90, H⟩ := H
    replace H : ((r22_Weights.f k l0_0 l0_1 t508 t509 t510 t511 t512 t513).bind fun bt516 => (if t503 = 0 then (w22_DistMemory.j0 k t500 t504 bt516.1 (t507 != 0) l0_0 l0_1 a1_0 a1_1 a1_2 a1_3 a1_4 l1_5) else (w22_DistMemory.j0 k t500 t504 bt516.1 true l0_0 l0_1 a1_0 a1_1 a1_2 a1_3 a1_4 l1_5))) = some r := H
    have A9 := zK A90
    clear A90
    replace H := yA.mp H
    obtain ⟨⟨t516, t519⟩, A100, H⟩ := H
    replace H : (if t503 = 0 then (w22_DistMemory.j0 k t500 t504 t516 (t507 != 0) l0_0 l0_1 a1_0 a1_1 a1_2 a1_3 a1_4 l1_5) else (w22_DistMemory.j0 k t500 t504 t516 true l0_0 l0_1 a1_0 a1_1 a1_2 a1_3 a1_4 l1_5)) = some r := H
    have A10 := zK A100
    clear A100
    have HC11 := zK H
    clear H
    go_enter Try.func8, Try.ntmps8
    try go_wp2_with (first | ((with_reducible refine gate_dst (N := 2) rfl ?_); refine box_event ?hg (N := 2) ?hd (cs := #[.slice A0_0 l0_0.length c0_0, .slice A0_1 l0_1.length c0_1]) (t := 39) ?hr ?_; (case hd => rfl); (case hg => rfl); (case hr => first | (go_simp; done) | (go_simp; rfl)); intro Z9 hg w12 hbox hb; have n0_ := zK (yL (by repeat (first | (with_reducible first | exact HB.out | apply zJ | apply zD | apply zE) | exact HB.out)) hb); have n1_ := zK (hbox); have n2_ := zK ((by rw [hg]; exact (yK (by repeat (first | (with_reducible first | exact HB.out | apply zJ | apply zD | apply zE) | exact HB.out))) : w.heap.size ≤ Z9)); have n3_ := zK ((by rw [hg]; exact (yK (by repeat (first | (with_reducible first | exact HB.out | apply zJ | apply zD | apply zE) | exact HB.out))) : w.heap.size ≤ Z9)); clear HB; have HB := n0_; have Z0 := n1_; have Z4 := n2_; have Z2 := n3_; clear n0_ n1_ n2_ n3_ hb hbox hg) | ((with_reducible refine gate_dst (N := 3) rfl ?_); refine box_event ?hg (N := 3) ?hd (cs := #[.int .i64 a1_0, .int .i64 a1_1, .int .i64 a1_2, .int .i64 a1_3, .int .i64 a1_4, .slice A1_5 l1_5.length c1_5]) (t := 24) ?hr ?_; (case hd => rfl); (case hg => rfl); (case hr => first | (go_simp; done) | (go_simp; rfl)); intro Z10 hg w13 hbox hb; have n0_ := zK (zP (g := Z9) (o := .cells #[.slice A0_0 l0_0.length c0_0, .slice A0_1 l0_1.length c0_1] 39 (0, 0)) (by (with_reducible repeat (first | refine zF ?_ _ | refine zH ?_ | refine zG ?_ _)); exact Z0.out) hb); have n1_ := zK (yL (by repeat (first | (with_reducible first | exact HB.out | apply zJ | apply zD | apply zE | refine zI ?_ Z2.out) | exact HB.out)) hb); have n2_ := zK (hbox); have n3_ := zK ((by rw [hg]; exact (yK (by repeat (first | (with_reducible first | exact HB.out | apply zJ | apply zD | apply zE | refine zI ?_ Z2.out) | exact HB.out))) : w.heap.size ≤ Z10)); have n4_ := zK ((by rw [hg]; exact (yK (by repeat (first | (with_reducible first | exact HB.out | apply zJ | apply zD | apply zE | refine zI ?_ Z2.out) | exact HB.out))) : w.heap.size ≤ Z10)); have n5_ := zK ((by rw [hg]; exact ym (yo (g := Z9) (o := .cells #[.slice A0_0 l0_0.length c0_0, .slice A0_1 l0_1.length c0_1] 39 (0, 0)) (by (with_reducible repeat (first | refine zF ?_ _ | refine zH ?_ | refine zG ?_ _)); exact Z0.out)) : Z9 ≠ Z10)); have n6_ := zK ((by rw [hg]; exact yn (yo (g := Z9) (o := .cells #[.slice A0_0 l0_0.length c0_0, .slice A0_1 l0_1.length c0_1] 39 (0, 0)) (by (with_reducible repeat (first | refine zF ?_ _ | refine zH ?_ | refine zG ?_ _)); exact Z0.out)) : Z10 ≠ Z9)); clear Z0 HB; have Z0 := n0_; have HB := n1_; have Z1 := n2_; have Z5 := n3_; have Z3 := n4_; have Z6 := n5_; have Z7 := n6_; clear n0_ n1_ n2_ n3_ n4_ n5_ n6_ hb hbox hg) | ((with_reducible refine gate_callee (f := 13) rfl ?_); refine goesL_ (some 14) rfl rfl Try.func13 (by kernel_rfl) rfl #[] rfl (by (try simp only [yH, yI, yJ]); first | done | rfl | (simp only [yG, yF]; rfl)) ?_; (with_reducible refine (w22_awake.calls k  true _ A3.out).mono ?_); rintro e w14 ⟨rfl, hb⟩; refine ⟨_, rfl, ?_⟩; have n0_ := zK (zP (g := Z9) (o := .cells #[.slice A0_0 l0_0.length c0_0, .slice A0_1 l0_1.length c0_1] 39 (0, 0)) (by (with_reducible repeat (first | refine zF ?_ _ | refine zH ?_ | refine zG ?_ _)); exact Z0.out) hb); have n1_ := zK (zP (g := Z10) (o := .cells #[.int .i64 a1_0, .int .i64 a1_1, .int .i64 a1_2, .int .i64 a1_3, .int .i64 a1_4, .slice A1_5 l1_5.length c1_5] 24 (0, 0)) (by (with_reducible repeat (first | refine zF ?_ _ | refine zH ?_ | refine zG ?_ _)); exact Z1.out) hb); have n2_ := zK (yL (by repeat (first | (with_reducible first | exact HB.out | apply zJ | apply zD | apply zE | refine zI ?_ Z2.out | refine zI ?_ Z3.out) | exact HB.out)) hb); clear Z0 Z1 HB; have Z0 := n0_; have Z1 := n1_; have HB := n2_; clear n0_ n1_ n2_; (try clear hb); (try clear hb2); (try clear hk); (try clear hi); have hnb15 := Z6.out; have hnc15 := Z7.out; have hcz16_0 : w14.cell? ⟨Z9, 0, none⟩ = some (.slice A0_0 l0_0.length c0_0) := (zO Z0.out 0).trans rfl; have hcz16_1 : w14.cell? ⟨Z9, 1, none⟩ = some (.slice A0_1 l0_1.length c0_1) := (zO Z0.out 1).trans rfl; have hfz16_0 := yE Z0.out 0; have hfz16_1 := yE Z0.out 1; have hcz17_0 : w14.cell? ⟨Z10, 0, none⟩ = some (.int .i64 a1_0) := (zO Z1.out 0).trans rfl; have hcz17_1 : w14.cell? ⟨Z10, 1, none⟩ = some (.int .i64 a1_1) := (zO Z1.out 1).trans rfl; have hcz17_2 : w14.cell? ⟨Z10, 2, none⟩ = some (.int .i64 a1_2) := (zO Z1.out 2).trans rfl; have hcz17_3 : w14.cell? ⟨Z10, 3, none⟩ = some (.int .i64 a1_3) := (zO Z1.out 3).trans rfl; have hcz17_4 : w14.cell? ⟨Z10, 4, none⟩ = some (.int .i64 a1_4) := (zO Z1.out 4).trans rfl; have hcz17_5 : w14.cell? ⟨Z10, 5, none⟩ = some (.slice A1_5 l1_5.length c1_5) := (zO Z1.out 5).trans rfl; have hfz17_0 := yE Z1.out 0; have hfz17_1 := yE Z1.out 1; have hfz17_2 := yE Z1.out 2; have hfz17_3 := yE Z1.out 3; have hfz17_4 := yE Z1.out 4; have hfz17_5 := yE Z1.out 5) | ((with_reducible refine gate_callee (f := 22) rfl ?_); refine goesL_ (some 18) rfl rfl Try.func22 (by kernel_rfl) rfl #[.agg #[.slice A0_0 l0_0.length c0_0, .slice A0_1 l0_1.length c0_1], .agg #[.int .i64 a1_0, .int .i64 a1_1, .int .i64 a1_2, .int .i64 a1_3, .int .i64 a1_4, .slice A1_5 l1_5.length c1_5]] rfl (by (try simp only [yH, yI, yJ]); first | done | rfl | (simp only [yG, yF]; rfl)) ?_; (with_reducible refine (w22_right.calls k _ _ l0_0 _ _ l0_1 a1_0 a1_1 a1_2 a1_3 a1_4 _ _ l1_5 true _ ?side1 ?side2 ?side3 ?side4 ?side5 ?side6 A5.out).mono ?_); (case side1 => repeat (first | exact (yc HR0_0.out HB.out) | (with_reducible refine yS ?_ _) | (with_reducible refine yT ?_ _) | (with_reducible refine yU ?_))); (case side2 => exact HC0_0.out); (case side3 => repeat (first | exact (yc HR0_1.out HB.out) | (with_reducible refine yS ?_ _) | (with_reducible refine yT ?_ _) | (with_reducible refine yU ?_))); (case side4 => exact HC0_1.out); (case side5 => repeat (first | exact (yc HR1_5.out HB.out) | (with_reducible refine yS ?_ _) | (with_reducible refine yT ?_ _) | (with_reducible refine yU ?_))); (case side6 => exact HC1_5.out); rintro e w18 ⟨rfl, hb⟩; refine ⟨_, rfl, ?_⟩; have n0_ := zK (zP (g := Z9) (o := .cells #[.slice A0_0 l0_0.length c0_0, .slice A0_1 l0_1.length c0_1] 39 (0, 0)) (by (with_reducible repeat (first | refine zF ?_ _ | refine zH ?_ | refine zG ?_ _)); exact Z0.out) hb); have n1_ := zK (zP (g := Z10) (o := .cells #[.int .i64 a1_0, .int .i64 a1_1, .int .i64 a1_2, .int .i64 a1_3, .int .i64 a1_4, .slice A1_5 l1_5.length c1_5] 24 (0, 0)) (by (with_reducible repeat (first | refine zF ?_ _ | refine zH ?_ | refine zG ?_ _)); exact Z1.out) hb); have n2_ := zK (yL (by repeat (first | (with_reducible first | exact HB.out | apply zJ | apply zD | apply zE | refine zI ?_ Z2.out | refine zI ?_ Z3.out) | exact HB.out)) hb); clear Z0 Z1 HB; have Z0 := n0_; have Z1 := n1_; have HB := n2_; clear n0_ n1_ n2_; (try clear hb); (try clear hb2); (try clear hk); (try clear hi); have hcz19_0 : w18.cell? ⟨Z9, 0, none⟩ = some (.slice A0_0 l0_0.length c0_0) := (zO Z0.out 0).trans rfl; have hcz19_1 : w18.cell? ⟨Z9, 1, none⟩ = some (.slice A0_1 l0_1.length c0_1) := (zO Z0.out 1).trans rfl; have hfz19_0 := yE Z0.out 0; have hfz19_1 := yE Z0.out 1; have hcz20_0 : w18.cell? ⟨Z10, 0, none⟩ = some (.int .i64 a1_0) := (zO Z1.out 0).trans rfl; have hcz20_1 : w18.cell? ⟨Z10, 1, none⟩ = some (.int .i64 a1_1) := (zO Z1.out 1).trans rfl; have hcz20_2 : w18.cell? ⟨Z10, 2, none⟩ = some (.int .i64 a1_2) := (zO Z1.out 2).trans rfl; have hcz20_3 : w18.cell? ⟨Z10, 3, none⟩ = some (.int .i64 a1_3) := (zO Z1.out 3).trans rfl; have hcz20_4 : w18.cell? ⟨Z10, 4, none⟩ = some (.int .i64 a1_4) := (zO Z1.out 4).trans rfl; have hcz20_5 : w18.cell? ⟨Z10, 5, none⟩ = some (.slice A1_5 l1_5.length c1_5) := (zO Z1.out 5).trans rfl; have hfz20_0 := yE Z1.out 0; have hfz20_1 := yE Z1.out 1; have hfz20_2 := yE Z1.out 2; have hfz20_3 := yE Z1.out 3; have hfz20_4 := yE Z1.out 4; have hfz20_5 := yE Z1.out 5) | ((with_reducible refine gate_callee (f := 19) rfl ?_); refine goesL_ (some 26) rfl rfl Try.func19 (by kernel_rfl) rfl #[.slice A0_0 l0_0.length c0_0, .slice A0_1 l0_1.length c0_1, .agg #[.int .i64 a1_0, .int .i64 a1_1, .int .i64 a1_2, .int .i64 a1_3, .int .i64 a1_4, .slice A1_5 l1_5.length c1_5]] rfl (by (try simp only [yH, yI, yJ]); first | done | rfl | (simp only [yG, yF]; rfl)) ?_; (with_reducible refine (dist_Weights.calls k _ _ l0_0 _ _ l0_1 a1_0 a1_1 a1_2 a1_3 a1_4 _ _ l1_5 t500 t503 _ ?side1 ?side2 ?side3 ?side4 ?side5 ?side6 A7.out).mono ?_); (case side1 => repeat (first | exact (yc HR0_0.out HB.out) | (with_reducible refine yS ?_ _) | (with_reducible refine yT ?_ _) | (with_reducible refine yU ?_))); (case side2 => exact HC0_0.out); (case side3 => repeat (first | exact (yc HR0_1.out HB.out) | (with_reducible refine yS ?_ _) | (with_reducible refine yT ?_ _) | (with_reducible refine yU ?_))); (case side4 => exact HC0_1.out); (case side5 => repeat (first | exact (yc HR1_5.out HB.out) | (with_reducible refine yS ?_ _) | (with_reducible refine yT ?_ _) | (with_reducible refine yU ?_))); (case side6 => exact HC1_5.out); rintro e w21 ⟨v501, rfl, ho0, hb⟩; refine ⟨_, rfl, ?_⟩; have n0_ := zK (Kd.R_lower ho0 (yK (by repeat (first | (with_reducible first | exact HB.out | apply zJ | apply zD | apply zE | refine zI ?_ Z2.out | refine zI ?_ Z3.out) | exact HB.out)))); have n1_ := zK (zP (g := Z9) (o := .cells #[.slice A0_0 l0_0.length c0_0, .slice A0_1 l0_1.length c0_1] 39 (0, 0)) (by (with_reducible repeat (first | refine zF ?_ _ | refine zH ?_ | refine zG ?_ _)); exact Z0.out) hb); have n2_ := zK (zP (g := Z10) (o := .cells #[.int .i64 a1_0, .int .i64 a1_1, .int .i64 a1_2, .int .i64 a1_3, .int .i64 a1_4, .slice A1_5 l1_5.length c1_5] 24 (0, 0)) (by (with_reducible repeat (first | refine zF ?_ _ | refine zH ?_ | refine zG ?_ _)); exact Z1.out) hb); have n3_ := zK (yL (by repeat (first | (with_reducible first | exact HB.out | apply zJ | apply zD | apply zE | refine zI ?_ Z2.out | refine zI ?_ Z3.out) | exact HB.out)) hb); clear Z0 Z1 HB; have HO502 := n0_; have Z0 := n1_; have Z1 := n2_; have HB := n3_; clear n0_ n1_ n2_ n3_; (try clear hb); (try clear hb2); (try clear hk); (try clear hi); (try clear ho0); have hcz22_0 : w21.cell? ⟨Z9, 0, none⟩ = some (.slice A0_0 l0_0.length c0_0) := (zO Z0.out 0).trans rfl; have hcz22_1 : w21.cell? ⟨Z9, 1, none⟩ = some (.slice A0_1 l0_1.length c0_1) := (zO Z0.out 1).trans rfl; have hfz22_0 := yE Z0.out 0; have hfz22_1 := yE Z0.out 1; have hcz23_0 : w21.cell? ⟨Z10, 0, none⟩ = some (.int .i64 a1_0) := (zO Z1.out 0).trans rfl; have hcz23_1 : w21.cell? ⟨Z10, 1, none⟩ = some (.int .i64 a1_1) := (zO Z1.out 1).trans rfl; have hcz23_2 : w21.cell? ⟨Z10, 2, none⟩ = some (.int .i64 a1_2) := (zO Z1.out 2).trans rfl; have hcz23_3 : w21.cell? ⟨Z10, 3, none⟩ = some (.int .i64 a1_3) := (zO Z1.out 3).trans rfl; have hcz23_4 : w21.cell? ⟨Z10, 4, none⟩ = some (.int .i64 a1_4) := (zO Z1.out 4).trans rfl; have hcz23_5 : w21.cell? ⟨Z10, 5, none⟩ = some (.slice A1_5 l1_5.length c1_5) := (zO Z1.out 5).trans rfl; have hfz23_0 := yE Z1.out 0; have hfz23_1 := yE Z1.out 1; have hfz23_2 := yE Z1.out 2; have hfz23_3 := yE Z1.out 3; have hfz23_4 := yE Z1.out 4; have hfz23_5 := yE Z1.out 5) | ((with_reducible refine gate_callee (f := 19) rfl ?_); refine goesL_ (some 35) rfl rfl Try.func19 (by kernel_rfl) rfl #[.slice A0_0 l0_0.length c0_0, .slice A0_1 l0_1.length c0_1, .agg #[.int .i64 a1_0, .int .i64 a1_1, .int .i64 a1_2, .int .i64 a1_3, .int .i64 a1_4, .slice A1_5 l1_5.length c1_5]] rfl (by (try simp only [yH, yI, yJ]); first | done | rfl | (simp only [yG, yF]; rfl)) ?_; (with_reducible refine (dist_Weights.calls k _ _ l0_0 _ _ l0_1 a1_0 a1_1 a1_2 a1_3 a1_4 _ _ l1_5 t504 t507 _ ?side1 ?side2 ?side3 ?side4 ?side5 ?side6 A8.out).mono ?_); (case side1 => repeat (first | exact (yc HR0_0.out HB.out) | (with_reducible refine yS ?_ _) | (with_reducible refine yT ?_ _) | (with_reducible refine yU ?_))); (case side2 => exact HC0_0.out); (case side3 => repeat (first | exact (yc HR0_1.out HB.out) | (with_reducible refine yS ?_ _) | (with_reducible refine yT ?_ _) | (with_reducible refine yU ?_))); (case side4 => exact HC0_1.out); (case side5 => repeat (first | exact (yc HR1_5.out HB.out) | (with_reducible refine yS ?_ _) | (with_reducible refine yT ?_ _) | (with_reducible refine yU ?_))); (case side6 => exact HC1_5.out); rintro e w24 ⟨v505, rfl, ho0, hb⟩; refine ⟨_, rfl, ?_⟩; have n0_ := zK (Kd.R_elder' (by (with_reducible repeat (first | apply zL | apply zM | apply zN)); exact HO502.out) (Kd.R_base ho0) hb); have n1_ := zK (Kd.R_lower (Kd.R_new' ho0 (Kd.R_lt (by (with_reducible repeat (first | apply zL | apply zM | apply zN)); exact HO502.out))) (yK (by repeat (first | (with_reducible first | exact HB.out | apply zJ | apply zD | apply zE | refine zI ?_ Z2.out | refine zI ?_ Z3.out) | exact HB.out)))); have n2_ := zK (zP (g := Z9) (o := .cells #[.slice A0_0 l0_0.length c0_0, .slice A0_1 l0_1.length c0_1] 39 (0, 0)) (by (with_reducible repeat (first | refine zF ?_ _ | refine zH ?_ | refine zG ?_ _)); exact Z0.out) hb); have n3_ := zK (zP (g := Z10) (o := .cells #[.int .i64 a1_0, .int .i64 a1_1, .int .i64 a1_2, .int .i64 a1_3, .int .i64 a1_4, .slice A1_5 l1_5.length c1_5] 24 (0, 0)) (by (with_reducible repeat (first | refine zF ?_ _ | refine zH ?_ | refine zG ?_ _)); exact Z1.out) hb); have n4_ := zK (yL (by repeat (first | (with_reducible first | exact HB.out | apply zJ | apply zD | apply zE | refine zI ?_ Z2.out | refine zI ?_ Z3.out) | exact HB.out)) hb); clear HO502 Z0 Z1 HB; have HO502 := n0_; have HO506 := n1_; have Z0 := n2_; have Z1 := n3_; have HB := n4_; clear n0_ n1_ n2_ n3_ n4_; (try clear hb); (try clear hb2); (try clear hk); (try clear hi); (try clear ho0)))
    have n0_ := zK (zN HO502.out)
    have n1_ := zK (zN HO506.out)
    have n2_ := zK (zH Z0.out)
    have n3_ := zK (zH Z1.out)
    have n4_ := zK (zE HB.out)
    clear HO502 HO506 Z0 Z1 HB
    have HO502 := n0_; have HO506 := n1_; have Z0 := n2_; have Z1 := n3_; have HB := n4_
    clear n0_ n1_ n2_ n3_ n4_
    refine start_ (n := 12) (S := fun w' => w'.cell? ⟨Z9, 0, none⟩ = some (.slice A0_0 l0_0.length c0_0) ∧ w'.cell? ⟨Z9, 1, none⟩ = some (.slice A0_1 l0_1.length c0_1) ∧ w'.cell? ⟨Z10, 0, none⟩ = some (.int .i64 a1_0) ∧ w'.cell? ⟨Z10, 1, none⟩ = some (.int .i64 a1_1) ∧ w'.cell? ⟨Z10, 2, none⟩ = some (.int .i64 a1_2) ∧ w'.cell? ⟨Z10, 3, none⟩ = some (.int .i64 a1_3) ∧ w'.cell? ⟨Z10, 4, none⟩ = some (.int .i64 a1_4) ∧ w'.cell? ⟨Z10, 5, none⟩ = some (.slice A1_5 l1_5.length c1_5)) (ds := []) #[false, false, false, false, false, false, false, false, false, false, false, false] (by kernel_rfl) rfl rfl ⟨(zO Z0.out 0).trans rfl, (zO Z0.out 1).trans rfl, (zO Z1.out 0).trans rfl, (zO Z1.out 1).trans rfl, (zO Z1.out 2).trans rfl, (zO Z1.out 3).trans rfl, (zO Z1.out 4).trans rfl, (zO Z1.out 5).trans rfl⟩ (fun hHeld => ?_); refine with_tabW w22_DistMemory.tab7 w22_DistMemory.bits7 (fun HT_ HW_ => ?_)
    generalize w24.drew = w25 at HO502 HO506 Z0 Z1 HB hHeld ⊢
    refine pure_ (i := 0) (N := some 39) (v := ?_) (a' := ?_) #[true, false, false, false, false, false, false, false, false, false, false, false] rfl rfl (any_of HT_.out (by kernel_rfl)) (fun _ _ _ h => h) (Or.inl ⟨by rfl, ?_⟩) ?_ ?_
    rotate_left
    ·intro w'
     go_simp
     with_reducible rfl
    rotate_left
    ·simp only [Act.put, zA, zB, zC, i64_w, i32_w]
     rfl
    refine pure_ (i := 2) (N := some 41) (v := ?_) (a' := ?_) #[true, false, true, false, false, false, false, false, false, false, false, false] rfl rfl (any_of HT_.out (by kernel_rfl)) (fun _ _ _ h => h) (Or.inl ⟨by rfl, ?_⟩) ?_ ?_
    rotate_left
    ·intro w'
     go_simp
     with_reducible rfl
    rotate_left
    ·simp only [Act.put, zA, zB, zC, i64_w, i32_w]
     rfl
    refine take_ (i := 1) (N := some 40) (v := ?_) (a' := ?_) #[true, true, true, false, false, false, false, false, false, false, false, false] rfl rfl (take_ofW HT_.out HW_.out (by kernel_rfl)) (fun _ _ _ h => h) (Or.inl ⟨by rfl, ?_⟩) hHeld ?_ ?_
    rotate_left
    ·rintro w' ⟨s0, s1, s2, s3, s4, s5, s6, s7⟩
     go_simp
     with_reducible rfl
    rotate_left
    ·simp only [Act.put, zA, zB, zC, i64_w, i32_w]
     rfl
    refine take_ (i := 3) (N := some 42) (v := ?_) (a' := ?_) #[true, true, true, true, false, false, false, false, false, false, false, false] rfl rfl (take_ofW HT_.out HW_.out (by kernel_rfl)) (fun _ _ _ h => h) (Or.inl ⟨by rfl, ?_⟩) hHeld ?_ ?_
    rotate_left
    ·rintro w' ⟨s0, s1, s2, s3, s4, s5, s6, s7⟩
     go_simp
     with_reducible rfl
    rotate_left
    ·simp only [Act.put, zA, zB, zC, i64_w, i32_w]
     rfl
    refine take_ (i := 4) (N := some 43) (v := ?_) (a' := ?_) #[true, true, true, true, true, false, false, false, false, false, false, false] rfl rfl (take_ofW HT_.out HW_.out (by kernel_rfl)) (fun _ _ _ h => h) (Or.inl ⟨by rfl, ?_⟩) hHeld ?_ ?_
    rotate_left
    ·rintro w' ⟨s0, s1, s2, s3, s4, s5, s6, s7⟩
     go_simp
     with_reducible rfl
    rotate_left
    ·simp only [Act.put, zA, zB, zC, i64_w, i32_w]
     rfl
    refine one_ (i := 5) (N := some 44) #[true, true, true, true, true, true, false, false, false, false, false, false] rfl rfl (one_of HT_.out (by kernel_rfl)) (by decide) (fun K hK => ?_)
    refine goes_ Try.func16 (by kernel_rfl) rfl #[.agg #[.int .i64 a1_0, .int .i64 a1_1, .int .i64 a1_2, .int .i64 a1_3, .int .i64 a1_4, .slice A1_5 l1_5.length c1_5]] (by rfl) rfl rfl (by (try simp only [yH, yI, yJ]); first | done | rfl | (simp only [yG, yF]; rfl)) ?_
    with_reducible refine (w22_plain.calls k a1_0 a1_1 a1_2 a1_3 a1_4 _ _ l1_5 t508 t509 t510 t511 t512 t513 _ ?side1 ?side2 A9.out).mono ?_
    (case side1 => repeat (first | exact (yc HR1_5.out HB.out) | (with_reducible refine yS ?_ _) | (with_reducible refine yT ?_ _) | (with_reducible refine yU ?_)))
    (case side2 => exact HC1_5.out)
    rintro e w26 ⟨v514, rfl, ho0, hb⟩
    refine ⟨_, rfl, ?_⟩
    have n0_ := zK (yb (by (with_reducible repeat (first | apply zL | apply zM | apply zN)); exact HO502.out) hb)
    have n1_ := zK (yb (by (with_reducible repeat (first | apply zL | apply zM | apply zN)); exact HO506.out) hb)
    have n2_ := zK (Kd.R_lower ho0 (yK (by repeat (first | (with_reducible first | exact HB.out | apply zJ | apply zD | apply zE | refine zI ?_ Z2.out | refine zI ?_ Z3.out) | exact HB.out))))
    have n3_ := zK (zP (g := Z9) (o := .cells #[.slice A0_0 l0_0.length c0_0, .slice A0_1 l0_1.length c0_1] 39 (0, 0)) (by (with_reducible repeat (first | refine zF ?_ _ | refine zH ?_ | refine zG ?_ _)); exact Z0.out) hb)
    have n4_ := zK (zP (g := Z10) (o := .cells #[.int .i64 a1_0, .int .i64 a1_1, .int .i64 a1_2, .int .i64 a1_3, .int .i64 a1_4, .slice A1_5 l1_5.length c1_5] 24 (0, 0)) (by (with_reducible repeat (first | refine zF ?_ _ | refine zH ?_ | refine zG ?_ _)); exact Z1.out) hb)
    have n5_ := zK (yL (by repeat (first | (with_reducible first | exact HB.out | apply zJ | apply zD | apply zE | refine zI ?_ Z2.out | refine zI ?_ Z3.out) | exact HB.out)) hb)
    clear HO502 HO506 Z0 Z1 HB
    have HO502 := n0_; have HO506 := n1_; have HO515 := n2_; have Z0 := n3_; have Z1 := n4_; have HB := n5_
    clear n0_ n1_ n2_ n3_ n4_ n5_
    (try clear hb)
    (try clear hb2)
    (try clear hk)
    (try clear hi)
    (try clear ho0)
    obtain ⟨Ao27, co27, eo27⟩ := Kd.R_slice HO515.out
    (first | subst eo27 | (injection eo27 with f1_ f2_ f3_; have f4_ := f1_.symm; have f5_ := f3_.symm; clear f1_ f2_ f3_; subst f4_; subst f5_))
    refine hK.out _ _ ⟨(zO Z0.out 0).trans rfl, (zO Z0.out 1).trans rfl, (zO Z1.out 0).trans rfl, (zO Z1.out 1).trans rfl, (zO Z1.out 2).trans rfl, (zO Z1.out 3).trans rfl, (zO Z1.out 4).trans rfl, (zO Z1.out 5).trans rfl⟩ (fun hHeld => ?_)
    clear hK K
    refine norm_ (a' := ?_) ?_ ?_
    rotate_left
    ·show Act.put _ (some 44) _ = _
     simp only [Act.put, zA, zB, zC, i64_w, i32_w]
     rfl
    refine one_ (i := 6) (N := some 45) #[true, true, true, true, true, true, true, false, false, false, false, false] rfl rfl (one_of HT_.out (by kernel_rfl)) (by decide) (fun K hK => ?_)
    refine goes_ Try.func20 (by kernel_rfl) rfl #[.slice A0_0 l0_0.length c0_0, .slice A0_1 l0_1.length c0_1, .agg #[.int .i64 t508, .int .i64 t509, .int .i64 t510, .int .i64 t511, .int .i64 t512, .slice Ao27 t513.length co27]] (by rfl) rfl rfl (by (try simp only [yH, yI, yJ]); first | done | rfl | (simp only [yG, yF]; rfl)) ?_
    with_reducible refine (r22_Weights.calls k _ _ l0_0 _ _ l0_1 t508 t509 t510 t511 t512 _ _ t513 t516 t519 _ ?side1 ?side2 ?side3 ?side4 ?side5 ?side6 A10.out).mono ?_
    (case side1 => repeat (first | exact (yc HR0_0.out HB.out) | (with_reducible refine yS ?_ _) | (with_reducible refine yT ?_ _) | (with_reducible refine yU ?_)))
    (case side2 => exact HC0_0.out)
    (case side3 => repeat (first | exact (yc HR0_1.out HB.out) | (with_reducible refine yS ?_ _) | (with_reducible refine yT ?_ _) | (with_reducible refine yU ?_)))
    (case side4 => exact HC0_1.out)
    (case side5 => repeat (first | exact (yM HO515.out).2.2 | (with_reducible refine yS ?_ _) | (with_reducible refine yT ?_ _) | (with_reducible refine yU ?_)))
    (case side6 => exact (yM HO515.out).2.1)
    rintro e w28 ⟨v517, rfl, ho0, hb⟩
    refine ⟨_, rfl, ?_⟩
    have n0_ := zK (Kd.R_elder' (by (with_reducible repeat (first | apply zL | apply zM | apply zN)); exact HO502.out) (Kd.R_base ho0) hb)
    have n1_ := zK (Kd.R_elder' (by (with_reducible repeat (first | apply zL | apply zM | apply zN)); exact HO506.out) (Kd.R_base ho0) hb)
    have n2_ := zK (yb (by (with_reducible repeat (first | apply zL | apply zM | apply zN)); exact HO515.out) hb)
    have n3_ := zK (Kd.R_lower (Kd.R_new' (Kd.R_new' ho0 (Kd.R_lt (by (with_reducible repeat (first | apply zL | apply zM | apply zN)); exact HO502.out))) (Kd.R_lt (by (with_reducible repeat (first | apply zL | apply zM | apply zN)); exact HO506.out))) (yK (by repeat (first | (with_reducible first | exact HB.out | apply zJ | apply zD | apply zE | refine zI ?_ Z2.out | refine zI ?_ Z3.out) | exact HB.out))))
    have n4_ := zK (zP (g := Z9) (o := .cells #[.slice A0_0 l0_0.length c0_0, .slice A0_1 l0_1.length c0_1] 39 (0, 0)) (by (with_reducible repeat (first | refine zF ?_ _ | refine zH ?_ | refine zG ?_ _)); exact Z0.out) hb)
    have n5_ := zK (zP (g := Z10) (o := .cells #[.int .i64 a1_0, .int .i64 a1_1, .int .i64 a1_2, .int .i64 a1_3, .int .i64 a1_4, .slice A1_5 l1_5.length c1_5] 24 (0, 0)) (by (with_reducible repeat (first | refine zF ?_ _ | refine zH ?_ | refine zG ?_ _)); exact Z1.out) hb)
    have n6_ := zK (yL (by repeat (first | (with_reducible first | exact HB.out | apply zJ | apply zD | apply zE | refine zI ?_ Z2.out | refine zI ?_ Z3.out) | exact HB.out)) hb)
    clear HO502 HO506 HO515 Z0 Z1 HB
    have HO502 := n0_; have HO506 := n1_; have HO515 := n2_; have HO518 := n3_; have Z0 := n4_; have Z1 := n5_; have HB := n6_
    clear n0_ n1_ n2_ n3_ n4_ n5_ n6_
    (try clear hb)
    (try clear hb2)
    (try clear hk)
    (try clear hi)
    (try clear ho0)
    refine hK.out _ _ ⟨(zO Z0.out 0).trans rfl, (zO Z0.out 1).trans rfl, (zO Z1.out 0).trans rfl, (zO Z1.out 1).trans rfl, (zO Z1.out 2).trans rfl, (zO Z1.out 3).trans rfl, (zO Z1.out 4).trans rfl, (zO Z1.out 5).trans rfl⟩ (fun hHeld => ?_)
    clear hK K
    refine norm_ (a' := ?_) ?_ ?_
    rotate_left
    ·show Act.put _ (some 45) _ = _
     simp only [Act.put, zA, zB, zC, i64_w, i32_w]
     rfl
    refine pure_ (i := 7) (N := some 38) (v := ?_) (a' := ?_) #[true, true, true, true, true, true, true, true, false, false, false, false] rfl rfl (any_of HT_.out (by kernel_rfl)) (fun _ _ _ h => h) (Or.inl ⟨by rfl, ?_⟩) ?_ ?_
    rotate_left
    ·intro w'
     go_simp
     with_reducible rfl
    rotate_left
    ·simp only [Act.put, zA, zB, zC, i64_w, i32_w]
     rfl
    refine pure_ (i := 8) (N := some 46) (v := ?_) (a' := ?_) #[true, true, true, true, true, true, true, true, true, false, false, false] rfl rfl (any_of HT_.out (by kernel_rfl)) (fun _ _ _ h => h) (Or.inl ⟨by rfl, ?_⟩) ?_ ?_
    rotate_left
    ·intro w'
     go_simp
     with_reducible rfl
    rotate_left
    ·simp only [Act.put, zA, zB, zC, i64_w, i32_w]
     rfl
    refine pure_ (i := 9) (N := some 47) (v := ?_) (a' := ?_) #[true, true, true, true, true, true, true, true, true, true, false, false] rfl rfl (any_of HT_.out (by kernel_rfl)) (fun _ _ _ h => h) (Or.inl ⟨by rfl, ?_⟩) ?_ ?_
    rotate_left
    ·intro w'
     go_simp
     with_reducible rfl
    rotate_left
    ·simp only [Act.put, zA, zB, zC, i64_w, i32_w]
     rfl
    refine pure_ (i := 10) (N := some 9) (v := ?_) (a' := ?_) #[true, true, true, true, true, true, true, true, true, true, true, false] rfl rfl (any_of HT_.out (by kernel_rfl)) (fun _ _ _ h => h) (Or.inl ⟨by rfl, ?_⟩) ?_ ?_
    rotate_left
    ·intro w'
     go_simp
     with_reducible rfl
    rotate_left
    ·simp only [Act.put, zA, zB, zC, i64_w, i32_w]
     rfl
    refine pure_ (i := 11) (N := some 10) (v := ?_) (a' := ?_) #[true, true, true, true, true, true, true, true, true, true, true, true] rfl rfl (any_of HT_.out (by kernel_rfl)) (fun _ _ _ h => h) (Or.inl ⟨by rfl, ?_⟩) ?_ ?_
    rotate_left
    ·intro w'
     go_simp
     with_reducible rfl
    rotate_left
    ·simp only [Act.put, zA, zB, zC, i64_w, i32_w]
     rfl
    refine done_ (done_of HT_.out (by kernel_rfl)) ?_
    go_upto_region 8 with (fail)
    go_cut [53] (fun v53 wc => ∃ (kq : Nat) (x53_10 : Bool), v53 = .bool x53_10 ∧ Aside0 (w22_DistMemory.j0 kq t500 t504 t516 x53_10 l0_0 l0_1 a1_0 a1_1 a1_2 a1_3 a1_4 l1_5 = some r) ∧ Aside0 (kq ≤ k) ∧ Aside0 (Kd.R (Kd.int .i64) 2 wc w.heap.size (fun k_ => some k_ ≠ (v505 : Value).ownBlock ∧ some k_ ≠ (v517 : Value).ownBlock) v501 t500) ∧ Aside0 (Kd.R (Kd.int .i64) 2 wc w.heap.size (fun k_ => some k_ ≠ (v501 : Value).ownBlock ∧ some k_ ≠ (v517 : Value).ownBlock) v505 t504) ∧ Aside0 (Kd.R (Kd.int .i64) 2 wc w.heap.size (fun k_ => some k_ ≠ (v501 : Value).ownBlock ∧ some k_ ≠ (v505 : Value).ownBlock) v517 t516) ∧ Aside0 (wc.heap[Z9]? = some (.cells #[(.slice A0_0 l0_0.length c0_0), (.slice A0_1 l0_1.length c0_1)] 39 (0, 0))) ∧ Aside0 (wc.heap[Z10]? = some (.cells #[.int .i64 a1_0, .int .i64 a1_1, .int .i64 a1_2, .int .i64 a1_3, .int .i64 a1_4, (.slice A1_5 l1_5.length c1_5)] 24 (0, 0))) ∧ Aside0 (Below w.heap.size w wc))
    case first =>
     have H := HC11.out
     clear HC11
     by_cases c29 : t503 = 0
     ·rw [if_pos c29] at H
      have c29b0 : (t503 == 0) = true := beq_iff_eq.mpr c29
      have c29b1 : (t503 != 0) = false := bne_eq_false_iff_eq.mpr c29
      clear c29
      (first | rw [c29b0] | (simp only [i64_w, i32_w]; rw [c29b0]) | skip)
      have H' := zK H
      clear H
      go_wp2
      go_meet
      case rel => exact ⟨_, ((t507 != 0)), (by first | rfl | (simp; done) | (simp [*]; done)), H', ⟨by first | omega | exact yN _⟩, ⟨by (with_reducible repeat (first | apply zL | apply zM | apply zN)); exact yd HO502.out (fun _ hk => ⟨hk.1.2, hk.2⟩)⟩, ⟨by (with_reducible repeat (first | apply zL | apply zM | apply zN)); exact yd HO506.out (fun _ hk => ⟨hk.1.2, hk.2⟩)⟩, ⟨by (with_reducible repeat (first | apply zL | apply zM | apply zN)); exact yd HO518.out (fun _ hk => ⟨hk.1.2, hk.2⟩)⟩, ⟨by (with_reducible repeat (first | refine zF ?_ _ | refine zH ?_ | refine zG ?_ _)); exact Z0.out⟩, ⟨by (with_reducible repeat (first | refine zF ?_ _ | refine zH ?_ | refine zG ?_ _)); exact Z1.out⟩, ⟨by repeat (first | (with_reducible first | exact HB.out | apply zJ | apply zD | apply zE | refine zI ?_ Z2.out | refine zI ?_ Z3.out) | exact HB.out)⟩⟩
     ·rw [if_neg c29] at H
      have c29b0 : (t503 == 0) = false := beq_eq_false_iff_ne.mpr c29
      have c29b1 : (t503 != 0) = true := bne_iff_ne.mpr c29
      (first | rw [c29b0] | (simp only [i64_w, i32_w]; rw [c29b0]) | skip)
      have H' := zK H
      clear H
      go_wp2
      go_meet
      case rel => exact ⟨_, (true), (by first | rfl | (simp; done) | (simp [*]; done)), H', ⟨by first | omega | exact yN _⟩, ⟨by (with_reducible repeat (first | apply zL | apply zM | apply zN)); exact yd HO502.out (fun _ hk => ⟨hk.1.2, hk.2⟩)⟩, ⟨by (with_reducible repeat (first | apply zL | apply zM | apply zN)); exact yd HO506.out (fun _ hk => ⟨hk.1.2, hk.2⟩)⟩, ⟨by (with_reducible repeat (first | apply zL | apply zM | apply zN)); exact yd HO518.out (fun _ hk => ⟨hk.1.2, hk.2⟩)⟩, ⟨by (with_reducible repeat (first | refine zF ?_ _ | refine zH ?_ | refine zG ?_ _)); exact Z0.out⟩, ⟨by (with_reducible repeat (first | refine zF ?_ _ | refine zH ?_ | refine zG ?_ _)); exact Z1.out⟩, ⟨by repeat (first | (with_reducible first | exact HB.out | apply zJ | apply zD | apply zE | refine zI ?_ Z2.out | refine zI ?_ Z3.out) | exact HB.out)⟩⟩
    case rest =>
     clear HC11
     try clear c1
     try clear c2
     try clear p2
     try clear c4
     try clear c6
     try clear c8
     try clear c13
     try clear c15
     try clear c16
     try clear c19
     try clear c20
     try clear c22
     try clear c29
     try clear c29b0
     try clear c29b1
     try clear hcz16_0
     try clear hcz16_1
     try clear hcz17_0
     try clear hcz17_1
     try clear hcz17_2
     try clear hcz17_3
     try clear hcz17_4
     try clear hcz17_5
     try clear hcz19_0
     try clear hcz19_1
     try clear hcz20_0
     try clear hcz20_1
     try clear hcz20_2
     try clear hcz20_3
     try clear hcz20_4
     try clear hcz20_5
     try clear hcz22_0
     try clear hcz22_1
     try clear hcz23_0
     try clear hcz23_1
     try clear hcz23_2
     try clear hcz23_3
     try clear hcz23_4
     try clear hcz23_5
     try clear hfz16_0
     try clear hfz16_1
     try clear hfz17_0
     try clear hfz17_1
     try clear hfz17_2
     try clear hfz17_3
     try clear hfz17_4
     try clear hfz17_5
     try clear hfz19_0
     try clear hfz19_1
     try clear hfz20_0
     try clear hfz20_1
     try clear hfz20_2
     try clear hfz20_3
     try clear hfz20_4
     try clear hfz20_5
     try clear hfz22_0
     try clear hfz22_1
     try clear hfz23_0
     try clear hfz23_1
     try clear hfz23_2
     try clear hfz23_3
     try clear hfz23_4
     try clear hfz23_5
     obtain ⟨kq, x53_10, rfl, HA, HJ10, HO_5, HO_7, HO_9, Z0, Z1, HB⟩ := hcut
     cases kq with
     | zero => exact absurd HA.out (by simp [w22_DistMemory.j0])
     | succ kj10 =>
      have H := HA.out
      clear HA
      simp only [w22_DistMemory.j0] at H
      by_cases c30 : x53_10 = true
      ·subst c30
       have H1 : (some false) = some r := by rw [if_pos rfl] at H; exact H
       clear H
       have H := H1
       clear H1
       obtain rfl := yY H
       go_wp2
       go_ret
       exact ⟨by first | rfl | (simp [errW_none, errW_some] <;> rfl) | (simp [*, errW_none, errW_some] <;> rfl), by repeat (first | (with_reducible first | exact HB.out | apply zJ | apply zD | apply zE | refine zI ?_ Z2.out | refine zI ?_ Z3.out) | exact HB.out)⟩
      ·replace c30 := yh.mpr c30
       subst c30
       have H1 : (w22_DistMemory.l0 kj10 t500 t504 t516 (t500.length : Int) 0 l0_0 l0_1 a1_0 a1_1 a1_2 a1_3 a1_4 l1_5) = some r := by rw [if_neg (show ¬ (false = true) by decide)] at H; exact H
       clear H
       have H := H1
       clear H1
       have H' := zK H
       clear H
       obtain ⟨Ao31, co31, eo31⟩ := Kd.R_slice HO_5.out
       subst eo31
       go_wp2
       go_loopg [56] kj10 (fun kq v56 w' => ∃ (x5_2 : List Int) (x56_2 : Int), v56 = .int .i64 x56_2 ∧ Aside0 (w22_DistMemory.l0 kq x5_2 t504 t516 (t500.length : Int) x56_2 l0_0 l0_1 a1_0 a1_1 a1_2 a1_3 a1_4 l1_5 = some r) ∧ Aside0 (kq ≤ kj10) ∧ Aside0 (Kd.R (Kd.int .i64) 2 w' w.heap.size (fun k_ => some k_ ≠ (v505 : Value).ownBlock ∧ some k_ ≠ (v517 : Value).ownBlock) (.slice Ao31 t500.length co31) x5_2) ∧ Aside0 (Kd.R (Kd.int .i64) 2 w' w.heap.size (fun k_ => some k_ ≠ ((.slice Ao31 t500.length co31) : Value).ownBlock ∧ some k_ ≠ (v517 : Value).ownBlock) v505 t504) ∧ Aside0 (Kd.R (Kd.int .i64) 2 w' w.heap.size (fun k_ => some k_ ≠ ((.slice Ao31 t500.length co31) : Value).ownBlock ∧ some k_ ≠ (v505 : Value).ownBlock) v517 t516) ∧ Aside0 (w'.heap[Z9]? = some (.cells #[(.slice A0_0 l0_0.length c0_0), (.slice A0_1 l0_1.length c0_1)] 39 (0, 0))) ∧ Aside0 (w'.heap[Z10]? = some (.cells #[.int .i64 a1_0, .int .i64 a1_1, .int .i64 a1_2, .int .i64 a1_3, .int .i64 a1_4, (.slice A1_5 l1_5.length c1_5)] 24 (0, 0))) ∧ Aside0 (Below w.heap.size w w'))
       case atStart => exact ⟨(t500), (0), (by first | rfl | (simp; done) | (simp [*]; done)), H', ⟨yN _⟩, ⟨by (with_reducible repeat (first | apply zL | apply zM | apply zN)); exact HO_5.out⟩, ⟨by (with_reducible repeat (first | apply zL | apply zM | apply zN)); exact HO_7.out⟩, ⟨by (with_reducible repeat (first | apply zL | apply zM | apply zN)); exact HO_9.out⟩, ⟨by (with_reducible repeat (first | refine zF ?_ _ | refine zH ?_ | refine zG ?_ _)); exact Z0.out⟩, ⟨by (with_reducible repeat (first | refine zF ?_ _ | refine zH ?_ | refine zG ?_ _)); exact Z1.out⟩, ⟨by repeat (first | (with_reducible first | exact HB.out | apply zJ | apply zD | apply zE | refine zI ?_ Z2.out | refine zI ?_ Z3.out) | exact HB.out)⟩⟩
       case round =>
        clear H'
        try clear c1
        try clear c2
        try clear p2
        try clear c3
        try clear c4
        try clear c6
        try clear c8
        try clear c13
        try clear c15
        try clear c16
        try clear c19
        try clear c20
        try clear c22
        try clear c29
        try clear c29b0
        try clear c29b1
        try clear c30
        try clear hcz16_0
        try clear hcz16_1
        try clear hcz17_0
        try clear hcz17_1
        try clear hcz17_2
        try clear hcz17_3
        try clear hcz17_4
        try clear hcz17_5
        try clear hcz19_0
        try clear hcz19_1
        try clear hcz20_0
        try clear hcz20_1
        try clear hcz20_2
        try clear hcz20_3
        try clear hcz20_4
        try clear hcz20_5
        try clear hcz22_0
        try clear hcz22_1
        try clear hcz23_0
        try clear hcz23_1
        try clear hcz23_2
        try clear hcz23_3
        try clear hcz23_4
        try clear hcz23_5
        try clear hfz16_0
        try clear hfz16_1
        try clear hfz17_0
        try clear hfz17_1
        try clear hfz17_2
        try clear hfz17_3
        try clear hfz17_4
        try clear hfz17_5
        try clear hfz19_0
        try clear hfz19_1
        try clear hfz20_0
        try clear hfz20_1
        try clear hfz20_2
        try clear hfz20_3
        try clear hfz20_4
        try clear hfz20_5
        try clear hfz22_0
        try clear hfz22_1
        try clear hfz23_0
        try clear hfz23_1
        try clear hfz23_2
        try clear hfz23_3
        try clear hfz23_4
        try clear hfz23_5
        try clear p2
        obtain ⟨x5_2, x56_2, rfl, HA, HK2, HO_5, HO_7, HO_9, Z0, Z1, HB⟩ := hrel
        have hl5_2 := (yM HO_5.out).1
        rw [hl5_2] at HO_5
        (try simp only [hl5_2])
        (try simp only [hl5_2] at Z0)
        (try simp only [hl5_2] at Z1)
        (try simp only [hl5_2] at HO_7)
        (try simp only [hl5_2] at HO_9)
        cases gk with
        | zero => exact absurd HA.out (by simp [w22_DistMemory.l0])
        | succ k2 =>
         have H := HA.out
         clear HA
         simp only [w22_DistMemory.l0] at H
         by_cases c32 : x56_2 < (t500.length : Int)
         ·rw [if_pos c32] at H
          have c32b0 : decide (x56_2 < (t500.length : Int)) = true := yC c32
          clear c32
          by_cases c33 : 0 ≤ x56_2
          ·rw [if_pos c33] at H
           have c33b0 : decide (0 ≤ x56_2) = true := yC c33
           clear c33
           by_cases c34 : x56_2 < (x5_2.length : Int)
           ·rw [if_pos c34] at H
            have c34b0 : decide (x56_2 < (x5_2.length : Int)) = true := yC c34
            clear c34
            obtain ⟨y520, hy520⟩ : ∃ y_ : List Int, y_ = (x5_2.set (x56_2 : Int).toNat (-7)) := ⟨_, rfl⟩
            replace H : (w22_DistMemory.l0 k2 y520 t504 t516 (t500.length : Int) (wrap64 (x56_2 + 1)) l0_0 l0_1 a1_0 a1_1 a1_2 a1_3 a1_4 l1_5) = some r := by first | (rw [hy520]; with_reducible exact H) | (have H2_ := (yV _ _).symm.trans H; rw [hy520]; with_reducible exact H2_) | (have H2_ := (yV _ _).symm.trans H; with_reducible exact H2_) | with_reducible exact H | (rw [hy520]; exact H) | exact H
            have Ny520 := zK hy520
            clear hy520
            have H' := zK H
            clear H
            have p35 : 0 ≤ (x56_2 : Int) := yB (by first | (with_reducible assumption) | assumption)
            have q35 : (x56_2 : Int) < ((x5_2.length : Int) : Int) := yB (by first | (with_reducible assumption) | assumption)
            obtain ⟨go35, co35, eo35, Z8, gl35, cl35, HG35⟩ := Kd.R_form HO_5.out (by omega)
            (first | cases eo35 | (injection eo35 with ea_ en_ ec_; (first | subst ea_ | (injection ea_ with ea_; subst ea_)); subst ec_; clear en_))
            have GB35 := zK Z8
            have GG35 := zK HG35
            clear Z8 gl35 HG35
            obtain ⟨hx35_0, hf35_0⟩ := Kd.R_celln 0 HO_5.out (x56_2 : Int) p35 q35
            replace p35 := yg p35
            replace q35 := yg q35
            have HP36 := Kd.R_putg HO_5.out (x56_2 : Int) (-7)
            go_wp2_with (first | ((with_reducible refine gate_store (t := 2) (p := 61) rfl ?_); refine store_event (t := 2) (p := 61) (v := ?vo_w37) (w1 := (wr.setCell ⟨go35, (x56_2 : Int).toNat, none⟩ (.int .i64 (-7)))) ?hg ?ho ?hn ?hr ?_; (case ho => rfl); (case hg => rfl); (case hn => rfl); (case hr => first | (go_simp; done) | (go_simp; rfl)); intro w37 hw; have hg : wr.grownBy w37 (some go35) := (by rw [hw]; exact HP36.2); have hp_ : Kd.R (Kd.int .i64) 2 w37 w.heap.size (fun k_ => some k_ ≠ (v505 : Value).ownBlock ∧ some k_ ≠ (v517 : Value).ownBlock) (.slice (some ⟨go35, 0, none⟩) x5_2.length co31) y520 := (by rw [hw, Ny520.out]; exact HP36.1); clear HP36; have n0_ := zK (hp_); have n1_ := zK (Kd.R_after (v := (.slice (some ⟨go35, 0, none⟩) x5_2.length co31)) (v1 := (.slice (some ⟨go35, 0, none⟩) x5_2.length co31)) (ok := (fun k_ => some k_ ≠ (v517 : Value).ownBlock)) (by (with_reducible repeat (first | apply zL | apply zM | apply zN)); exact yd HO_7.out (fun _ hk => ⟨hk.2, hk.1⟩)) hg (.inl rfl)); have n2_ := zK (Kd.R_after (v := (.slice (some ⟨go35, 0, none⟩) x5_2.length co31)) (v1 := (.slice (some ⟨go35, 0, none⟩) x5_2.length co31)) (ok := (fun k_ => some k_ ≠ (v505 : Value).ownBlock)) (by (with_reducible repeat (first | apply zL | apply zM | apply zN)); exact yd HO_9.out (fun _ hk => ⟨hk.2, hk.1⟩)) hg (.inl rfl)); have n3_ := zK (blk_grown (g := Z9) (o := .cells #[.slice A0_0 l0_0.length c0_0, .slice A0_1 l0_1.length c0_1] 39 (0, 0)) (by (with_reducible repeat (first | refine zF ?_ _ | refine zH ?_ | refine zG ?_ _)); exact Z0.out) hg (Kd.R_ne HO_5.out Z0.out (by decide))); have n4_ := zK (blk_grown (g := Z10) (o := .cells #[.int .i64 a1_0, .int .i64 a1_1, .int .i64 a1_2, .int .i64 a1_3, .int .i64 a1_4, .slice A1_5 l1_5.length c1_5] 24 (0, 0)) (by (with_reducible repeat (first | refine zF ?_ _ | refine zH ?_ | refine zG ?_ _)); exact Z1.out) hg (Kd.R_ne HO_5.out Z1.out (by decide))); have n5_ := zK ((by rw [hw]; exact zI (HB.out) GB35.out : Below w.heap.size w w37)); clear HO_5 HO_7 HO_9 Z0 Z1 HB; have HO_5 := n0_; have HO_7 := n1_; have HO_9 := n2_; have Z0 := n3_; have Z1 := n4_; have HB := n5_; clear n0_ n1_ n2_ n3_ n4_ n5_ hg hw hp_))
            (try simp only [← hl5_2])
            go_roundg k2
            case measure => have := HJ10.out; have := HK2.out; omega
            case rel => exact ⟨(y520), (wrap64 (x56_2 + 1)), (by first | rfl | (simp; done) | (simp [*]; done)), H', ⟨by have := HJ10.out; have := HK2.out; omega⟩, ⟨by (try simp only [hl5_2]); (with_reducible repeat (first | apply zL | apply zM | apply zN)); exact HO_5.out⟩, ⟨by (try simp only [hl5_2]); (with_reducible repeat (first | apply zL | apply zM | apply zN)); exact yd HO_7.out (fun _ hk => ⟨hk.2, hk.1⟩)⟩, ⟨by (try simp only [hl5_2]); (with_reducible repeat (first | apply zL | apply zM | apply zN)); exact yd HO_9.out (fun _ hk => ⟨hk.2, hk.1⟩)⟩, ⟨by (try simp only [hl5_2]); (with_reducible repeat (first | refine zF ?_ _ | refine zH ?_ | refine zG ?_ _)); exact Z0.out⟩, ⟨by (try simp only [hl5_2]); (with_reducible repeat (first | refine zF ?_ _ | refine zH ?_ | refine zG ?_ _)); exact Z1.out⟩, ⟨by repeat (first | (with_reducible first | exact HB.out | apply zJ | apply zD | apply zE | refine zI ?_ Z2.out | refine zI ?_ Z3.out) | exact HB.out)⟩⟩
           ·rw [if_neg c34] at H
            exact absurd H (by simp)
          ·rw [if_neg c33] at H
           exact absurd H (by simp)
         ·rw [if_neg c32] at H
          have c32b0 : decide (x56_2 < (t500.length : Int)) = false := yD c32
          (try simp only [hl5_2] at c32b0)
          clear c32
          have H' := zK H
          clear H
          go_wp2
          go_loopg [5, 63] k2 (fun kq v5 v63 w' => ∃ (x5_3 : List Int) (x63_3 : Int), v63 = .int .i64 x63_3 ∧ Aside0 (w22_DistMemory.l1 kq x5_3 t504 t516 x63_3 l0_0 l0_1 a1_0 a1_1 a1_2 a1_3 a1_4 l1_5 = some r) ∧ Aside0 (kq ≤ k2) ∧ Aside0 (Kd.R (Kd.int .i64) 2 w' w.heap.size (fun k_ => some k_ ≠ (v505 : Value).ownBlock ∧ some k_ ≠ (v517 : Value).ownBlock) v5 x5_3) ∧ Aside0 (Kd.R (Kd.int .i64) 2 w' w.heap.size (fun k_ => some k_ ≠ (v5 : Value).ownBlock ∧ some k_ ≠ (v517 : Value).ownBlock) v505 t504) ∧ Aside0 (Kd.R (Kd.int .i64) 2 w' w.heap.size (fun k_ => some k_ ≠ (v5 : Value).ownBlock ∧ some k_ ≠ (v505 : Value).ownBlock) v517 t516) ∧ Aside0 (w'.heap[Z9]? = some (.cells #[(.slice A0_0 l0_0.length c0_0), (.slice A0_1 l0_1.length c0_1)] 39 (0, 0))) ∧ Aside0 (w'.heap[Z10]? = some (.cells #[.int .i64 a1_0, .int .i64 a1_1, .int .i64 a1_2, .int .i64 a1_3, .int .i64 a1_4, (.slice A1_5 l1_5.length c1_5)] 24 (0, 0))) ∧ Aside0 (Below w.heap.size w w'))
          case atStart => exact ⟨(x5_2), (0), (by first | rfl | (simp; done) | (simp [*]; done)), H', ⟨yN _⟩, ⟨by (try simp only [hl5_2]); (with_reducible repeat (first | apply zL | apply zM | apply zN)); exact HO_5.out⟩, ⟨by (try simp only [hl5_2]); (with_reducible repeat (first | apply zL | apply zM | apply zN)); exact HO_7.out⟩, ⟨by (try simp only [hl5_2]); (with_reducible repeat (first | apply zL | apply zM | apply zN)); exact HO_9.out⟩, ⟨by (try simp only [hl5_2]); (with_reducible repeat (first | refine zF ?_ _ | refine zH ?_ | refine zG ?_ _)); exact Z0.out⟩, ⟨by (try simp only [hl5_2]); (with_reducible repeat (first | refine zF ?_ _ | refine zH ?_ | refine zG ?_ _)); exact Z1.out⟩, ⟨by repeat (first | (with_reducible first | exact HB.out | apply zJ | apply zD | apply zE | refine zI ?_ Z2.out | refine zI ?_ Z3.out) | exact HB.out)⟩⟩
          case round =>
           clear H'
           try clear c1
           try clear c2
           try clear p2
           try clear c3
           try clear p3
           try clear q3
           try clear hx3
           try clear hf3
           try clear c4
           try clear c6
           try clear p6
           try clear c8
           try clear c13
           try clear c15
           try clear c16
           try clear c19
           try clear c20
           try clear c22
           try clear c29
           try clear c29b0
           try clear c29b1
           try clear c30
           try clear c32
           try clear c32b0
           try clear c33
           try clear c33b0
           try clear c34
           try clear c34b0
           try clear p35
           try clear q35
           try clear hx35
           try clear hf35
           try clear hcz16_0
           try clear hcz16_1
           try clear hcz17_0
           try clear hcz17_1
           try clear hcz17_2
           try clear hcz17_3
           try clear hcz17_4
           try clear hcz17_5
           try clear hcz19_0
           try clear hcz19_1
           try clear hcz20_0
           try clear hcz20_1
           try clear hcz20_2
           try clear hcz20_3
           try clear hcz20_4
           try clear hcz20_5
           try clear hcz22_0
           try clear hcz22_1
           try clear hcz23_0
           try clear hcz23_1
           try clear hcz23_2
           try clear hcz23_3
           try clear hcz23_4
           try clear hcz23_5
           try clear hfz16_0
           try clear hfz16_1
           try clear hfz17_0
           try clear hfz17_1
           try clear hfz17_2
           try clear hfz17_3
           try clear hfz17_4
           try clear hfz17_5
           try clear hfz19_0
           try clear hfz19_1
           try clear hfz20_0
           try clear hfz20_1
           try clear hfz20_2
           try clear hfz20_3
           try clear hfz20_4
           try clear hfz20_5
           try clear hfz22_0
           try clear hfz22_1
           try clear hfz23_0
           try clear hfz23_1
           try clear hfz23_2
           try clear hfz23_3
           try clear hfz23_4
           try clear hfz23_5
           try clear hx35_0
           try clear p2
           try clear p35
           try clear q35
           obtain ⟨x5_3, x63_3, rfl, HA, HK3, HO_5, HO_7, HO_9, Z0, Z1, HB⟩ := hrel
           cases gk with
           | zero => exact absurd HA.out (by simp [w22_DistMemory.l1])
           | succ k3 =>
            have H := HA.out
            clear HA
            simp only [w22_DistMemory.l1] at H
            by_cases c38 : x63_3 < 9
            ·rw [if_pos c38] at H
             have c38b0 : decide (x63_3 < 9) = true := yC c38
             clear c38
             by_cases c39 : x5_3.length < 17592186044416
             ·rw [if_pos c39] at H
              have LMc39 := zK c39
              clear c39
              obtain ⟨y521, hy521⟩ : ∃ y_ : List Int, y_ = (x5_3 ++ [(-8)]) := ⟨_, rfl⟩
              replace H : (w22_DistMemory.l1 k3 y521 t504 t516 (wrap64 (x63_3 + 1)) l0_0 l0_1 a1_0 a1_1 a1_2 a1_3 a1_4 l1_5) = some r := by first | (rw [hy521]; with_reducible exact H) | (have H2_ := (yV _ _).symm.trans H; rw [hy521]; with_reducible exact H2_) | (have H2_ := (yV _ _).symm.trans H; with_reducible exact H2_) | with_reducible exact H | (rw [hy521]; exact H) | exact H
              have Ny521 := zK hy521
              clear hy521
              have H' := zK H
              clear H
              go_wp2_with (first | ((with_reducible refine gate_builtin (b := .append) (xs := #[.tmp 65, .tmp 66]) rfl ?_); at_builtin; refine Kd.R_append (Kd.int .i64) (w0 := w) w.heap.size rfl (.tmp 65) (.tmp 66) 36 2 (.int .i64 0) 8 rfl Try.underlying36 info2 rfl (by decide) (by omega) u5 x5_3 (-8) [.int .i64 (-8)] (fun k_ => some k_ ≠ (v505 : Value).ownBlock ∧ some k_ ≠ (v517 : Value).ownBlock) (fun _ => False) rfl rfl ?aP (fun _ hk => hk.elim) ?aF ?aO ?aB ?aS ?aL ?_; (case aP => exact rfl); (case aB => exact (by repeat (first | (with_reducible first | exact HB.out | apply zJ | apply zD | apply zE | refine zI ?_ Z2.out | refine zI ?_ Z3.out) | exact HB.out))); (case aF => exact (fun k_ hk => ⟨Kd.fresh' (Kd.R_lt (by (with_reducible repeat (first | apply zL | apply zM | apply zN)); exact HO_7.out)) k_ hk, Kd.fresh' (Kd.R_lt (by (with_reducible repeat (first | apply zL | apply zM | apply zN)); exact HO_9.out)) k_ hk⟩)); (case aO => exact (by (with_reducible repeat (first | apply zL | apply zM | apply zN)); exact HO_5.out)); (case aS => exact (yK (by repeat (first | (with_reducible first | exact HB.out | apply zJ | apply zD | apply zE | refine zI ?_ Z2.out | refine zI ?_ Z3.out) | exact HB.out)))); (case aL => have := LMc39.out; omega); intro v522 w40 ho hb hg hat; rw [← Ny521.out] at ho; have n0_ := zK (Kd.R_after (ok := (fun k_ => some k_ ≠ (v517 : Value).ownBlock)) (by (with_reducible repeat (first | apply zL | apply zM | apply zN)); exact yd HO_7.out (fun _ hk => ⟨hk.2, hk.1⟩)) hg hat); have n1_ := zK (Kd.R_after (ok := (fun k_ => some k_ ≠ (v505 : Value).ownBlock)) (by (with_reducible repeat (first | apply zL | apply zM | apply zN)); exact yd HO_9.out (fun _ hk => ⟨hk.2, hk.1⟩)) hg hat); have n2_ := zK (blk_grown (g := Z9) (o := .cells #[.slice A0_0 l0_0.length c0_0, .slice A0_1 l0_1.length c0_1] 39 (0, 0)) (by (with_reducible repeat (first | refine zF ?_ _ | refine zH ?_ | refine zG ?_ _)); exact Z0.out) hg (Kd.R_ne HO_5.out Z0.out (by decide))); have n3_ := zK (blk_grown (g := Z10) (o := .cells #[.int .i64 a1_0, .int .i64 a1_1, .int .i64 a1_2, .int .i64 a1_3, .int .i64 a1_4, .slice A1_5 l1_5.length c1_5] 24 (0, 0)) (by (with_reducible repeat (first | refine zF ?_ _ | refine zH ?_ | refine zG ?_ _)); exact Z1.out) hg (Kd.R_ne HO_5.out Z1.out (by decide))); have n4_ := zK (hb); have n5_ := zK (ho); clear HO_7 HO_9 Z0 Z1 HB HO_5; have HO_7 := n0_; have HO_9 := n1_; have Z0 := n2_; have Z1 := n3_; have HB := n4_; have HO523 := n5_; clear n0_ n1_ n2_ n3_ n4_ n5_ ho hb hg hat))
              go_roundg k3
              case measure => have := HJ10.out; have := HK2.out; have := HK3.out; omega
              case rel => exact ⟨(y521), (wrap64 (x63_3 + 1)), (by first | rfl | (simp; done) | (simp [*]; done)), H', ⟨by have := HJ10.out; have := HK2.out; have := HK3.out; omega⟩, ⟨by (try simp only [hl5_2]); (with_reducible repeat (first | apply zL | apply zM | apply zN)); exact HO523.out⟩, ⟨by (try simp only [hl5_2]); (with_reducible repeat (first | apply zL | apply zM | apply zN)); exact yd HO_7.out (fun _ hk => ⟨hk.2, hk.1⟩)⟩, ⟨by (try simp only [hl5_2]); (with_reducible repeat (first | apply zL | apply zM | apply zN)); exact yd HO_9.out (fun _ hk => ⟨hk.2, hk.1⟩)⟩, ⟨by (try simp only [hl5_2]); (with_reducible repeat (first | refine zF ?_ _ | refine zH ?_ | refine zG ?_ _)); exact Z0.out⟩, ⟨by (try simp only [hl5_2]); (with_reducible repeat (first | refine zF ?_ _ | refine zH ?_ | refine zG ?_ _)); exact Z1.out⟩, ⟨by repeat (first | (with_reducible first | exact HB.out | apply zJ | apply zD | apply zE | refine zI ?_ Z2.out | refine zI ?_ Z3.out) | exact HB.out)⟩⟩
             ·rw [if_neg c39] at H
              exact absurd H (by simp)
            ·rw [if_neg c38] at H
             have c38b0 : decide (x63_3 < 9) = false := yD c38
             clear c38
             replace H := yA.mp H
             obtain ⟨⟨t524, t527⟩, A410, H⟩ := H
             replace H : (if t527 = 0 then ((w22_same.f k3 t504 t516).bind fun t528 => (if t528 = true then ((w22_same.f k3 t524 t516).bind fun t529 => (if t529 = true then (some ((x5_3.length : Int) == (wrap64 ((t516.length : Int) + 9)))) else (some false))) else (some false))) else (some false)) = some r := H
             have A41 := zK A410
             clear A410
             by_cases c42 : t527 = 0
             ·rw [if_pos c42] at H
              have c42b0 : (t527 == 0) = true := beq_iff_eq.mpr c42
              have c42b1 : (t527 != 0) = false := bne_eq_false_iff_eq.mpr c42
              clear c42
              replace H := yA.mp H
              obtain ⟨t528, A430, H⟩ := H
              replace H : (if t528 = true then ((w22_same.f k3 t524 t516).bind fun t529 => (if t529 = true then (some ((x5_3.length : Int) == (wrap64 ((t516.length : Int) + 9)))) else (some false))) else (some false)) = some r := H
              have A43 := zK A430
              clear A430
              by_cases c44 : t528 = true
              ·subst c44
               have H1 : ((w22_same.f k3 t524 t516).bind fun t529 => (if t529 = true then (some ((x5_3.length : Int) == (wrap64 ((t516.length : Int) + 9)))) else (some false))) = some r := by rw [if_pos rfl] at H; exact H
               clear H
               have H := H1
               clear H1
               replace H := yA.mp H
               obtain ⟨t529, A450, H⟩ := H
               replace H : (if t529 = true then (some ((x5_3.length : Int) == (wrap64 ((t516.length : Int) + 9)))) else (some false)) = some r := H
               have A45 := zK A450
               clear A450
               by_cases c46 : t529 = true
               ·subst c46
                have H1 : (some ((x5_3.length : Int) == (wrap64 ((t516.length : Int) + 9)))) = some r := by rw [if_pos rfl] at H; exact H
                clear H
                have H := H1
                clear H1
                obtain rfl := yY H
                have hnb47 := Z6.out
                have hnc47 := Z7.out
                have hcz48_0 : wr.cell? ⟨Z9, 0, none⟩ = some (.slice A0_0 l0_0.length c0_0) := (zO Z0.out 0).trans rfl
                have hcz48_1 : wr.cell? ⟨Z9, 1, none⟩ = some (.slice A0_1 l0_1.length c0_1) := (zO Z0.out 1).trans rfl
                have hfz48_0 := yE Z0.out 0
                have hfz48_1 := yE Z0.out 1
                have hcz49_0 : wr.cell? ⟨Z10, 0, none⟩ = some (.int .i64 a1_0) := (zO Z1.out 0).trans rfl
                have hcz49_1 : wr.cell? ⟨Z10, 1, none⟩ = some (.int .i64 a1_1) := (zO Z1.out 1).trans rfl
                have hcz49_2 : wr.cell? ⟨Z10, 2, none⟩ = some (.int .i64 a1_2) := (zO Z1.out 2).trans rfl
                have hcz49_3 : wr.cell? ⟨Z10, 3, none⟩ = some (.int .i64 a1_3) := (zO Z1.out 3).trans rfl
                have hcz49_4 : wr.cell? ⟨Z10, 4, none⟩ = some (.int .i64 a1_4) := (zO Z1.out 4).trans rfl
                have hcz49_5 : wr.cell? ⟨Z10, 5, none⟩ = some (.slice A1_5 l1_5.length c1_5) := (zO Z1.out 5).trans rfl
                have hfz49_0 := yE Z1.out 0
                have hfz49_1 := yE Z1.out 1
                have hfz49_2 := yE Z1.out 2
                have hfz49_3 := yE Z1.out 3
                have hfz49_4 := yE Z1.out 4
                have hfz49_5 := yE Z1.out 5
                go_wp2_with (first | ((with_reducible refine gate_callee (f := 19) rfl ?_); refine goesL_ (some 75) rfl rfl Try.func19 (by kernel_rfl) rfl #[.slice A0_0 l0_0.length c0_0, .slice A0_1 l0_1.length c0_1, .agg #[.int .i64 a1_0, .int .i64 a1_1, .int .i64 a1_2, .int .i64 a1_3, .int .i64 a1_4, .slice A1_5 l1_5.length c1_5]] rfl (by (try simp only [yH, yI, yJ]); first | done | rfl | (simp only [yG, yF]; rfl)) ?_; (with_reducible refine (dist_Weights.calls k3 _ _ l0_0 _ _ l0_1 a1_0 a1_1 a1_2 a1_3 a1_4 _ _ l1_5 t524 t527 _ ?side1 ?side2 ?side3 ?side4 ?side5 ?side6 A41.out).mono ?_); (case side1 => repeat (first | exact (yc HR0_0.out HB.out) | (with_reducible refine yS ?_ _) | (with_reducible refine yT ?_ _) | (with_reducible refine yU ?_))); (case side2 => exact HC0_0.out); (case side3 => repeat (first | exact (yc HR0_1.out HB.out) | (with_reducible refine yS ?_ _) | (with_reducible refine yT ?_ _) | (with_reducible refine yU ?_))); (case side4 => exact HC0_1.out); (case side5 => repeat (first | exact (yc HR1_5.out HB.out) | (with_reducible refine yS ?_ _) | (with_reducible refine yT ?_ _) | (with_reducible refine yU ?_))); (case side6 => exact HC1_5.out); rintro e w50 ⟨v525, rfl, ho0, hb⟩; refine ⟨_, rfl, ?_⟩; have n0_ := zK (Kd.R_elder' (by (with_reducible repeat (first | apply zL | apply zM | apply zN)); exact HO_5.out) (Kd.R_base ho0) hb); have n1_ := zK (Kd.R_elder' (by (with_reducible repeat (first | apply zL | apply zM | apply zN)); exact HO_7.out) (Kd.R_base ho0) hb); have n2_ := zK (Kd.R_elder' (by (with_reducible repeat (first | apply zL | apply zM | apply zN)); exact HO_9.out) (Kd.R_base ho0) hb); have n3_ := zK (Kd.R_lower (Kd.R_new' (Kd.R_new' (Kd.R_new' ho0 (Kd.R_lt (by (with_reducible repeat (first | apply zL | apply zM | apply zN)); exact HO_5.out))) (Kd.R_lt (by (with_reducible repeat (first | apply zL | apply zM | apply zN)); exact HO_7.out))) (Kd.R_lt (by (with_reducible repeat (first | apply zL | apply zM | apply zN)); exact HO_9.out))) (yK (by repeat (first | (with_reducible first | exact HB.out | apply zJ | apply zD | apply zE | refine zI ?_ Z2.out | refine zI ?_ Z3.out) | exact HB.out)))); have n4_ := zK (zP (g := Z9) (o := .cells #[.slice A0_0 l0_0.length c0_0, .slice A0_1 l0_1.length c0_1] 39 (0, 0)) (by (with_reducible repeat (first | refine zF ?_ _ | refine zH ?_ | refine zG ?_ _)); exact Z0.out) hb); have n5_ := zK (zP (g := Z10) (o := .cells #[.int .i64 a1_0, .int .i64 a1_1, .int .i64 a1_2, .int .i64 a1_3, .int .i64 a1_4, .slice A1_5 l1_5.length c1_5] 24 (0, 0)) (by (with_reducible repeat (first | refine zF ?_ _ | refine zH ?_ | refine zG ?_ _)); exact Z1.out) hb); have n6_ := zK (yL (by repeat (first | (with_reducible first | exact HB.out | apply zJ | apply zD | apply zE | refine zI ?_ Z2.out | refine zI ?_ Z3.out) | exact HB.out)) hb); clear HO_5 HO_7 HO_9 Z0 Z1 HB; have HO_5 := n0_; have HO_7 := n1_; have HO_9 := n2_; have HO526 := n3_; have Z0 := n4_; have Z1 := n5_; have HB := n6_; clear n0_ n1_ n2_ n3_ n4_ n5_ n6_; (try clear hb); (try clear hb2); (try clear hk); (try clear hi); (try clear ho0); obtain ⟨Ao51, co51, eo51⟩ := Kd.R_slice HO_7.out; subst eo51; obtain ⟨Ao52, co52, eo52⟩ := Kd.R_slice HO_9.out; subst eo52) | (go_at_call 21; (with_reducible refine (w22_same.calls k3 _ _ t504 _ _ t516 true _ ?side1 ?side2 ?side3 ?side4 A43.out).mono ?_); (case side1 => repeat (first | exact (yM HO_7.out).2.2 | (with_reducible refine yS ?_ _) | (with_reducible refine yT ?_ _) | (with_reducible refine yU ?_))); (case side2 => exact (yM HO_7.out).2.1); (case side3 => repeat (first | exact (yM HO_9.out).2.2 | (with_reducible refine yS ?_ _) | (with_reducible refine yT ?_ _) | (with_reducible refine yU ?_))); (case side4 => exact (yM HO_9.out).2.1); rintro e w' ⟨rfl, ⟨nd, rfl⟩⟩; obtain ⟨Ao53, co53, eo53⟩ := Kd.R_slice HO526.out; subst eo53) | (go_at_call 21; (with_reducible refine (w22_same.calls k3 _ _ t524 _ _ t516 true _ ?side1 ?side2 ?side3 ?side4 A45.out).mono ?_); (case side1 => repeat (first | exact (yM HO526.out).2.2 | (with_reducible refine yS ?_ _) | (with_reducible refine yT ?_ _) | (with_reducible refine yU ?_))); (case side2 => exact (yM HO526.out).2.1); (case side3 => repeat (first | exact (yM HO_9.out).2.2 | (with_reducible refine yS ?_ _) | (with_reducible refine yT ?_ _) | (with_reducible refine yU ?_))); (case side4 => exact (yM HO_9.out).2.1); rintro e w' ⟨rfl, ⟨nd, rfl⟩⟩; obtain ⟨Ao54, co54, eo54⟩ := Kd.R_slice HO_5.out; subst eo54))
                go_ret
                exact ⟨by first | rfl | (simp [errW_none, errW_some] <;> rfl) | (simp [*, errW_none, errW_some] <;> rfl), by repeat (first | (with_reducible first | exact HB.out | apply zJ | apply zD | apply zE | refine zI ?_ Z2.out | refine zI ?_ Z3.out) | exact HB.out)⟩
               ·replace c46 := yh.mpr c46
                subst c46
                have H1 : (some false) = some r := by rw [if_neg (show ¬ (false = true) by decide)] at H; exact H
                clear H
                have H := H1
                clear H1
                obtain rfl := yY H
                have hnb55 := Z6.out
                have hnc55 := Z7.out
                have hcz56_0 : wr.cell? ⟨Z9, 0, none⟩ = some (.slice A0_0 l0_0.length c0_0) := (zO Z0.out 0).trans rfl
                have hcz56_1 : wr.cell? ⟨Z9, 1, none⟩ = some (.slice A0_1 l0_1.length c0_1) := (zO Z0.out 1).trans rfl
                have hfz56_0 := yE Z0.out 0
                have hfz56_1 := yE Z0.out 1
                have hcz57_0 : wr.cell? ⟨Z10, 0, none⟩ = some (.int .i64 a1_0) := (zO Z1.out 0).trans rfl
                have hcz57_1 : wr.cell? ⟨Z10, 1, none⟩ = some (.int .i64 a1_1) := (zO Z1.out 1).trans rfl
                have hcz57_2 : wr.cell? ⟨Z10, 2, none⟩ = some (.int .i64 a1_2) := (zO Z1.out 2).trans rfl
                have hcz57_3 : wr.cell? ⟨Z10, 3, none⟩ = some (.int .i64 a1_3) := (zO Z1.out 3).trans rfl
                have hcz57_4 : wr.cell? ⟨Z10, 4, none⟩ = some (.int .i64 a1_4) := (zO Z1.out 4).trans rfl
                have hcz57_5 : wr.cell? ⟨Z10, 5, none⟩ = some (.slice A1_5 l1_5.length c1_5) := (zO Z1.out 5).trans rfl
                have hfz57_0 := yE Z1.out 0
                have hfz57_1 := yE Z1.out 1
                have hfz57_2 := yE Z1.out 2
                have hfz57_3 := yE Z1.out 3
                have hfz57_4 := yE Z1.out 4
                have hfz57_5 := yE Z1.out 5
                go_wp2_with (first | ((with_reducible refine gate_callee (f := 19) rfl ?_); refine goesL_ (some 75) rfl rfl Try.func19 (by kernel_rfl) rfl #[.slice A0_0 l0_0.length c0_0, .slice A0_1 l0_1.length c0_1, .agg #[.int .i64 a1_0, .int .i64 a1_1, .int .i64 a1_2, .int .i64 a1_3, .int .i64 a1_4, .slice A1_5 l1_5.length c1_5]] rfl (by (try simp only [yH, yI, yJ]); first | done | rfl | (simp only [yG, yF]; rfl)) ?_; (with_reducible refine (dist_Weights.calls k3 _ _ l0_0 _ _ l0_1 a1_0 a1_1 a1_2 a1_3 a1_4 _ _ l1_5 t524 t527 _ ?side1 ?side2 ?side3 ?side4 ?side5 ?side6 A41.out).mono ?_); (case side1 => repeat (first | exact (yc HR0_0.out HB.out) | (with_reducible refine yS ?_ _) | (with_reducible refine yT ?_ _) | (with_reducible refine yU ?_))); (case side2 => exact HC0_0.out); (case side3 => repeat (first | exact (yc HR0_1.out HB.out) | (with_reducible refine yS ?_ _) | (with_reducible refine yT ?_ _) | (with_reducible refine yU ?_))); (case side4 => exact HC0_1.out); (case side5 => repeat (first | exact (yc HR1_5.out HB.out) | (with_reducible refine yS ?_ _) | (with_reducible refine yT ?_ _) | (with_reducible refine yU ?_))); (case side6 => exact HC1_5.out); rintro e w58 ⟨v525, rfl, ho0, hb⟩; refine ⟨_, rfl, ?_⟩; have n0_ := zK (Kd.R_elder' (by (with_reducible repeat (first | apply zL | apply zM | apply zN)); exact HO_5.out) (Kd.R_base ho0) hb); have n1_ := zK (Kd.R_elder' (by (with_reducible repeat (first | apply zL | apply zM | apply zN)); exact HO_7.out) (Kd.R_base ho0) hb); have n2_ := zK (Kd.R_elder' (by (with_reducible repeat (first | apply zL | apply zM | apply zN)); exact HO_9.out) (Kd.R_base ho0) hb); have n3_ := zK (Kd.R_lower (Kd.R_new' (Kd.R_new' (Kd.R_new' ho0 (Kd.R_lt (by (with_reducible repeat (first | apply zL | apply zM | apply zN)); exact HO_5.out))) (Kd.R_lt (by (with_reducible repeat (first | apply zL | apply zM | apply zN)); exact HO_7.out))) (Kd.R_lt (by (with_reducible repeat (first | apply zL | apply zM | apply zN)); exact HO_9.out))) (yK (by repeat (first | (with_reducible first | exact HB.out | apply zJ | apply zD | apply zE | refine zI ?_ Z2.out | refine zI ?_ Z3.out) | exact HB.out)))); have n4_ := zK (zP (g := Z9) (o := .cells #[.slice A0_0 l0_0.length c0_0, .slice A0_1 l0_1.length c0_1] 39 (0, 0)) (by (with_reducible repeat (first | refine zF ?_ _ | refine zH ?_ | refine zG ?_ _)); exact Z0.out) hb); have n5_ := zK (zP (g := Z10) (o := .cells #[.int .i64 a1_0, .int .i64 a1_1, .int .i64 a1_2, .int .i64 a1_3, .int .i64 a1_4, .slice A1_5 l1_5.length c1_5] 24 (0, 0)) (by (with_reducible repeat (first | refine zF ?_ _ | refine zH ?_ | refine zG ?_ _)); exact Z1.out) hb); have n6_ := zK (yL (by repeat (first | (with_reducible first | exact HB.out | apply zJ | apply zD | apply zE | refine zI ?_ Z2.out | refine zI ?_ Z3.out) | exact HB.out)) hb); clear HO_5 HO_7 HO_9 Z0 Z1 HB; have HO_5 := n0_; have HO_7 := n1_; have HO_9 := n2_; have HO526 := n3_; have Z0 := n4_; have Z1 := n5_; have HB := n6_; clear n0_ n1_ n2_ n3_ n4_ n5_ n6_; (try clear hb); (try clear hb2); (try clear hk); (try clear hi); (try clear ho0); obtain ⟨Ao59, co59, eo59⟩ := Kd.R_slice HO_7.out; subst eo59; obtain ⟨Ao60, co60, eo60⟩ := Kd.R_slice HO_9.out; subst eo60) | (go_at_call 21; (with_reducible refine (w22_same.calls k3 _ _ t504 _ _ t516 true _ ?side1 ?side2 ?side3 ?side4 A43.out).mono ?_); (case side1 => repeat (first | exact (yM HO_7.out).2.2 | (with_reducible refine yS ?_ _) | (with_reducible refine yT ?_ _) | (with_reducible refine yU ?_))); (case side2 => exact (yM HO_7.out).2.1); (case side3 => repeat (first | exact (yM HO_9.out).2.2 | (with_reducible refine yS ?_ _) | (with_reducible refine yT ?_ _) | (with_reducible refine yU ?_))); (case side4 => exact (yM HO_9.out).2.1); rintro e w' ⟨rfl, ⟨nd, rfl⟩⟩; obtain ⟨Ao61, co61, eo61⟩ := Kd.R_slice HO526.out; subst eo61) | (go_at_call 21; (with_reducible refine (w22_same.calls k3 _ _ t524 _ _ t516 false _ ?side1 ?side2 ?side3 ?side4 A45.out).mono ?_); (case side1 => repeat (first | exact (yM HO526.out).2.2 | (with_reducible refine yS ?_ _) | (with_reducible refine yT ?_ _) | (with_reducible refine yU ?_))); (case side2 => exact (yM HO526.out).2.1); (case side3 => repeat (first | exact (yM HO_9.out).2.2 | (with_reducible refine yS ?_ _) | (with_reducible refine yT ?_ _) | (with_reducible refine yU ?_))); (case side4 => exact (yM HO_9.out).2.1); rintro e w' ⟨rfl, ⟨nd, rfl⟩⟩))
                go_ret
                exact ⟨by first | rfl | (simp [errW_none, errW_some] <;> rfl) | (simp [*, errW_none, errW_some] <;> rfl), by repeat (first | (with_reducible first | exact HB.out | apply zJ | apply zD | apply zE | refine zI ?_ Z2.out | refine zI ?_ Z3.out) | exact HB.out)⟩
              ·replace c44 := yh.mpr c44
               subst c44
               have H1 : (some false) = some r := by rw [if_neg (show ¬ (false = true) by decide)] at H; exact H
               clear H
               have H := H1
               clear H1
               obtain rfl := yY H
               have hnb62 := Z6.out
               have hnc62 := Z7.out
               have hcz63_0 : wr.cell? ⟨Z9, 0, none⟩ = some (.slice A0_0 l0_0.length c0_0) := (zO Z0.out 0).trans rfl
               have hcz63_1 : wr.cell? ⟨Z9, 1, none⟩ = some (.slice A0_1 l0_1.length c0_1) := (zO Z0.out 1).trans rfl
               have hfz63_0 := yE Z0.out 0
               have hfz63_1 := yE Z0.out 1
               have hcz64_0 : wr.cell? ⟨Z10, 0, none⟩ = some (.int .i64 a1_0) := (zO Z1.out 0).trans rfl
               have hcz64_1 : wr.cell? ⟨Z10, 1, none⟩ = some (.int .i64 a1_1) := (zO Z1.out 1).trans rfl
               have hcz64_2 : wr.cell? ⟨Z10, 2, none⟩ = some (.int .i64 a1_2) := (zO Z1.out 2).trans rfl
               have hcz64_3 : wr.cell? ⟨Z10, 3, none⟩ = some (.int .i64 a1_3) := (zO Z1.out 3).trans rfl
               have hcz64_4 : wr.cell? ⟨Z10, 4, none⟩ = some (.int .i64 a1_4) := (zO Z1.out 4).trans rfl
               have hcz64_5 : wr.cell? ⟨Z10, 5, none⟩ = some (.slice A1_5 l1_5.length c1_5) := (zO Z1.out 5).trans rfl
               have hfz64_0 := yE Z1.out 0
               have hfz64_1 := yE Z1.out 1
               have hfz64_2 := yE Z1.out 2
               have hfz64_3 := yE Z1.out 3
               have hfz64_4 := yE Z1.out 4
               have hfz64_5 := yE Z1.out 5
               go_wp2_with (first | ((with_reducible refine gate_callee (f := 19) rfl ?_); refine goesL_ (some 75) rfl rfl Try.func19 (by kernel_rfl) rfl #[.slice A0_0 l0_0.length c0_0, .slice A0_1 l0_1.length c0_1, .agg #[.int .i64 a1_0, .int .i64 a1_1, .int .i64 a1_2, .int .i64 a1_3, .int .i64 a1_4, .slice A1_5 l1_5.length c1_5]] rfl (by (try simp only [yH, yI, yJ]); first | done | rfl | (simp only [yG, yF]; rfl)) ?_; (with_reducible refine (dist_Weights.calls k3 _ _ l0_0 _ _ l0_1 a1_0 a1_1 a1_2 a1_3 a1_4 _ _ l1_5 t524 t527 _ ?side1 ?side2 ?side3 ?side4 ?side5 ?side6 A41.out).mono ?_); (case side1 => repeat (first | exact (yc HR0_0.out HB.out) | (with_reducible refine yS ?_ _) | (with_reducible refine yT ?_ _) | (with_reducible refine yU ?_))); (case side2 => exact HC0_0.out); (case side3 => repeat (first | exact (yc HR0_1.out HB.out) | (with_reducible refine yS ?_ _) | (with_reducible refine yT ?_ _) | (with_reducible refine yU ?_))); (case side4 => exact HC0_1.out); (case side5 => repeat (first | exact (yc HR1_5.out HB.out) | (with_reducible refine yS ?_ _) | (with_reducible refine yT ?_ _) | (with_reducible refine yU ?_))); (case side6 => exact HC1_5.out); rintro e w65 ⟨v525, rfl, ho0, hb⟩; refine ⟨_, rfl, ?_⟩; have n0_ := zK (Kd.R_elder' (by (with_reducible repeat (first | apply zL | apply zM | apply zN)); exact HO_5.out) (Kd.R_base ho0) hb); have n1_ := zK (Kd.R_elder' (by (with_reducible repeat (first | apply zL | apply zM | apply zN)); exact HO_7.out) (Kd.R_base ho0) hb); have n2_ := zK (Kd.R_elder' (by (with_reducible repeat (first | apply zL | apply zM | apply zN)); exact HO_9.out) (Kd.R_base ho0) hb); have n3_ := zK (Kd.R_lower (Kd.R_new' (Kd.R_new' (Kd.R_new' ho0 (Kd.R_lt (by (with_reducible repeat (first | apply zL | apply zM | apply zN)); exact HO_5.out))) (Kd.R_lt (by (with_reducible repeat (first | apply zL | apply zM | apply zN)); exact HO_7.out))) (Kd.R_lt (by (with_reducible repeat (first | apply zL | apply zM | apply zN)); exact HO_9.out))) (yK (by repeat (first | (with_reducible first | exact HB.out | apply zJ | apply zD | apply zE | refine zI ?_ Z2.out | refine zI ?_ Z3.out) | exact HB.out)))); have n4_ := zK (zP (g := Z9) (o := .cells #[.slice A0_0 l0_0.length c0_0, .slice A0_1 l0_1.length c0_1] 39 (0, 0)) (by (with_reducible repeat (first | refine zF ?_ _ | refine zH ?_ | refine zG ?_ _)); exact Z0.out) hb); have n5_ := zK (zP (g := Z10) (o := .cells #[.int .i64 a1_0, .int .i64 a1_1, .int .i64 a1_2, .int .i64 a1_3, .int .i64 a1_4, .slice A1_5 l1_5.length c1_5] 24 (0, 0)) (by (with_reducible repeat (first | refine zF ?_ _ | refine zH ?_ | refine zG ?_ _)); exact Z1.out) hb); have n6_ := zK (yL (by repeat (first | (with_reducible first | exact HB.out | apply zJ | apply zD | apply zE | refine zI ?_ Z2.out | refine zI ?_ Z3.out) | exact HB.out)) hb); clear HO_5 HO_7 HO_9 Z0 Z1 HB; have HO_5 := n0_; have HO_7 := n1_; have HO_9 := n2_; have HO526 := n3_; have Z0 := n4_; have Z1 := n5_; have HB := n6_; clear n0_ n1_ n2_ n3_ n4_ n5_ n6_; (try clear hb); (try clear hb2); (try clear hk); (try clear hi); (try clear ho0); obtain ⟨Ao66, co66, eo66⟩ := Kd.R_slice HO_7.out; subst eo66; obtain ⟨Ao67, co67, eo67⟩ := Kd.R_slice HO_9.out; subst eo67) | (go_at_call 21; (with_reducible refine (w22_same.calls k3 _ _ t504 _ _ t516 false _ ?side1 ?side2 ?side3 ?side4 A43.out).mono ?_); (case side1 => repeat (first | exact (yM HO_7.out).2.2 | (with_reducible refine yS ?_ _) | (with_reducible refine yT ?_ _) | (with_reducible refine yU ?_))); (case side2 => exact (yM HO_7.out).2.1); (case side3 => repeat (first | exact (yM HO_9.out).2.2 | (with_reducible refine yS ?_ _) | (with_reducible refine yT ?_ _) | (with_reducible refine yU ?_))); (case side4 => exact (yM HO_9.out).2.1); rintro e w' ⟨rfl, ⟨nd, rfl⟩⟩))
               go_ret
               exact ⟨by first | rfl | (simp [errW_none, errW_some] <;> rfl) | (simp [*, errW_none, errW_some] <;> rfl), by repeat (first | (with_reducible first | exact HB.out | apply zJ | apply zD | apply zE | refine zI ?_ Z2.out | refine zI ?_ Z3.out) | exact HB.out)⟩
             ·rw [if_neg c42] at H
              have c42b0 : (t527 == 0) = false := beq_eq_false_iff_ne.mpr c42
              have c42b1 : (t527 != 0) = true := bne_iff_ne.mpr c42
              obtain rfl := yY H
              have hnb68 := Z6.out
              have hnc68 := Z7.out
              have hcz69_0 : wr.cell? ⟨Z9, 0, none⟩ = some (.slice A0_0 l0_0.length c0_0) := (zO Z0.out 0).trans rfl
              have hcz69_1 : wr.cell? ⟨Z9, 1, none⟩ = some (.slice A0_1 l0_1.length c0_1) := (zO Z0.out 1).trans rfl
              have hfz69_0 := yE Z0.out 0
              have hfz69_1 := yE Z0.out 1
              have hcz70_0 : wr.cell? ⟨Z10, 0, none⟩ = some (.int .i64 a1_0) := (zO Z1.out 0).trans rfl
              have hcz70_1 : wr.cell? ⟨Z10, 1, none⟩ = some (.int .i64 a1_1) := (zO Z1.out 1).trans rfl
              have hcz70_2 : wr.cell? ⟨Z10, 2, none⟩ = some (.int .i64 a1_2) := (zO Z1.out 2).trans rfl
              have hcz70_3 : wr.cell? ⟨Z10, 3, none⟩ = some (.int .i64 a1_3) := (zO Z1.out 3).trans rfl
              have hcz70_4 : wr.cell? ⟨Z10, 4, none⟩ = some (.int .i64 a1_4) := (zO Z1.out 4).trans rfl
              have hcz70_5 : wr.cell? ⟨Z10, 5, none⟩ = some (.slice A1_5 l1_5.length c1_5) := (zO Z1.out 5).trans rfl
              have hfz70_0 := yE Z1.out 0
              have hfz70_1 := yE Z1.out 1
              have hfz70_2 := yE Z1.out 2
              have hfz70_3 := yE Z1.out 3
              have hfz70_4 := yE Z1.out 4
              have hfz70_5 := yE Z1.out 5
              go_wp2_with (first | ((with_reducible refine gate_callee (f := 19) rfl ?_); refine goesL_ (some 75) rfl rfl Try.func19 (by kernel_rfl) rfl #[.slice A0_0 l0_0.length c0_0, .slice A0_1 l0_1.length c0_1, .agg #[.int .i64 a1_0, .int .i64 a1_1, .int .i64 a1_2, .int .i64 a1_3, .int .i64 a1_4, .slice A1_5 l1_5.length c1_5]] rfl (by (try simp only [yH, yI, yJ]); first | done | rfl | (simp only [yG, yF]; rfl)) ?_; (with_reducible refine (dist_Weights.calls k3 _ _ l0_0 _ _ l0_1 a1_0 a1_1 a1_2 a1_3 a1_4 _ _ l1_5 t524 t527 _ ?side1 ?side2 ?side3 ?side4 ?side5 ?side6 A41.out).mono ?_); (case side1 => repeat (first | exact (yc HR0_0.out HB.out) | (with_reducible refine yS ?_ _) | (with_reducible refine yT ?_ _) | (with_reducible refine yU ?_))); (case side2 => exact HC0_0.out); (case side3 => repeat (first | exact (yc HR0_1.out HB.out) | (with_reducible refine yS ?_ _) | (with_reducible refine yT ?_ _) | (with_reducible refine yU ?_))); (case side4 => exact HC0_1.out); (case side5 => repeat (first | exact (yc HR1_5.out HB.out) | (with_reducible refine yS ?_ _) | (with_reducible refine yT ?_ _) | (with_reducible refine yU ?_))); (case side6 => exact HC1_5.out); rintro e w71 ⟨v525, rfl, ho0, hb⟩; refine ⟨_, rfl, ?_⟩; have n0_ := zK (Kd.R_elder' (by (with_reducible repeat (first | apply zL | apply zM | apply zN)); exact HO_5.out) (Kd.R_base ho0) hb); have n1_ := zK (Kd.R_elder' (by (with_reducible repeat (first | apply zL | apply zM | apply zN)); exact HO_7.out) (Kd.R_base ho0) hb); have n2_ := zK (Kd.R_elder' (by (with_reducible repeat (first | apply zL | apply zM | apply zN)); exact HO_9.out) (Kd.R_base ho0) hb); have n3_ := zK (Kd.R_lower (Kd.R_new' (Kd.R_new' (Kd.R_new' ho0 (Kd.R_lt (by (with_reducible repeat (first | apply zL | apply zM | apply zN)); exact HO_5.out))) (Kd.R_lt (by (with_reducible repeat (first | apply zL | apply zM | apply zN)); exact HO_7.out))) (Kd.R_lt (by (with_reducible repeat (first | apply zL | apply zM | apply zN)); exact HO_9.out))) (yK (by repeat (first | (with_reducible first | exact HB.out | apply zJ | apply zD | apply zE | refine zI ?_ Z2.out | refine zI ?_ Z3.out) | exact HB.out)))); have n4_ := zK (zP (g := Z9) (o := .cells #[.slice A0_0 l0_0.length c0_0, .slice A0_1 l0_1.length c0_1] 39 (0, 0)) (by (with_reducible repeat (first | refine zF ?_ _ | refine zH ?_ | refine zG ?_ _)); exact Z0.out) hb); have n5_ := zK (zP (g := Z10) (o := .cells #[.int .i64 a1_0, .int .i64 a1_1, .int .i64 a1_2, .int .i64 a1_3, .int .i64 a1_4, .slice A1_5 l1_5.length c1_5] 24 (0, 0)) (by (with_reducible repeat (first | refine zF ?_ _ | refine zH ?_ | refine zG ?_ _)); exact Z1.out) hb); have n6_ := zK (yL (by repeat (first | (with_reducible first | exact HB.out | apply zJ | apply zD | apply zE | refine zI ?_ Z2.out | refine zI ?_ Z3.out) | exact HB.out)) hb); clear HO_5 HO_7 HO_9 Z0 Z1 HB; have HO_5 := n0_; have HO_7 := n1_; have HO_9 := n2_; have HO526 := n3_; have Z0 := n4_; have Z1 := n5_; have HB := n6_; clear n0_ n1_ n2_ n3_ n4_ n5_ n6_; (try clear hb); (try clear hb2); (try clear hk); (try clear hi); (try clear ho0)))
              go_ret
              exact ⟨by first | rfl | (simp [errW_none, errW_some] <;> rfl) | (simp [*, errW_none, errW_some] <;> rfl), by repeat (first | (with_reducible first | exact HB.out | apply zJ | apply zD | apply zE | refine zI ?_ Z2.out | refine zI ?_ Z3.out) | exact HB.out)⟩
   ·replace c6 := yh.mpr c6
    subst c6
    have H1 : (some true) = some r := by rw [if_neg (show ¬ (false = true) by decide)] at H; exact H
    clear H
    have H := H1
    clear H1
    obtain rfl := yY H
    go_enter Try.func8, Try.ntmps8
    go_wp2_with (first | ((with_reducible refine gate_dst (N := 2) rfl ?_); refine box_event ?hg (N := 2) ?hd (cs := #[.slice A0_0 l0_0.length c0_0, .slice A0_1 l0_1.length c0_1]) (t := 39) ?hr ?_; (case hd => rfl); (case hg => rfl); (case hr => first | (go_simp; done) | (go_simp; rfl)); intro Z9 hg w72 hbox hb; have n0_ := zK (yL (by repeat (first | (with_reducible first | exact HB.out | apply zJ | apply zD | apply zE) | exact HB.out)) hb); have n1_ := zK (hbox); have n2_ := zK ((by rw [hg]; exact (yK (by repeat (first | (with_reducible first | exact HB.out | apply zJ | apply zD | apply zE) | exact HB.out))) : w.heap.size ≤ Z9)); have n3_ := zK ((by rw [hg]; exact (yK (by repeat (first | (with_reducible first | exact HB.out | apply zJ | apply zD | apply zE) | exact HB.out))) : w.heap.size ≤ Z9)); clear HB; have HB := n0_; have Z0 := n1_; have Z4 := n2_; have Z2 := n3_; clear n0_ n1_ n2_ n3_ hb hbox hg) | ((with_reducible refine gate_dst (N := 3) rfl ?_); refine box_event ?hg (N := 3) ?hd (cs := #[.int .i64 a1_0, .int .i64 a1_1, .int .i64 a1_2, .int .i64 a1_3, .int .i64 a1_4, .slice A1_5 l1_5.length c1_5]) (t := 24) ?hr ?_; (case hd => rfl); (case hg => rfl); (case hr => first | (go_simp; done) | (go_simp; rfl)); intro Z10 hg w73 hbox hb; have n0_ := zK (zP (g := Z9) (o := .cells #[.slice A0_0 l0_0.length c0_0, .slice A0_1 l0_1.length c0_1] 39 (0, 0)) (by (with_reducible repeat (first | refine zF ?_ _ | refine zH ?_ | refine zG ?_ _)); exact Z0.out) hb); have n1_ := zK (yL (by repeat (first | (with_reducible first | exact HB.out | apply zJ | apply zD | apply zE | refine zI ?_ Z2.out) | exact HB.out)) hb); have n2_ := zK (hbox); have n3_ := zK ((by rw [hg]; exact (yK (by repeat (first | (with_reducible first | exact HB.out | apply zJ | apply zD | apply zE | refine zI ?_ Z2.out) | exact HB.out))) : w.heap.size ≤ Z10)); have n4_ := zK ((by rw [hg]; exact (yK (by repeat (first | (with_reducible first | exact HB.out | apply zJ | apply zD | apply zE | refine zI ?_ Z2.out) | exact HB.out))) : w.heap.size ≤ Z10)); have n5_ := zK ((by rw [hg]; exact ym (yo (g := Z9) (o := .cells #[.slice A0_0 l0_0.length c0_0, .slice A0_1 l0_1.length c0_1] 39 (0, 0)) (by (with_reducible repeat (first | refine zF ?_ _ | refine zH ?_ | refine zG ?_ _)); exact Z0.out)) : Z9 ≠ Z10)); have n6_ := zK ((by rw [hg]; exact yn (yo (g := Z9) (o := .cells #[.slice A0_0 l0_0.length c0_0, .slice A0_1 l0_1.length c0_1] 39 (0, 0)) (by (with_reducible repeat (first | refine zF ?_ _ | refine zH ?_ | refine zG ?_ _)); exact Z0.out)) : Z10 ≠ Z9)); clear Z0 HB; have Z0 := n0_; have HB := n1_; have Z1 := n2_; have Z5 := n3_; have Z3 := n4_; have Z6 := n5_; have Z7 := n6_; clear n0_ n1_ n2_ n3_ n4_ n5_ n6_ hb hbox hg) | ((with_reducible refine gate_callee (f := 13) rfl ?_); refine goesL_ (some 14) rfl rfl Try.func13 (by kernel_rfl) rfl #[] rfl (by (try simp only [yH, yI, yJ]); first | done | rfl | (simp only [yG, yF]; rfl)) ?_; (with_reducible refine (w22_awake.calls k  true _ A3.out).mono ?_); rintro e w74 ⟨rfl, hb⟩; refine ⟨_, rfl, ?_⟩; have n0_ := zK (zP (g := Z9) (o := .cells #[.slice A0_0 l0_0.length c0_0, .slice A0_1 l0_1.length c0_1] 39 (0, 0)) (by (with_reducible repeat (first | refine zF ?_ _ | refine zH ?_ | refine zG ?_ _)); exact Z0.out) hb); have n1_ := zK (zP (g := Z10) (o := .cells #[.int .i64 a1_0, .int .i64 a1_1, .int .i64 a1_2, .int .i64 a1_3, .int .i64 a1_4, .slice A1_5 l1_5.length c1_5] 24 (0, 0)) (by (with_reducible repeat (first | refine zF ?_ _ | refine zH ?_ | refine zG ?_ _)); exact Z1.out) hb); have n2_ := zK (yL (by repeat (first | (with_reducible first | exact HB.out | apply zJ | apply zD | apply zE | refine zI ?_ Z2.out | refine zI ?_ Z3.out) | exact HB.out)) hb); clear Z0 Z1 HB; have Z0 := n0_; have Z1 := n1_; have HB := n2_; clear n0_ n1_ n2_; (try clear hb); (try clear hb2); (try clear hk); (try clear hi); have hnb75 := Z6.out; have hnc75 := Z7.out; have hcz76_0 : w74.cell? ⟨Z9, 0, none⟩ = some (.slice A0_0 l0_0.length c0_0) := (zO Z0.out 0).trans rfl; have hcz76_1 : w74.cell? ⟨Z9, 1, none⟩ = some (.slice A0_1 l0_1.length c0_1) := (zO Z0.out 1).trans rfl; have hfz76_0 := yE Z0.out 0; have hfz76_1 := yE Z0.out 1; have hcz77_0 : w74.cell? ⟨Z10, 0, none⟩ = some (.int .i64 a1_0) := (zO Z1.out 0).trans rfl; have hcz77_1 : w74.cell? ⟨Z10, 1, none⟩ = some (.int .i64 a1_1) := (zO Z1.out 1).trans rfl; have hcz77_2 : w74.cell? ⟨Z10, 2, none⟩ = some (.int .i64 a1_2) := (zO Z1.out 2).trans rfl; have hcz77_3 : w74.cell? ⟨Z10, 3, none⟩ = some (.int .i64 a1_3) := (zO Z1.out 3).trans rfl; have hcz77_4 : w74.cell? ⟨Z10, 4, none⟩ = some (.int .i64 a1_4) := (zO Z1.out 4).trans rfl; have hcz77_5 : w74.cell? ⟨Z10, 5, none⟩ = some (.slice A1_5 l1_5.length c1_5) := (zO Z1.out 5).trans rfl; have hfz77_0 := yE Z1.out 0; have hfz77_1 := yE Z1.out 1; have hfz77_2 := yE Z1.out 2; have hfz77_3 := yE Z1.out 3; have hfz77_4 := yE Z1.out 4; have hfz77_5 := yE Z1.out 5) | ((with_reducible refine gate_callee (f := 22) rfl ?_); refine goesL_ (some 18) rfl rfl Try.func22 (by kernel_rfl) rfl #[.agg #[.slice A0_0 l0_0.length c0_0, .slice A0_1 l0_1.length c0_1], .agg #[.int .i64 a1_0, .int .i64 a1_1, .int .i64 a1_2, .int .i64 a1_3, .int .i64 a1_4, .slice A1_5 l1_5.length c1_5]] rfl (by (try simp only [yH, yI, yJ]); first | done | rfl | (simp only [yG, yF]; rfl)) ?_; (with_reducible refine (w22_right.calls k _ _ l0_0 _ _ l0_1 a1_0 a1_1 a1_2 a1_3 a1_4 _ _ l1_5 false _ ?side1 ?side2 ?side3 ?side4 ?side5 ?side6 A5.out).mono ?_); (case side1 => repeat (first | exact (yc HR0_0.out HB.out) | (with_reducible refine yS ?_ _) | (with_reducible refine yT ?_ _) | (with_reducible refine yU ?_))); (case side2 => exact HC0_0.out); (case side3 => repeat (first | exact (yc HR0_1.out HB.out) | (with_reducible refine yS ?_ _) | (with_reducible refine yT ?_ _) | (with_reducible refine yU ?_))); (case side4 => exact HC0_1.out); (case side5 => repeat (first | exact (yc HR1_5.out HB.out) | (with_reducible refine yS ?_ _) | (with_reducible refine yT ?_ _) | (with_reducible refine yU ?_))); (case side6 => exact HC1_5.out); rintro e w78 ⟨rfl, hb⟩; refine ⟨_, rfl, ?_⟩; have n0_ := zK (zP (g := Z9) (o := .cells #[.slice A0_0 l0_0.length c0_0, .slice A0_1 l0_1.length c0_1] 39 (0, 0)) (by (with_reducible repeat (first | refine zF ?_ _ | refine zH ?_ | refine zG ?_ _)); exact Z0.out) hb); have n1_ := zK (zP (g := Z10) (o := .cells #[.int .i64 a1_0, .int .i64 a1_1, .int .i64 a1_2, .int .i64 a1_3, .int .i64 a1_4, .slice A1_5 l1_5.length c1_5] 24 (0, 0)) (by (with_reducible repeat (first | refine zF ?_ _ | refine zH ?_ | refine zG ?_ _)); exact Z1.out) hb); have n2_ := zK (yL (by repeat (first | (with_reducible first | exact HB.out | apply zJ | apply zD | apply zE | refine zI ?_ Z2.out | refine zI ?_ Z3.out) | exact HB.out)) hb); clear Z0 Z1 HB; have Z0 := n0_; have Z1 := n1_; have HB := n2_; clear n0_ n1_ n2_; (try clear hb); (try clear hb2); (try clear hk); (try clear hi)))
    go_ret
    exact ⟨by first | rfl | (simp [errW_none, errW_some] <;> rfl) | (simp [*, errW_none, errW_some] <;> rfl), by repeat (first | (with_reducible first | exact HB.out | apply zJ | apply zD | apply zE | refine zI ?_ Z2.out | refine zI ?_ Z3.out) | exact HB.out)⟩
  ·replace c4 := yh.mpr c4
   subst c4
   have H1 : (some false) = some r := by rw [if_neg (show ¬ (false = true) by decide)] at H; exact H
   clear H
   have H := H1
   clear H1
   obtain rfl := yY H
   go_enter Try.func8, Try.ntmps8
   go_wp2_with (first | ((with_reducible refine gate_dst (N := 2) rfl ?_); refine box_event ?hg (N := 2) ?hd (cs := #[.slice A0_0 l0_0.length c0_0, .slice A0_1 l0_1.length c0_1]) (t := 39) ?hr ?_; (case hd => rfl); (case hg => rfl); (case hr => first | (go_simp; done) | (go_simp; rfl)); intro Z9 hg w79 hbox hb; have n0_ := zK (yL (by repeat (first | (with_reducible first | exact HB.out | apply zJ | apply zD | apply zE) | exact HB.out)) hb); have n1_ := zK (hbox); have n2_ := zK ((by rw [hg]; exact (yK (by repeat (first | (with_reducible first | exact HB.out | apply zJ | apply zD | apply zE) | exact HB.out))) : w.heap.size ≤ Z9)); have n3_ := zK ((by rw [hg]; exact (yK (by repeat (first | (with_reducible first | exact HB.out | apply zJ | apply zD | apply zE) | exact HB.out))) : w.heap.size ≤ Z9)); clear HB; have HB := n0_; have Z0 := n1_; have Z4 := n2_; have Z2 := n3_; clear n0_ n1_ n2_ n3_ hb hbox hg) | ((with_reducible refine gate_dst (N := 3) rfl ?_); refine box_event ?hg (N := 3) ?hd (cs := #[.int .i64 a1_0, .int .i64 a1_1, .int .i64 a1_2, .int .i64 a1_3, .int .i64 a1_4, .slice A1_5 l1_5.length c1_5]) (t := 24) ?hr ?_; (case hd => rfl); (case hg => rfl); (case hr => first | (go_simp; done) | (go_simp; rfl)); intro Z10 hg w80 hbox hb; have n0_ := zK (zP (g := Z9) (o := .cells #[.slice A0_0 l0_0.length c0_0, .slice A0_1 l0_1.length c0_1] 39 (0, 0)) (by (with_reducible repeat (first | refine zF ?_ _ | refine zH ?_ | refine zG ?_ _)); exact Z0.out) hb); have n1_ := zK (yL (by repeat (first | (with_reducible first | exact HB.out | apply zJ | apply zD | apply zE | refine zI ?_ Z2.out) | exact HB.out)) hb); have n2_ := zK (hbox); have n3_ := zK ((by rw [hg]; exact (yK (by repeat (first | (with_reducible first | exact HB.out | apply zJ | apply zD | apply zE | refine zI ?_ Z2.out) | exact HB.out))) : w.heap.size ≤ Z10)); have n4_ := zK ((by rw [hg]; exact (yK (by repeat (first | (with_reducible first | exact HB.out | apply zJ | apply zD | apply zE | refine zI ?_ Z2.out) | exact HB.out))) : w.heap.size ≤ Z10)); have n5_ := zK ((by rw [hg]; exact ym (yo (g := Z9) (o := .cells #[.slice A0_0 l0_0.length c0_0, .slice A0_1 l0_1.length c0_1] 39 (0, 0)) (by (with_reducible repeat (first | refine zF ?_ _ | refine zH ?_ | refine zG ?_ _)); exact Z0.out)) : Z9 ≠ Z10)); have n6_ := zK ((by rw [hg]; exact yn (yo (g := Z9) (o := .cells #[.slice A0_0 l0_0.length c0_0, .slice A0_1 l0_1.length c0_1] 39 (0, 0)) (by (with_reducible repeat (first | refine zF ?_ _ | refine zH ?_ | refine zG ?_ _)); exact Z0.out)) : Z10 ≠ Z9)); clear Z0 HB; have Z0 := n0_; have HB := n1_; have Z1 := n2_; have Z5 := n3_; have Z3 := n4_; have Z6 := n5_; have Z7 := n6_; clear n0_ n1_ n2_ n3_ n4_ n5_ n6_ hb hbox hg) | ((with_reducible refine gate_callee (f := 13) rfl ?_); refine goesL_ (some 14) rfl rfl Try.func13 (by kernel_rfl) rfl #[] rfl (by (try simp only [yH, yI, yJ]); first | done | rfl | (simp only [yG, yF]; rfl)) ?_; (with_reducible refine (w22_awake.calls k  false _ A3.out).mono ?_); rintro e w81 ⟨rfl, hb⟩; refine ⟨_, rfl, ?_⟩; have n0_ := zK (zP (g := Z9) (o := .cells #[.slice A0_0 l0_0.length c0_0, .slice A0_1 l0_1.length c0_1] 39 (0, 0)) (by (with_reducible repeat (first | refine zF ?_ _ | refine zH ?_ | refine zG ?_ _)); exact Z0.out) hb); have n1_ := zK (zP (g := Z10) (o := .cells #[.int .i64 a1_0, .int .i64 a1_1, .int .i64 a1_2, .int .i64 a1_3, .int .i64 a1_4, .slice A1_5 l1_5.length c1_5] 24 (0, 0)) (by (with_reducible repeat (first | refine zF ?_ _ | refine zH ?_ | refine zG ?_ _)); exact Z1.out) hb); have n2_ := zK (yL (by repeat (first | (with_reducible first | exact HB.out | apply zJ | apply zD | apply zE | refine zI ?_ Z2.out | refine zI ?_ Z3.out) | exact HB.out)) hb); clear Z0 Z1 HB; have Z0 := n0_; have Z1 := n1_; have HB := n2_; clear n0_ n1_ n2_; (try clear hb); (try clear hb2); (try clear hk); (try clear hi)))
   go_ret
   exact ⟨by first | rfl | (simp [errW_none, errW_some] <;> rfl) | (simp [*, errW_none, errW_some] <;> rfl), by repeat (first | (with_reducible first | exact HB.out | apply zJ | apply zD | apply zE | refine zI ?_ Z2.out | refine zI ?_ Z3.out) | exact HB.out)⟩

end Go.Proofs.Ythmckhfjaleomaa.T
