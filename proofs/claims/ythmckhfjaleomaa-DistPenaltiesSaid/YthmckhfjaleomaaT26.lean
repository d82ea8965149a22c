-- Printed by this session's own driver (wip/tools/xprint.py) over the kit's printer; given functions are this session's own.
import Derived.Test.YthmckhfjaleomaaT0
import Derived.Test.YthmckhfjaleomaaT6
import Derived.Test.YthmckhfjaleomaaT14
import Derived.Test.YthmckhfjaleomaaT23
import Derived.Test.YthmckhfjaleomaaT25
namespace Go.Proofs.Ythmckhfjaleomaa.T
open Go.RowKit Go.Proofs.YthmckhfjaleomaaW.PrintWords Go.Proofs.YthmckhfjaleomaaW.PrintLast Go.Proofs.YthmckhfjaleomaaW.PrintMore
attribute [local go_sem] max2_int min2_int max_two min_two max_three min_three max_four min_four   -- for this text's walks alone
set_option linter.unusedVariables false
set_option linter.unusedSimpArgs false

/-! ### w22_DistPenalties: function 9 -/
mutual
def w22_DistPenalties.j0 : Nat → List Int → List Int → List Int → List Int → List Int → Int → Bool → Int → Int → Int → Option (Bool)
  | 0, _, _, _, _, _, _, _, _, _, _ => none
  | k + 1, x0, x1, x7, x8, x9, x10, x62, Y0, Y1, Y2 => if x62 = true then (some false) else (w22_DistPenalties.l0 k x0 x1 x7 x8 x9 x10 (x1.length : Int) 0 Y0 Y1 Y2)
def w22_DistPenalties.l0 : Nat → List Int → List Int → List Int → List Int → List Int → Int → Int → Int → Int → Int → Int → Option (Bool)
  | 0, _, _, _, _, _, _, _, _, _, _, _ => none
  | k + 1, x0, x1, x7, x8, x9, x10, x64, x65, Y0, Y1, Y2 => if x65 < x64 then (if 0 ≤ x65 then (if x65 < (x8.length : Int) then (if x65 < (x1.length : Int) then (if (rd x8 x65) = (rd x1 x65) then (w22_DistPenalties.l0 k x0 x1 x7 x8 x9 x10 x64 (wrap64 (x65 + 1)) Y0 Y1 Y2) else (some false)) else (none)) else (none)) else (none)) else (if x10 = 0 then (if 0 ≤ (x0.length : Int) then (if ((x0.length : Int) : Int).toNat ≤ 281474976710656 then (w22_DistPenalties.l1 k x0 x1 x7 x9 (List.replicate ((x0.length : Int) : Int).toNat false) x1 (x1.length : Int) 0 Y0 Y1 Y2) else (none)) else (none)) else (some ((x9.length : Int) == 0)))
def w22_DistPenalties.l1 : Nat → List Int → List Int → List Int → List Int → List Bool → List Int → Int → Int → Int → Int → Int → Option (Bool)
  | 0, _, _, _, _, _, _, _, _, _, _, _ => none
  | k + 1, x0, x1, x7, x9, x14, x86, x87, x88, Y0, Y1, Y2 => if x88 < x87 then (if 0 ≤ x88 then (if x88 < (x86.length : Int) then (if 0 ≤ (rd x86 x88) then (if (rd x86 x88) < (x14.length : Int) then (w22_DistPenalties.l1 k x0 x1 x7 x9 (x14.set ((rd x86 x88) : Int).toNat true) x86 x87 (wrap64 (x88 + 1)) Y0 Y1 Y2) else (none)) else (none)) else (none)) else (none)) else (w22_DistPenalties.l2 k x0 x1 x7 x9 x14 (x9.length : Int) 0 Y0 Y1 Y2)
def w22_DistPenalties.l2 : Nat → List Int → List Int → List Int → List Int → List Bool → Int → Int → Int → Int → Int → Option (Bool)
  | 0, _, _, _, _, _, _, _, _, _, _ => none
  | k + 1, x0, x1, x7, x9, x14, x97, x98, Y0, Y1, Y2 => if x98 < x97 then (if 0 ≤ x98 then (if x98 < (x14.length : Int) then (if rdOf false x14 x98 = true then (w22_DistPenalties.l2 k x0 x1 x7 x9 x14 x97 (wrap64 (x98 + 1)) Y0 Y1 Y2) else (if x98 < (x9.length : Int) then (if x98 < (x0.length : Int) then (if (rd x9 x98) = (rd x0 x98) then (w22_DistPenalties.l2 k x0 x1 x7 x9 x14 x97 (wrap64 (x98 + 1)) Y0 Y1 Y2) else (some false)) else (none)) else (none))) else (none)) else (none)) else (w22_DistPenalties.l3 k x0 x1 x7 x9 (x9.length : Int) 0 Y0 Y1 Y2)
def w22_DistPenalties.l3 : Nat → List Int → List Int → List Int → List Int → Int → Int → Int → Int → Int → Option (Bool)
  | 0, _, _, _, _, _, _, _, _, _ => none
  | k + 1, x0, x1, x7, x9, x119, x120, Y0, Y1, Y2 => if x120 < x119 then (if 0 ≤ x120 then (if x120 < (x9.length : Int) then (w22_DistPenalties.l3 k x0 x1 x7 (x9.set (x120 : Int).toNat (-7)) x119 (wrap64 (x120 + 1)) Y0 Y1 Y2) else (none)) else (none)) else ((dist_Penalise.f k x7 x1 Y0 0 0).bind fun bt616 => (if bt616.2 = 0 then ((w22_same.f k bt616.1 x0).bind fun t620 => (some t620)) else (some false)))
end
def w22_DistPenalties.f (k : Nat) (l0 : List Int) (l1 : List Int) (a2_0 : Int) (a2_1 : Int) (a2_2 : Int) : Option (Bool) := (w22_awake.f k).bind fun t582 => (if t582 = true then ((some (([] : List Int) : List Int)).bind fun y583 => (if y583.length + l0.length < 17592186044416 then ((some (y583 ++ l0 : List Int)).bind fun y586 => ((some (([] : List Int) : List Int)).bind fun y589 => (if y589.length + l1.length < 17592186044416 then ((some (y589 ++ l1 : List Int)).bind fun y592 => ((dist_Penalise.f k y586 y592 a2_0 a2_1 a2_2).bind fun bt595 => ((r22_Penalise.f k l0 l1 a2_0 a2_1 a2_2).bind fun bt599 => ((w22_same.f k bt595.1 bt599.1).bind fun t603 => (if t603 = true then (if bt595.2 = bt599.2 then ((w22_same.f k y586 l0).bind fun t604 => (w22_DistPenalties.j0 k l0 l1 y586 y592 bt595.1 bt595.2 (!t604) a2_0 a2_1 a2_2)) else (w22_DistPenalties.j0 k l0 l1 y586 y592 bt595.1 bt595.2 true a2_0 a2_1 a2_2)) else (w22_DistPenalties.j0 k l0 l1 y586 y592 bt595.1 bt595.2 true a2_0 a2_1 a2_2)))))) else (none)))) else (none))) else (some false))
theorem w22_DistPenalties.mono_l : ∀ k, (∀ y0 y1 y2 y3 y4 y5 y6 y7 y8 y9, LeO (w22_DistPenalties.j0 k y0 y1 y2 y3 y4 y5 y6 y7 y8 y9) (w22_DistPenalties.j0 (k + 1) y0 y1 y2 y3 y4 y5 y6 y7 y8 y9)) ∧ (∀ y0 y1 y2 y3 y4 y5 y6 y7 y8 y9 y10, LeO (w22_DistPenalties.l0 k y0 y1 y2 y3 y4 y5 y6 y7 y8 y9 y10) (w22_DistPenalties.l0 (k + 1) y0 y1 y2 y3 y4 y5 y6 y7 y8 y9 y10)) ∧ (∀ y0 y1 y2 y3 y4 y5 y6 y7 y8 y9 y10, LeO (w22_DistPenalties.l1 k y0 y1 y2 y3 y4 y5 y6 y7 y8 y9 y10) (w22_DistPenalties.l1 (k + 1) y0 y1 y2 y3 y4 y5 y6 y7 y8 y9 y10)) ∧ (∀ y0 y1 y2 y3 y4 y5 y6 y7 y8 y9, LeO (w22_DistPenalties.l2 k y0 y1 y2 y3 y4 y5 y6 y7 y8 y9) (w22_DistPenalties.l2 (k + 1) y0 y1 y2 y3 y4 y5 y6 y7 y8 y9)) ∧ (∀ y0 y1 y2 y3 y4 y5 y6 y7 y8, LeO (w22_DistPenalties.l3 k y0 y1 y2 y3 y4 y5 y6 y7 y8) (w22_DistPenalties.l3 (k + 1) y0 y1 y2 y3 y4 y5 y6 y7 y8))
  | 0 => ⟨fun _ _ _ _ _ _ _ _ _ _ r h => by simp [w22_DistPenalties.j0] at h, fun _ _ _ _ _ _ _ _ _ _ _ r h => by simp [w22_DistPenalties.l0] at h, fun _ _ _ _ _ _ _ _ _ _ _ r h => by simp [w22_DistPenalties.l1] at h, fun _ _ _ _ _ _ _ _ _ _ r h => by simp [w22_DistPenalties.l2] at h, fun _ _ _ _ _ _ _ _ _ r h => by simp [w22_DistPenalties.l3] at h⟩
  | k + 1 => by
    obtain ⟨ih0, ih1, ih2, ih3, ih4⟩ := w22_DistPenalties.mono_l k
    refine ⟨?_, ?_, ?_, ?_, ?_⟩ <;> (intros; first | unfold w22_DistPenalties.j0 | unfold w22_DistPenalties.l0 | unfold w22_DistPenalties.l1 | unfold w22_DistPenalties.l2 | unfold w22_DistPenalties.l3)
    all_goals repeat' first
      | (with_reducible exact ih0 _ _ _ _ _ _ _ _ _ _)
      | (with_reducible exact ih1 _ _ _ _ _ _ _ _ _ _ _)
      | (with_reducible exact ih2 _ _ _ _ _ _ _ _ _ _ _)
      | (with_reducible exact ih3 _ _ _ _ _ _ _ _ _ _)
      | (with_reducible exact ih4 _ _ _ _ _ _ _ _ _)
      | (with_reducible exact dist_Penalise.mono _ _ _ _ _ _)
      | (with_reducible exact r22_Penalise.mono _ _ _ _ _ _)
      | (with_reducible exact w22_awake.mono _)
      | (with_reducible exact w22_same.mono _ _ _)
      | (with_reducible exact yR _)
      | (with_reducible exact yO _)
      | (with_reducible refine yQ ?_ ?_)
      | (with_reducible refine yP ?_ (fun _ => ?_))
      | exact ih0 _ _ _ _ _ _ _ _ _ _
      | exact ih1 _ _ _ _ _ _ _ _ _ _ _
      | exact ih2 _ _ _ _ _ _ _ _ _ _ _
      | exact ih3 _ _ _ _ _ _ _ _ _ _
      | exact ih4 _ _ _ _ _ _ _ _ _
      | exact dist_Penalise.mono _ _ _ _ _ _
      | exact r22_Penalise.mono _ _ _ _ _ _
      | exact w22_awake.mono _
      | exact w22_same.mono _ _ _
      | exact yO _
      | refine yQ ?_ ?_
      | refine yP ?_ (fun _ => ?_)
theorem w22_DistPenalties.mono : ∀ a0 a1 a2 a3 a4 k, LeO (w22_DistPenalties.f k a0 a1 a2 a3 a4) (w22_DistPenalties.f (k + 1) a0 a1 a2 a3 a4) := by
  intro a0 a1 a2 a3 a4 k
  obtain ⟨ih0, ih1, ih2, ih3, ih4⟩ := w22_DistPenalties.mono_l k
  unfold w22_DistPenalties.f
  repeat' first
      | (with_reducible exact ih0 _ _ _ _ _ _ _ _ _ _)
      | (with_reducible exact ih1 _ _ _ _ _ _ _ _ _ _ _)
      | (with_reducible exact ih2 _ _ _ _ _ _ _ _ _ _ _)
      | (with_reducible exact ih3 _ _ _ _ _ _ _ _ _ _)
      | (with_reducible exact ih4 _ _ _ _ _ _ _ _ _)
      | (with_reducible exact dist_Penalise.mono _ _ _ _ _ _)
      | (with_reducible exact r22_Penalise.mono _ _ _ _ _ _)
      | (with_reducible exact w22_awake.mono _)
      | (with_reducible exact w22_same.mono _ _ _)
      | (with_reducible exact yR _)
      | (with_reducible exact yO _)
      | (with_reducible refine yQ ?_ ?_)
      | (with_reducible refine yP ?_ (fun _ => ?_))
      | exact ih0 _ _ _ _ _ _ _ _ _ _
      | exact ih1 _ _ _ _ _ _ _ _ _ _ _
      | exact ih2 _ _ _ _ _ _ _ _ _ _ _
      | exact ih3 _ _ _ _ _ _ _ _ _ _
      | exact ih4 _ _ _ _ _ _ _ _ _
      | exact dist_Penalise.mono _ _ _ _ _ _
      | exact r22_Penalise.mono _ _ _ _ _ _
      | exact w22_awake.mono _
      | exact w22_same.mono _ _ _
      | exact yO _
      | refine yQ ?_ ?_
      | refine yP ?_ (fun _ => ?_)
set_option maxHeartbeats 8000000 in
set_option maxRecDepth 100000 in
theorem w22_DistPenalties.calls (k : Nat) (A0 : Option Addr) (c0 : Nat) (l0 : List Int) (A1 : Option Addr) (c1 : Nat) (l1 : List Int) (a2_0 : Int) (a2_1 : Int) (a2_2 : Int) (r : Bool) (w : World) (hr0 : Kd.C (Kd.int .i64) w A0 l0.length l0) (hc0 : l0.length ≤ c0) (hr1 : Kd.C (Kd.int .i64) w A1 l1.length l1) (hc1 : l1.length ≤ c1) (h : w22_DistPenalties.f k l0 l1 a2_0 a2_1 a2_2 = some r) :
    Calls Try.prog 9 #[.slice A0 l0.length c0, .slice A1 l1.length c1, .agg #[.int .i64 a2_0, .int .i64 a2_1, .int .i64 a2_2]] w fun e w' => e = .returned (.bool r) ∧ Below w.heap.size w w' := by
  have hu53 := Try.underlying53
  have hu56 := Try.underlying56
  have HR0 := zK hr0
  have HC0 := zK hc0
  clear hr0 hc0
  have HR1 := zK hr1
  have HC1 := zK hc1
  clear hr1 hc1
  have HB := zK (Below.refl w.heap.size w)
  have H : ((w22_awake.f k).bind fun t582 => (if t582 = true then ((some (([] : List Int) : List Int)).bind fun y583 => (if y583.length + l0.length < 17592186044416 then ((some (y583 ++ l0 : List Int)).bind fun y586 => ((some (([] : List Int) : List Int)).bind fun y589 => (if y589.length + l1.length < 17592186044416 then ((some (y589 ++ l1 : List Int)).bind fun y592 => ((dist_Penalise.f k y586 y592 a2_0 a2_1 a2_2).bind fun bt595 => ((r22_Penalise.f k l0 l1 a2_0 a2_1 a2_2).bind fun bt599 => ((w22_same.f k bt595.1 bt599.1).bind fun t603 => (if t603 = true then (if bt595.2 = bt599.2 then ((w22_same.f k y586 l0).bind fun t604 => (w22_DistPenalties.j0 k l0 l1 y586 y592 bt595.1 bt595.2 (!t604) a2_0 a2_1 a2_2)) else (w22_DistPenalties.j0 k l0 l1 y586 y592 bt595.1 bt595.2 true a2_0 a2_1 a2_2)) else (w22_DistPenalties.j0 k l0 l1 y586 y592 bt595.1 bt595.2 true a2_0 a2_1 a2_2)))))) else (none)))) else (none))) else (some false))) = some r := h
  clear h
  replace H := yA.mp H
  obtain ⟨t582, A40, H⟩ := H
  replace H : (if t582 = true then ((some (([] : List Int) : List Int)).bind fun y583 => (if y583.length + l0.length < 17592186044416 then ((some (y583 ++ l0 : List Int)).bind fun y586 => ((some (([] : List Int) : List Int)).bind fun y589 => (if y589.length + l1.length < 17592186044416 then ((some (y589 ++ l1 : List Int)).bind fun y592 => ((dist_Penalise.f k y586 y592 a2_0 a2_1 a2_2).bind fun bt595 => ((r22_Penalise.f k l0 l1 a2_0 a2_1 a2_2).bind fun bt599 => ((w22_same.f k bt595.1 bt599.1).bind fun t603 => (if t603 = true then (if bt595.2 = bt599.2 then ((w22_same.f k y586 l0).bind fun t604 => (w22_DistPenalties.j0 k l0 l1 y586 y592 bt595.1 bt595.2 (!t604) a2_0 a2_1 a2_2)) else (w22_DistPenalties.j0 k l0 l1 y586 y592 bt595.1 bt595.2 true a2_0 a2_1 a2_2)) else (w22_DistPenalties.j0 k l0 l1 y586 y592 bt595.1 bt595.2 true a2_0 a2_1 a2_2)))))) else (none)))) else (none))) else (some false)) = some r := H
  have A4 := zK A40
  clear A40
  by_cases c5 : t582 = true
  ·subst c5
   have H1 : ((some (([] : List Int) : List Int)).bind fun y583 => (if y583.length + l0.length < 17592186044416 then ((some (y583 ++ l0 : List Int)).bind fun y586 => ((some (([] : List Int) : List Int)).bind fun y589 => (if y589.length + l1.length < 17592186044416 then ((some (y589 ++ l1 : List Int)).bind fun y592 => ((dist_Penalise.f k y586 y592 a2_0 a2_1 a2_2).bind fun bt595 => ((r22_Penalise.f k l0 l1 a2_0 a2_1 a2_2).bind fun bt599 => ((w22_same.f k bt595.1 bt599.1).bind fun t603 => (if t603 = true then (if bt595.2 = bt599.2 then ((w22_same.f k y586 l0).bind fun t604 => (w22_DistPenalties.j0 k l0 l1 y586 y592 bt595.1 bt595.2 (!t604) a2_0 a2_1 a2_2)) else (w22_DistPenalties.j0 k l0 l1 y586 y592 bt595.1 bt595.2 true a2_0 a2_1 a2_2)) else (w22_DistPenalties.j0 k l0 l1 y586 y592 bt595.1 bt595.2 true a2_0 a2_1 a2_2)))))) else (none)))) else (none))) = some r := by rw [if_pos rfl] at H; exact H
   clear H
   have H := H1
   clear H1
   obtain ⟨y583, hy583⟩ : ∃ y_ : List Int, y_ = (([] : List Int)) := ⟨_, rfl⟩
   replace H : (if y583.length + l0.length < 17592186044416 then ((some (y583 ++ l0 : List Int)).bind fun y586 => ((some (([] : List Int) : List Int)).bind fun y589 => (if y589.length + l1.length < 17592186044416 then ((some (y589 ++ l1 : List Int)).bind fun y592 => ((dist_Penalise.f k y586 y592 a2_0 a2_1 a2_2).bind fun bt595 => ((r22_Penalise.f k l0 l1 a2_0 a2_1 a2_2).bind fun bt599 => ((w22_same.f k bt595.1 bt599.1).bind fun t603 => (if t603 = true then (if bt595.2 = bt599.2 then ((w22_same.f k y586 l0).bind fun t604 => (w22_DistPenalties.j0 k l0 l1 y586 y592 bt595.1 bt595.2 (!t604) a2_0 a2_1 a2_2)) else (w22_DistPenalties.j0 k l0 l1 y586 y592 bt595.1 bt595.2 true a2_0 a2_1 a2_2)) else (w22_DistPenalties.j0 k l0 l1 y586 y592 bt595.1 bt595.2 true a2_0 a2_1 a2_2)))))) else (none)))) else (none)) = some r := by first | (rw [hy583]; with_reducible exact H) | (have H2_ := (yV _ _).symm.trans H; rw [hy583]; with_reducible exact H2_) | (have H2_ := (yV _ _).symm.trans H; with_reducible exact H2_) | with_reducible exact H | (rw [hy583]; exact H) | exact H
   have Ny583 := zK hy583
   clear hy583
   by_cases c6 : y583.length + l0.length < 17592186044416
   ·rw [if_pos c6] at H
    have LMc6 := zK c6
    clear c6
    obtain ⟨y586, hy586⟩ : ∃ y_ : List Int, y_ = (y583 ++ l0) := ⟨_, rfl⟩
    replace H : ((some (([] : List Int) : List Int)).bind fun y589 => (if y589.length + l1.length < 17592186044416 then ((some (y589 ++ l1 : List Int)).bind fun y592 => ((dist_Penalise.f k y586 y592 a2_0 a2_1 a2_2).bind fun bt595 => ((r22_Penalise.f k l0 l1 a2_0 a2_1 a2_2).bind fun bt599 => ((w22_same.f k bt595.1 bt599.1).bind fun t603 => (if t603 = true then (if bt595.2 = bt599.2 then ((w22_same.f k y586 l0).bind fun t604 => (w22_DistPenalties.j0 k l0 l1 y586 y592 bt595.1 bt595.2 (!t604) a2_0 a2_1 a2_2)) else (w22_DistPenalties.j0 k l0 l1 y586 y592 bt595.1 bt595.2 true a2_0 a2_1 a2_2)) else (w22_DistPenalties.j0 k l0 l1 y586 y592 bt595.1 bt595.2 true a2_0 a2_1 a2_2)))))) else (none))) = some r := by first | (rw [hy586]; with_reducible exact H) | (have H2_ := (yV _ _).symm.trans H; rw [hy586]; with_reducible exact H2_) | (have H2_ := (yV _ _).symm.trans H; with_reducible exact H2_) | with_reducible exact H | (rw [hy586]; exact H) | exact H
    have Ny586 := zK hy586
    clear hy586
    obtain ⟨y589, hy589⟩ : ∃ y_ : List Int, y_ = (([] : List Int)) := ⟨_, rfl⟩
    replace H : (if y589.length + l1.length < 17592186044416 then ((some (y589 ++ l1 : List Int)).bind fun y592 => ((dist_Penalise.f k y586 y592 a2_0 a2_1 a2_2).bind fun bt595 => ((r22_Penalise.f k l0 l1 a2_0 a2_1 a2_2).bind fun bt599 => ((w22_same.f k bt595.1 bt599.1).bind fun t603 => (if t603 = true then (if bt595.2 = bt599.2 then ((w22_same.f k y586 l0).bind fun t604 => (w22_DistPenalties.j0 k l0 l1 y586 y592 bt595.1 bt595.2 (!t604) a2_0 a2_1 a2_2)) else (w22_DistPenalties.j0 k l0 l1 y586 y592 bt595.1 bt595.2 true a2_0 a2_1 a2_2)) else (w22_DistPenalties.j0 k l0 l1 y586 y592 bt595.1 bt595.2 true a2_0 a2_1 a2_2)))))) else (none)) = some r := by first | (rw [hy589]; with_reducible exact H) | (have H2_ := (yV _ _).symm.trans H; rw [hy589]; with_reducible exact H2_) | (have H2_ := (yV _ _).symm.trans H; with_reducible exact H2_) | with_reducible exact H | (rw [hy589]; exact H) | exact H
    have Ny589 := zK hy589
    clear hy589
    by_cases c7 : y589.length + l1.length < 17592186044416
    ·rw [if_pos c7] at H
     have LMc7 := zK c7
     clear c7
     obtain ⟨y592, hy592⟩ : ∃ y_ : List Int, y_ = (y589 ++ l1) := ⟨_, rfl⟩
     replace H : ((dist_Penalise.f k y586 y592 a2_0 a2_1 a2_2).bind fun bt595 => ((r22_Penalise.f k l0 l1 a2_0 a2_1 a2_2).bind fun bt599 => ((w22_same.f k bt595.1 bt599.1).bind fun t603 => (if t603 = true then (if bt595.2 = bt599.2 then ((w22_same.f k y586 l0).bind fun t604 => (w22_DistPenalties.j0 k l0 l1 y586 y592 bt595.1 bt595.2 (!t604) a2_0 a2_1 a2_2)) else (w22_DistPenalties.j0 k l0 l1 y586 y592 bt595.1 bt595.2 true a2_0 a2_1 a2_2)) else (w22_DistPenalties.j0 k l0 l1 y586 y592 bt595.1 bt595.2 true a2_0 a2_1 a2_2))))) = some r := by first | (rw [hy592]; with_reducible exact H) | (have H2_ := (yV _ _).symm.trans H; rw [hy592]; with_reducible exact H2_) | (have H2_ := (yV _ _).symm.trans H; with_reducible exact H2_) | with_reducible exact H | (rw [hy592]; exact H) | exact H
     have Ny592 := zK hy592
     clear hy592
     replace H := yA.mp H
     obtain ⟨⟨t595, t598⟩, A80, H⟩ := H
     replace H : ((r22_Penalise.f k l0 l1 a2_0 a2_1 a2_2).bind fun bt599 => ((w22_same.f k t595 bt599.1).bind fun t603 => (if t603 = true then (if t598 = bt599.2 then ((w22_same.f k y586 l0).bind fun t604 => (w22_DistPenalties.j0 k l0 l1 y586 y592 t595 t598 (!t604) a2_0 a2_1 a2_2)) else (w22_DistPenalties.j0 k l0 l1 y586 y592 t595 t598 true a2_0 a2_1 a2_2)) else (w22_DistPenalties.j0 k l0 l1 y586 y592 t595 t598 true a2_0 a2_1 a2_2)))) = some r := H
     have A8 := zK A80
     clear A80
     replace H := yA.mp H
     obtain ⟨⟨t599, t602⟩, A90, H⟩ := H
     replace H : ((w22_same.f k t595 t599).bind fun t603 => (if t603 = true then (if t598 = t602 then ((w22_same.f k y586 l0).bind fun t604 => (w22_DistPenalties.j0 k l0 l1 y586 y592 t595 t598 (!t604) a2_0 a2_1 a2_2)) else (w22_DistPenalties.j0 k l0 l1 y586 y592 t595 t598 true a2_0 a2_1 a2_2)) else (w22_DistPenalties.j0 k l0 l1 y586 y592 t595 t598 true a2_0 a2_1 a2_2))) = some r := H
     have A9 := zK A90
     clear A90
     have HC10 := zK H
     clear H
     go_enter Try.func9, Try.ntmps9
     go_upto_region 6 with (first | ((with_reducible refine gate_dst (N := 5) rfl ?_); refine box_event ?hg (N := 5) ?hd (cs := #[.int .i64 a2_0, .int .i64 a2_1, .int .i64 a2_2]) (t := 53) ?hr ?_; (case hd => rfl); (case hg => rfl); (case hr => first | (go_simp; done) | (go_simp; rfl)); intro Z4 hg w11 hbox hb; have n0_ := zK (yL (by repeat (first | (with_reducible first | exact HB.out | apply zJ | apply zD | apply zE) | exact HB.out)) hb); have n1_ := zK (hbox); have n2_ := zK ((by rw [hg]; exact (yK (by repeat (first | (with_reducible first | exact HB.out | apply zJ | apply zD | apply zE) | exact HB.out))) : w.heap.size ≤ Z4)); have n3_ := zK ((by rw [hg]; exact (yK (by repeat (first | (with_reducible first | exact HB.out | apply zJ | apply zD | apply zE) | exact HB.out))) : w.heap.size ≤ Z4)); clear HB; have HB := n0_; have Z0 := n1_; have Z2 := n2_; have Z1 := n3_; clear n0_ n1_ n2_ n3_ hb hbox hg) | (go_at_call 13; (with_reducible refine (w22_awake.calls k  true _ A4.out).mono ?_); rintro e w12 ⟨rfl, hb⟩; have n0_ := zK (zP (g := Z4) (o := .cells #[.int .i64 a2_0, .int .i64 a2_1, .int .i64 a2_2] 53 (0, 0)) (by (with_reducible repeat (first | refine zF ?_ _ | refine zH ?_ | refine zG ?_ _)); exact Z0.out) hb); have n1_ := zK (yL (by repeat (first | (with_reducible first | exact HB.out | apply zJ | apply zD | apply zE | refine zI ?_ Z1.out) | exact HB.out)) hb); clear Z0 HB; have Z0 := n0_; have HB := n1_; clear n0_ n1_; (try clear hb); (try clear hb2); (try clear hk); (try clear hi)) | ((with_reducible refine gate_dst (N := 22) rfl ?_); refine Kd.R_lit (Kd.int .i64) _ 2 ?hg (N := 22) ?hd (xs := ([] : List Int)) (inner := []) (ok := fun _ => True) (okp := fun _ => True) ?hr ?hp (fun _ hk => hk) trivial (Below.refl _ _) (yN _) (by simp) ?_; (case hd => rfl); (case hg => rfl); (case hr => first | (go_simp; done) | (go_simp; rfl)); (case hp => exact (Reps.none _ _)); intro v584 w13 ho14 hb hg_ hnew_; clear hg_ hnew_; (first | rw [← Ny583.out] at ho14 | (simp only [Int.reduceToNat] at ho14; rw [← Ny583.out] at ho14)); have n0_ := zK (Kd.R_lower ho14 (yK (by repeat (first | (with_reducible first | exact HB.out | apply zJ | apply zD | apply zE | refine zI ?_ Z1.out) | exact HB.out)))); have n1_ := zK (zP (g := Z4) (o := .cells #[.int .i64 a2_0, .int .i64 a2_1, .int .i64 a2_2] 53 (0, 0)) (by (with_reducible repeat (first | refine zF ?_ _ | refine zH ?_ | refine zG ?_ _)); exact Z0.out) hb); have n2_ := zK (yL (by repeat (first | (with_reducible first | exact HB.out | apply zJ | apply zD | apply zE | refine zI ?_ Z1.out) | exact HB.out)) hb); clear Z0 HB; have HO585 := n0_; have Z0 := n1_; have HB := n2_; clear n0_ n1_ n2_ hb ho14) | ((with_reducible refine gate_builtin (b := .append) (xs := #[.tmp 22, .tmp 23]) rfl ?_); at_builtin; refine Kd.R_append_rows (Kd.int .i64) (w0 := w) w.heap.size rfl (.tmp 22) (.tmp 23) 36 2 (.int .i64 0) 8 rfl Try.underlying36 info2 rfl (by decide) (by omega) v584 y583 l0 _ _ _ (fun _ => True) (fun _ => False) rfl rfl ?aO ?aR (fun _ _ h => h) (fun _ h => h.elim) ?aF ?aB ?aS ?aL ?_; (case aR => repeat (first | exact (yc HR0.out HB.out) | (with_reducible refine yS ?_ _) | (with_reducible refine yT ?_ _) | (with_reducible refine yU ?_))); (case aB => exact (by repeat (first | (with_reducible first | exact HB.out | apply zJ | apply zD | apply zE | refine zI ?_ Z1.out) | exact HB.out))); (case aF => exact (fun _ _ => trivial)); (case aO => exact (by (with_reducible repeat (first | apply zL | apply zM | apply zN)); exact HO585.out)); (case aS => exact (yK (by repeat (first | (with_reducible first | exact HB.out | apply zJ | apply zD | apply zE | refine zI ?_ Z1.out) | exact HB.out)))); (case aL => have := LMc6.out; omega); intro v587 w15 ho hb hg hat; rw [← Ny586.out] at ho; have n0_ := zK (blk_grown (g := Z4) (o := .cells #[.int .i64 a2_0, .int .i64 a2_1, .int .i64 a2_2] 53 (0, 0)) (by (with_reducible repeat (first | refine zF ?_ _ | refine zH ?_ | refine zG ?_ _)); exact Z0.out) hg (Kd.R_ne HO585.out Z0.out (by decide))); have n1_ := zK (hb); have n2_ := zK (ho); clear Z0 HB HO585; have Z0 := n0_; have HB := n1_; have HO588 := n2_; clear n0_ n1_ n2_ ho hb hg hat) | ((with_reducible refine gate_dst (N := 25) rfl ?_); refine Kd.R_lit (Kd.int .i64) _ 3 ?hg (N := 25) ?hd (xs := ([] : List Int)) (inner := []) (ok := fun _ => True) (okp := fun _ => True) ?hr ?hp (fun _ hk => hk) trivial (Below.refl _ _) (yN _) (by simp) ?_; (case hd => rfl); (case hg => rfl); (case hr => first | (go_simp; done) | (go_simp; rfl)); (case hp => exact (Reps.none _ _)); intro v590 w16 ho17 hb hg_ hnew_; clear hg_ hnew_; (first | rw [← Ny589.out] at ho17 | (simp only [Int.reduceToNat] at ho17; rw [← Ny589.out] at ho17)); have n0_ := zK (yb (by (with_reducible repeat (first | apply zL | apply zM | apply zN)); exact HO588.out) hb); have n1_ := zK (Kd.R_lower ho17 (yK (by repeat (first | (with_reducible first | exact HB.out | apply zJ | apply zD | apply zE | refine zI ?_ Z1.out) | exact HB.out)))); have n2_ := zK (zP (g := Z4) (o := .cells #[.int .i64 a2_0, .int .i64 a2_1, .int .i64 a2_2] 53 (0, 0)) (by (with_reducible repeat (first | refine zF ?_ _ | refine zH ?_ | refine zG ?_ _)); exact Z0.out) hb); have n3_ := zK (yL (by repeat (first | (with_reducible first | exact HB.out | apply zJ | apply zD | apply zE | refine zI ?_ Z1.out) | exact HB.out)) hb); clear HO588 Z0 HB; have HO588 := n0_; have HO591 := n1_; have Z0 := n2_; have HB := n3_; clear n0_ n1_ n2_ n3_ hb ho17) | ((with_reducible refine gate_builtin (b := .append) (xs := #[.tmp 25, .tmp 26]) rfl ?_); at_builtin; refine Kd.R_append_rows (Kd.int .i64) (w0 := w) w.heap.size rfl (.tmp 25) (.tmp 26) 51 3 (.int .i64 0) 8 rfl Try.underlying51 info3 rfl (by decide) (by omega) v590 y589 l1 _ _ _ (fun _ => True) (fun _ => False) rfl rfl ?aO ?aR (fun _ _ h => h) (fun _ h => h.elim) ?aF ?aB ?aS ?aL ?_; (case aR => repeat (first | exact (yc HR1.out HB.out) | (with_reducible refine yS ?_ _) | (with_reducible refine yT ?_ _) | (with_reducible refine yU ?_))); (case aB => exact (by repeat (first | (with_reducible first | exact HB.out | apply zJ | apply zD | apply zE | refine zI ?_ Z1.out) | exact HB.out))); (case aF => exact (fun _ _ => trivial)); (case aO => exact (by (with_reducible repeat (first | apply zL | apply zM | apply zN)); exact HO591.out)); (case aS => exact (yK (by repeat (first | (with_reducible first | exact HB.out | apply zJ | apply zD | apply zE | refine zI ?_ Z1.out) | exact HB.out)))); (case aL => have := LMc7.out; omega); intro v593 w18 ho hb hg hat; rw [← Ny592.out] at ho; have n0_ := zK (blk_grown (g := Z4) (o := .cells #[.int .i64 a2_0, .int .i64 a2_1, .int .i64 a2_2] 53 (0, 0)) (by (with_reducible repeat (first | refine zF ?_ _ | refine zH ?_ | refine zG ?_ _)); exact Z0.out) hg (Kd.R_ne HO591.out Z0.out (by decide))); have n1_ := zK (Kd.R_over' (by (with_reducible repeat (first | apply zL | apply zM | apply zN)); exact HO588.out) (Kd.R_typed (by (with_reducible repeat (first | apply zL | apply zM | apply zN)); exact HO591.out)) (by decide) hg); have n2_ := zK (hb); have n3_ := zK (ho); clear Z0 HO588 HB HO591; have Z0 := n0_; have HO588 := n1_; have HB := n2_; have HO594 := n3_; clear n0_ n1_ n2_ n3_ ho hb hg hat; have hcz19_0 : w18.cell? ⟨Z4, 0, none⟩ = some (.int .i64 a2_0) := (zO Z0.out 0).trans rfl; have hcz19_1 : w18.cell? ⟨Z4, 1, none⟩ = some (.int .i64 a2_1) := (zO Z0.out 1).trans rfl; have hcz19_2 : w18.cell? ⟨Z4, 2, none⟩ = some (.int .i64 a2_2) := (zO Z0.out 2).trans rfl; have hfz19_0 := yE Z0.out 0; have hfz19_1 := yE Z0.out 1; have hfz19_2 := yE Z0.out 2; obtain ⟨Ao20, co20, eo20⟩ := Kd.R_slice HO588.out; subst eo20; obtain ⟨Ao21, co21, eo21⟩ := Kd.R_slice HO594.out; subst eo21) | (go_at_call 25; (with_reducible refine (dist_Penalise.calls k _ _ y586 (fun k_ => some k_ = (.slice Ao21 y592.length co21 : Value).ownBlock) _ _ y592 a2_0 a2_1 a2_2 t595 t598 _ ?side1 ?side2 ?side3 A8.out).mono ?_); (case side1 => repeat (first | exact (yM HO588.out).2.2 | (with_reducible refine yS ?_ _) | (with_reducible refine yT ?_ _) | (with_reducible refine yU ?_))); (case side2 => exact (yM HO588.out).2.1); (case side3 => exact Kd.R_V (Kd.R_tight rfl (Kd.R_types (Kd.R_apart' (HO594.out) (Kd.R_typed HO588.out) (by decide)) Z0.out (by decide)))); rintro e w22 ⟨v596, rfl, ho0, hb⟩; have n0_ := zK (Kd.R_elder' (by (with_reducible repeat (first | apply zL | apply zM | apply zN)); exact HO588.out) (Kd.R_base ho0) hb); have n1_ := zK (yb (by (with_reducible repeat (first | apply zL | apply zM | apply zN)); exact HO594.out) hb); have n2_ := zK (Kd.R_lower (Kd.R_new' (yd (ok' := fun k_ => True) ho0 (fun _ hk_ => trivial)) (Kd.R_lt (by (with_reducible repeat (first | apply zL | apply zM | apply zN)); exact HO588.out))) (yK (by repeat (first | (with_reducible first | exact HB.out | apply zJ | apply zD | apply zE | refine zI ?_ Z1.out) | exact HB.out)))); have n3_ := zK (zP (g := Z4) (o := .cells #[.int .i64 a2_0, .int .i64 a2_1, .int .i64 a2_2] 53 (0, 0)) (by (with_reducible repeat (first | refine zF ?_ _ | refine zH ?_ | refine zG ?_ _)); exact Z0.out) hb); have n4_ := zK (yL (by repeat (first | (with_reducible first | exact HB.out | apply zJ | apply zD | apply zE | refine zI ?_ Z1.out) | exact HB.out)) hb); clear HO588 HO594 Z0 HB; have HO588 := n0_; have HO594 := n1_; have HO597 := n2_; have Z0 := n3_; have HB := n4_; clear n0_ n1_ n2_ n3_ n4_; (try clear hb); (try clear hb2); (try clear hk); (try clear hi); (try clear ho0); have hcz23_0 : w22.cell? ⟨Z4, 0, none⟩ = some (.int .i64 a2_0) := (zO Z0.out 0).trans rfl; have hcz23_1 : w22.cell? ⟨Z4, 1, none⟩ = some (.int .i64 a2_1) := (zO Z0.out 1).trans rfl; have hcz23_2 : w22.cell? ⟨Z4, 2, none⟩ = some (.int .i64 a2_2) := (zO Z0.out 2).trans rfl; have hfz23_0 := yE Z0.out 0; have hfz23_1 := yE Z0.out 1; have hfz23_2 := yE Z0.out 2) | (go_at_call 26; (with_reducible refine (r22_Penalise.calls k _ _ l0 _ _ l1 a2_0 a2_1 a2_2 t599 t602 _ ?side1 ?side2 ?side3 ?side4 A9.out).mono ?_); (case side1 => repeat (first | exact (yc HR0.out HB.out) | (with_reducible refine yS ?_ _) | (with_reducible refine yT ?_ _) | (with_reducible refine yU ?_))); (case side2 => exact HC0.out); (case side3 => repeat (first | exact (yc HR1.out HB.out) | (with_reducible refine yS ?_ _) | (with_reducible refine yT ?_ _) | (with_reducible refine yU ?_))); (case side4 => exact HC1.out); rintro e w24 ⟨v600, rfl, ho0, hb⟩; have n0_ := zK (Kd.R_elder' (by (with_reducible repeat (first | apply zL | apply zM | apply zN)); exact HO588.out) (Kd.R_base ho0) hb); have n1_ := zK (yb (by (with_reducible repeat (first | apply zL | apply zM | apply zN)); exact HO594.out) hb); have n2_ := zK (Kd.R_elder' (by (with_reducible repeat (first | apply zL | apply zM | apply zN)); exact HO597.out) (Kd.R_base ho0) hb); have n3_ := zK (Kd.R_lower (Kd.R_new' (Kd.R_new' ho0 (Kd.R_lt (by (with_reducible repeat (first | apply zL | apply zM | apply zN)); exact HO588.out))) (Kd.R_lt (by (with_reducible repeat (first | apply zL | apply zM | apply zN)); exact HO597.out))) (yK (by repeat (first | (with_reducible first | exact HB.out | apply zJ | apply zD | apply zE | refine zI ?_ Z1.out) | exact HB.out)))); have n4_ := zK (zP (g := Z4) (o := .cells #[.int .i64 a2_0, .int .i64 a2_1, .int .i64 a2_2] 53 (0, 0)) (by (with_reducible repeat (first | refine zF ?_ _ | refine zH ?_ | refine zG ?_ _)); exact Z0.out) hb); have n5_ := zK (yL (by repeat (first | (with_reducible first | exact HB.out | apply zJ | apply zD | apply zE | refine zI ?_ Z1.out) | exact HB.out)) hb); clear HO588 HO594 HO597 Z0 HB; have HO588 := n0_; have HO594 := n1_; have HO597 := n2_; have HO601 := n3_; have Z0 := n4_; have HB := n5_; clear n0_ n1_ n2_ n3_ n4_ n5_; (try clear hb); (try clear hb2); (try clear hk); (try clear hi); (try clear ho0)))
     repeat (go_quiet (first | ((with_reducible refine gate_dst (N := 5) rfl ?_); refine box_event ?hg (N := 5) ?hd (cs := #[.int .i64 a2_0, .int .i64 a2_1, .int .i64 a2_2]) (t := 53) ?hr ?_; (case hd => rfl); (case hg => rfl); (case hr => first | (go_simp; done) | (go_simp; rfl)); intro Z4 hg w11 hbox hb; have n0_ := zK (yL (by repeat (first | (with_reducible first | exact HB.out | apply zJ | apply zD | apply zE) | exact HB.out)) hb); have n1_ := zK (hbox); have n2_ := zK ((by rw [hg]; exact (yK (by repeat (first | (with_reducible first | exact HB.out | apply zJ | apply zD | apply zE) | exact HB.out))) : w.heap.size ≤ Z4)); have n3_ := zK ((by rw [hg]; exact (yK (by repeat (first | (with_reducible first | exact HB.out | apply zJ | apply zD | apply zE) | exact HB.out))) : w.heap.size ≤ Z4)); clear HB; have HB := n0_; have Z0 := n1_; have Z2 := n2_; have Z1 := n3_; clear n0_ n1_ n2_ n3_ hb hbox hg) | (go_at_call 13; (with_reducible refine (w22_awake.calls k  true _ A4.out).mono ?_); rintro e w12 ⟨rfl, hb⟩; have n0_ := zK (zP (g := Z4) (o := .cells #[.int .i64 a2_0, .int .i64 a2_1, .int .i64 a2_2] 53 (0, 0)) (by (with_reducible repeat (first | refine zF ?_ _ | refine zH ?_ | refine zG ?_ _)); exact Z0.out) hb); have n1_ := zK (yL (by repeat (first | (with_reducible first | exact HB.out | apply zJ | apply zD | apply zE | refine zI ?_ Z1.out) | exact HB.out)) hb); clear Z0 HB; have Z0 := n0_; have HB := n1_; clear n0_ n1_; (try clear hb); (try clear hb2); (try clear hk); (try clear hi)) | ((with_reducible refine gate_dst (N := 22) rfl ?_); refine Kd.R_lit (Kd.int .i64) _ 2 ?hg (N := 22) ?hd (xs := ([] : List Int)) (inner := []) (ok := fun _ => True) (okp := fun _ => True) ?hr ?hp (fun _ hk => hk) trivial (Below.refl _ _) (yN _) (by simp) ?_; (case hd => rfl); (case hg => rfl); (case hr => first | (go_simp; done) | (go_simp; rfl)); (case hp => exact (Reps.none _ _)); intro v584 w13 ho14 hb hg_ hnew_; clear hg_ hnew_; (first | rw [← Ny583.out] at ho14 | (simp only [Int.reduceToNat] at ho14; rw [← Ny583.out] at ho14)); have n0_ := zK (Kd.R_lower ho14 (yK (by repeat (first | (with_reducible first | exact HB.out | apply zJ | apply zD | apply zE | refine zI ?_ Z1.out) | exact HB.out)))); have n1_ := zK (zP (g := Z4) (o := .cells #[.int .i64 a2_0, .int .i64 a2_1, .int .i64 a2_2] 53 (0, 0)) (by (with_reducible repeat (first | refine zF ?_ _ | refine zH ?_ | refine zG ?_ _)); exact Z0.out) hb); have n2_ := zK (yL (by repeat (first | (with_reducible first | exact HB.out | apply zJ | apply zD | apply zE | refine zI ?_ Z1.out) | exact HB.out)) hb); clear Z0 HB; have HO585 := n0_; have Z0 := n1_; have HB := n2_; clear n0_ n1_ n2_ hb ho14) | ((with_reducible refine gate_builtin (b := .append) (xs := #[.tmp 22, .tmp 23]) rfl ?_); at_builtin; refine Kd.R_append_rows (Kd.int .i64) (w0 := w) w.heap.size rfl (.tmp 22) (.tmp 23) 36 2 (.int .i64 0) 8 rfl Try.underlying36 info2 rfl (by decide) (by omega) v584 y583 l0 _ _ _ (fun _ => True) (fun _ => False) rfl rfl ?aO ?aR (fun _ _ h => h) (fun _ h => h.elim) ?aF ?aB ?aS ?aL ?_; (case aR => repeat (first | exact (yc HR0.out HB.out) | (with_reducible refine yS ?_ _) | (with_reducible refine yT ?_ _) | (with_reducible refine yU ?_))); (case aB => exact (by repeat (first | (with_reducible first | exact HB.out | apply zJ | apply zD | apply zE | refine zI ?_ Z1.out) | exact HB.out))); (case aF => exact (fun _ _ => trivial)); (case aO => exact (by (with_reducible repeat (first | apply zL | apply zM | apply zN)); exact HO585.out)); (case aS => exact (yK (by repeat (first | (with_reducible first | exact HB.out | apply zJ | apply zD | apply zE | refine zI ?_ Z1.out) | exact HB.out)))); (case aL => have := LMc6.out; omega); intro v587 w15 ho hb hg hat; rw [← Ny586.out] at ho; have n0_ := zK (blk_grown (g := Z4) (o := .cells #[.int .i64 a2_0, .int .i64 a2_1, .int .i64 a2_2] 53 (0, 0)) (by (with_reducible repeat (first | refine zF ?_ _ | refine zH ?_ | refine zG ?_ _)); exact Z0.out) hg (Kd.R_ne HO585.out Z0.out (by decide))); have n1_ := zK (hb); have n2_ := zK (ho); clear Z0 HB HO585; have Z0 := n0_; have HB := n1_; have HO588 := n2_; clear n0_ n1_ n2_ ho hb hg hat) | ((with_reducible refine gate_dst (N := 25) rfl ?_); refine Kd.R_lit (Kd.int .i64) _ 3 ?hg (N := 25) ?hd (xs := ([] : List Int)) (inner := []) (ok := fun _ => True) (okp := fun _ => True) ?hr ?hp (fun _ hk => hk) trivial (Below.refl _ _) (yN _) (by simp) ?_; (case hd => rfl); (case hg => rfl); (case hr => first | (go_simp; done) | (go_simp; rfl)); (case hp => exact (Reps.none _ _)); intro v590 w16 ho17 hb hg_ hnew_; clear hg_ hnew_; (first | rw [← Ny589.out] at ho17 | (simp only [Int.reduceToNat] at ho17; rw [← Ny589.out] at ho17)); have n0_ := zK (yb (by (with_reducible repeat (first | apply zL | apply zM | apply zN)); exact HO588.out) hb); have n1_ := zK (Kd.R_lower ho17 (yK (by repeat (first | (with_reducible first | exact HB.out | apply zJ | apply zD | apply zE | refine zI ?_ Z1.out) | exact HB.out)))); have n2_ := zK (zP (g := Z4) (o := .cells #[.int .i64 a2_0, .int .i64 a2_1, .int .i64 a2_2] 53 (0, 0)) (by (with_reducible repeat (first | refine zF ?_ _ | refine zH ?_ | refine zG ?_ _)); exact Z0.out) hb); have n3_ := zK (yL (by repeat (first | (with_reducible first | exact HB.out | apply zJ | apply zD | apply zE | refine zI ?_ Z1.out) | exact HB.out)) hb); clear HO588 Z0 HB; have HO588 := n0_; have HO591 := n1_; have Z0 := n2_; have HB := n3_; clear n0_ n1_ n2_ n3_ hb ho17) | ((with_reducible refine gate_builtin (b := .append) (xs := #[.tmp 25, .tmp 26]) rfl ?_); at_builtin; refine Kd.R_append_rows (Kd.int .i64) (w0 := w) w.heap.size rfl (.tmp 25) (.tmp 26) 51 3 (.int .i64 0) 8 rfl Try.underlying51 info3 rfl (by decide) (by omega) v590 y589 l1 _ _ _ (fun _ => True) (fun _ => False) rfl rfl ?aO ?aR (fun _ _ h => h) (fun _ h => h.elim) ?aF ?aB ?aS ?aL ?_; (case aR => repeat (first | exact (yc HR1.out HB.out) | (with_reducible refine yS ?_ _) | (with_reducible refine yT ?_ _) | (with_reducible refine yU ?_))); (case aB => exact (by repeat (first | (with_reducible first | exact HB.out | apply zJ | apply zD | apply zE | refine zI ?_ Z1.out) | exact HB.out))); (case aF => exact (fun _ _ => trivial)); (case aO => exact (by (with_reducible repeat (first | apply zL | apply zM | apply zN)); exact HO591.out)); (case aS => exact (yK (by repeat (first | (with_reducible first | exact HB.out | apply zJ | apply zD | apply zE | refine zI ?_ Z1.out) | exact HB.out)))); (case aL => have := LMc7.out; omega); intro v593 w18 ho hb hg hat; rw [← Ny592.out] at ho; have n0_ := zK (blk_grown (g := Z4) (o := .cells #[.int .i64 a2_0, .int .i64 a2_1, .int .i64 a2_2] 53 (0, 0)) (by (with_reducible repeat (first | refine zF ?_ _ | refine zH ?_ | refine zG ?_ _)); exact Z0.out) hg (Kd.R_ne HO591.out Z0.out (by decide))); have n1_ := zK (Kd.R_over' (by (with_reducible repeat (first | apply zL | apply zM | apply zN)); exact HO588.out) (Kd.R_typed (by (with_reducible repeat (first | apply zL | apply zM | apply zN)); exact HO591.out)) (by decide) hg); have n2_ := zK (hb); have n3_ := zK (ho); clear Z0 HO588 HB HO591; have Z0 := n0_; have HO588 := n1_; have HB := n2_; have HO594 := n3_; clear n0_ n1_ n2_ n3_ ho hb hg hat; have hcz19_0 : w18.cell? ⟨Z4, 0, none⟩ = some (.int .i64 a2_0) := (zO Z0.out 0).trans rfl; have hcz19_1 : w18.cell? ⟨Z4, 1, none⟩ = some (.int .i64 a2_1) := (zO Z0.out 1).trans rfl; have hcz19_2 : w18.cell? ⟨Z4, 2, none⟩ = some (.int .i64 a2_2) := (zO Z0.out 2).trans rfl; have hfz19_0 := yE Z0.out 0; have hfz19_1 := yE Z0.out 1; have hfz19_2 := yE Z0.out 2; obtain ⟨Ao20, co20, eo20⟩ := Kd.R_slice HO588.out; subst eo20; obtain ⟨Ao21, co21, eo21⟩ := Kd.R_slice HO594.out; subst eo21) | (go_at_call 25; (with_reducible refine (dist_Penalise.calls k _ _ y586 (fun k_ => some k_ = (.slice Ao21 y592.length co21 : Value).ownBlock) _ _ y592 a2_0 a2_1 a2_2 t595 t598 _ ?side1 ?side2 ?side3 A8.out).mono ?_); (case side1 => repeat (first | exact (yM HO588.out).2.2 | (with_reducible refine yS ?_ _) | (with_reducible refine yT ?_ _) | (with_reducible refine yU ?_))); (case side2 => exact (yM HO588.out).2.1); (case side3 => exact Kd.R_V (Kd.R_tight rfl (Kd.R_types (Kd.R_apart' (HO594.out) (Kd.R_typed HO588.out) (by decide)) Z0.out (by decide)))); rintro e w22 ⟨v596, rfl, ho0, hb⟩; have n0_ := zK (Kd.R_elder' (by (with_reducible repeat (first | apply zL | apply zM | apply zN)); exact HO588.out) (Kd.R_base ho0) hb); have n1_ := zK (yb (by (with_reducible repeat (first | apply zL | apply zM | apply zN)); exact HO594.out) hb); have n2_ := zK (Kd.R_lower (Kd.R_new' (yd (ok' := fun k_ => True) ho0 (fun _ hk_ => trivial)) (Kd.R_lt (by (with_reducible repeat (first | apply zL | apply zM | apply zN)); exact HO588.out))) (yK (by repeat (first | (with_reducible first | exact HB.out | apply zJ | apply zD | apply zE | refine zI ?_ Z1.out) | exact HB.out)))); have n3_ := zK (zP (g := Z4) (o := .cells #[.int .i64 a2_0, .int .i64 a2_1, .int .i64 a2_2] 53 (0, 0)) (by (with_reducible repeat (first | refine zF ?_ _ | refine zH ?_ | refine zG ?_ _)); exact Z0.out) hb); have n4_ := zK (yL (by repeat (first | (with_reducible first | exact HB.out | apply zJ | apply zD | apply zE | refine zI ?_ Z1.out) | exact HB.out)) hb); clear HO588 HO594 Z0 HB; have HO588 := n0_; have HO594 := n1_; have HO597 := n2_; have Z0 := n3_; have HB := n4_; clear n0_ n1_ n2_ n3_ n4_; (try clear hb); (try clear hb2); (try clear hk); (try clear hi); (try clear ho0); have hcz23_0 : w22.cell? ⟨Z4, 0, none⟩ = some (.int .i64 a2_0) := (zO Z0.out 0).trans rfl; have hcz23_1 : w22.cell? ⟨Z4, 1, none⟩ = some (.int .i64 a2_1) := (zO Z0.out 1).trans rfl; have hcz23_2 : w22.cell? ⟨Z4, 2, none⟩ = some (.int .i64 a2_2) := (zO Z0.out 2).trans rfl; have hfz23_0 := yE Z0.out 0; have hfz23_1 := yE Z0.out 1; have hfz23_2 := yE Z0.out 2) | (go_at_call 26; (with_reducible refine (r22_Penalise.calls k _ _ l0 _ _ l1 a2_0 a2_1 a2_2 t599 t602 _ ?side1 ?side2 ?side3 ?side4 A9.out).mono ?_); (case side1 => repeat (first | exact (yc HR0.out HB.out) | (with_reducible refine yS ?_ _) | (with_reducible refine yT ?_ _) | (with_reducible refine yU ?_))); (case side2 => exact HC0.out); (case side3 => repeat (first | exact (yc HR1.out HB.out) | (with_reducible refine yS ?_ _) | (with_reducible refine yT ?_ _) | (with_reducible refine yU ?_))); (case side4 => exact HC1.out); rintro e w24 ⟨v600, rfl, ho0, hb⟩; have n0_ := zK (Kd.R_elder' (by (with_reducible repeat (first | apply zL | apply zM | apply zN)); exact HO588.out) (Kd.R_base ho0) hb); have n1_ := zK (yb (by (with_reducible repeat (first | apply zL | apply zM | apply zN)); exact HO594.out) hb); have n2_ := zK (Kd.R_elder' (by (with_reducible repeat (first | apply zL | apply zM | apply zN)); exact HO597.out) (Kd.R_base ho0) hb); have n3_ := zK (Kd.R_lower (Kd.R_new' (Kd.R_new' ho0 (Kd.R_lt (by (with_reducible repeat (first | apply zL | apply zM | apply zN)); exact HO588.out))) (Kd.R_lt (by (with_reducible repeat (first | apply zL | apply zM | apply zN)); exact HO597.out))) (yK (by repeat (first | (with_reducible first | exact HB.out | apply zJ | apply zD | apply zE | refine zI ?_ Z1.out) | exact HB.out)))); have n4_ := zK (zP (g := Z4) (o := .cells #[.int .i64 a2_0, .int .i64 a2_1, .int .i64 a2_2] 53 (0, 0)) (by (with_reducible repeat (first | refine zF ?_ _ | refine zH ?_ | refine zG ?_ _)); exact Z0.out) hb); have n5_ := zK (yL (by repeat (first | (with_reducible first | exact HB.out | apply zJ | apply zD | apply zE | refine zI ?_ Z1.out) | exact HB.out)) hb); clear HO588 HO594 HO597 Z0 HB; have HO588 := n0_; have HO594 := n1_; have HO597 := n2_; have HO601 := n3_; have Z0 := n4_; have HB := n5_; clear n0_ n1_ n2_ n3_ n4_ n5_; (try clear hb); (try clear hb2); (try clear hk); (try clear hi); (try clear ho0))); go_upto_region 6 with (first | ((with_reducible refine gate_dst (N := 5) rfl ?_); refine box_event ?hg (N := 5) ?hd (cs := #[.int .i64 a2_0, .int .i64 a2_1, .int .i64 a2_2]) (t := 53) ?hr ?_; (case hd => rfl); (case hg => rfl); (case hr => first | (go_simp; done) | (go_simp; rfl)); intro Z4 hg w11 hbox hb; have n0_ := zK (yL (by repeat (first | (with_reducible first | exact HB.out | apply zJ | apply zD | apply zE) | exact HB.out)) hb); have n1_ := zK (hbox); have n2_ := zK ((by rw [hg]; exact (yK (by repeat (first | (with_reducible first | exact HB.out | apply zJ | apply zD | apply zE) | exact HB.out))) : w.heap.size ≤ Z4)); have n3_ := zK ((by rw [hg]; exact (yK (by repeat (first | (with_reducible first | exact HB.out | apply zJ | apply zD | apply zE) | exact HB.out))) : w.heap.size ≤ Z4)); clear HB; have HB := n0_; have Z0 := n1_; have Z2 := n2_; have Z1 := n3_; clear n0_ n1_ n2_ n3_ hb hbox hg) | (go_at_call 13; (with_reducible refine (w22_awake.calls k  true _ A4.out).mono ?_); rintro e w12 ⟨rfl, hb⟩; have n0_ := zK (zP (g := Z4) (o := .cells #[.int .i64 a2_0, .int .i64 a2_1, .int .i64 a2_2] 53 (0, 0)) (by (with_reducible repeat (first | refine zF ?_ _ | refine zH ?_ | refine zG ?_ _)); exact Z0.out) hb); have n1_ := zK (yL (by repeat (first | (with_reducible first | exact HB.out | apply zJ | apply zD | apply zE | refine zI ?_ Z1.out) | exact HB.out)) hb); clear Z0 HB; have Z0 := n0_; have HB := n1_; clear n0_ n1_; (try clear hb); (try clear hb2); (try clear hk); (try clear hi)) | ((with_reducible refine gate_dst (N := 22) rfl ?_); refine Kd.R_lit (Kd.int .i64) _ 2 ?hg (N := 22) ?hd (xs := ([] : List Int)) (inner := []) (ok := fun _ => True) (okp := fun _ => True) ?hr ?hp (fun _ hk => hk) trivial (Below.refl _ _) (yN _) (by simp) ?_; (case hd => rfl); (case hg => rfl); (case hr => first | (go_simp; done) | (go_simp; rfl)); (case hp => exact (Reps.none _ _)); intro v584 w13 ho14 hb hg_ hnew_; clear hg_ hnew_; (first | rw [← Ny583.out] at ho14 | (simp only [Int.reduceToNat] at ho14; rw [← Ny583.out] at ho14)); have n0_ := zK (Kd.R_lower ho14 (yK (by repeat (first | (with_reducible first | exact HB.out | apply zJ | apply zD | apply zE | refine zI ?_ Z1.out) | exact HB.out)))); have n1_ := zK (zP (g := Z4) (o := .cells #[.int .i64 a2_0, .int .i64 a2_1, .int .i64 a2_2] 53 (0, 0)) (by (with_reducible repeat (first | refine zF ?_ _ | refine zH ?_ | refine zG ?_ _)); exact Z0.out) hb); have n2_ := zK (yL (by repeat (first | (with_reducible first | exact HB.out | apply zJ | apply zD | apply zE | refine zI ?_ Z1.out) | exact HB.out)) hb); clear Z0 HB; have HO585 := n0_; have Z0 := n1_; have HB := n2_; clear n0_ n1_ n2_ hb ho14) | ((with_reducible refine gate_builtin (b := .append) (xs := #[.tmp 22, .tmp 23]) rfl ?_); at_builtin; refine Kd.R_append_rows (Kd.int .i64) (w0 := w) w.heap.size rfl (.tmp 22) (.tmp 23) 36 2 (.int .i64 0) 8 rfl Try.underlying36 info2 rfl (by decide) (by omega) v584 y583 l0 _ _ _ (fun _ => True) (fun _ => False) rfl rfl ?aO ?aR (fun _ _ h => h) (fun _ h => h.elim) ?aF ?aB ?aS ?aL ?_; (case aR => repeat (first | exact (yc HR0.out HB.out) | (with_reducible refine yS ?_ _) | (with_reducible refine yT ?_ _) | (with_reducible refine yU ?_))); (case aB => exact (by repeat (first | (with_reducible first | exact HB.out | apply zJ | apply zD | apply zE | refine zI ?_ Z1.out) | exact HB.out))); (case aF => exact (fun _ _ => trivial)); (case aO => exact (by (with_reducible repeat (first | apply zL | apply zM | apply zN)); exact HO585.out)); (case aS => exact (yK (by repeat (first | (with_reducible first | exact HB.out | apply zJ | apply zD | apply zE | refine zI ?_ Z1.out) | exact HB.out)))); (case aL => have := LMc6.out; omega); intro v587 w15 ho hb hg hat; rw [← Ny586.out] at ho; have n0_ := zK (blk_grown (g := Z4) (o := .cells #[.int .i64 a2_0, .int .i64 a2_1, .int .i64 a2_2] 53 (0, 0)) (by (with_reducible repeat (first | refine zF ?_ _ | refine zH ?_ | refine zG ?_ _)); exact Z0.out) hg (Kd.R_ne HO585.out Z0.out (by decide))); have n1_ := zK (hb); have n2_ := zK (ho); clear Z0 HB HO585; have Z0 := n0_; have HB := n1_; have HO588 := n2_; clear n0_ n1_ n2_ ho hb hg hat) | ((with_reducible refine gate_dst (N := 25) rfl ?_); refine Kd.R_lit (Kd.int .i64) _ 3 ?hg (N := 25) ?hd (xs := ([] : List Int)) (inner := []) (ok := fun _ => True) (okp := fun _ => True) ?hr ?hp (fun _ hk => hk) trivial (Below.refl _ _) (yN _) (by simp) ?_; (case hd => rfl); (case hg => rfl); (case hr => first | (go_simp; done) | (go_simp; rfl)); (case hp => exact (Reps.none _ _)); intro v590 w16 ho17 hb hg_ hnew_; clear hg_ hnew_; (first | rw [← Ny589.out] at ho17 | (simp only [Int.reduceToNat] at ho17; rw [← Ny589.out] at ho17)); have n0_ := zK (yb (by (with_reducible repeat (first | apply zL | apply zM | apply zN)); exact HO588.out) hb); have n1_ := zK (Kd.R_lower ho17 (yK (by repeat (first | (with_reducible first | exact HB.out | apply zJ | apply zD | apply zE | refine zI ?_ Z1.out) | exact HB.out)))); have n2_ := zK (zP (g := Z4) (o := .cells #[.int .i64 a2_0, .int .i64 a2_1, .int .i64 a2_2] 53 (0, 0)) (by (with_reducible repeat (first | refine zF ?_ _ | refine zH ?_ | refine zG ?_ _)); exact Z0.out) hb); have n3_ := zK (yL (by repeat (first | (with_reducible first | exact HB.out | apply zJ | apply zD | apply zE | refine zI ?_ Z1.out) | exact HB.out)) hb); clear HO588 Z0 HB; have HO588 := n0_; have HO591 := n1_; have Z0 := n2_; have HB := n3_; clear n0_ n1_ n2_ n3_ hb ho17) | ((with_reducible refine gate_builtin (b := .append) (xs := #[.tmp 25, .tmp 26]) rfl ?_); at_builtin; refine Kd.R_append_rows (Kd.int .i64) (w0 := w) w.heap.size rfl (.tmp 25) (.tmp 26) 51 3 (.int .i64 0) 8 rfl Try.underlying51 info3 rfl (by decide) (by omega) v590 y589 l1 _ _ _ (fun _ => True) (fun _ => False) rfl rfl ?aO ?aR (fun _ _ h => h) (fun _ h => h.elim) ?aF ?aB ?aS ?aL ?_; (case aR => repeat (first | exact (yc HR1.out HB.out) | (with_reducible refine yS ?_ _) | (with_reducible refine yT ?_ _) | (with_reducible refine yU ?_))); (case aB => exact (by repeat (first | (with_reducible first | exact HB.out | apply zJ | apply zD | apply zE | refine zI ?_ Z1.out) | exact HB.out))); (case aF => exact (fun _ _ => trivial)); (case aO => exact (by (with_reducible repeat (first | apply zL | apply zM | apply zN)); exact HO591.out)); (case aS => exact (yK (by repeat (first | (with_reducible first | exact HB.out | apply zJ | apply zD | apply zE | refine zI ?_ Z1.out) | exact HB.out)))); (case aL => have := LMc7.out; omega); intro v593 w18 ho hb hg hat; rw [← Ny592.out] at ho; have n0_ := zK (blk_grown (g := Z4) (o := .cells #[.int .i64 a2_0, .int .i64 a2_1, .int .i64 a2_2] 53 (0, 0)) (by (with_reducible repeat (first | refine zF ?_ _ | refine zH ?_ | refine zG ?_ _)); exact Z0.out) hg (Kd.R_ne HO591.out Z0.out (by decide))); have n1_ := zK (Kd.R_over' (by (with_reducible repeat (first | apply zL | apply zM | apply zN)); exact HO588.out) (Kd.R_typed (by (with_reducible repeat (first | apply zL | apply zM | apply zN)); exact HO591.out)) (by decide) hg); have n2_ := zK (hb); have n3_ := zK (ho); clear Z0 HO588 HB HO591; have Z0 := n0_; have HO588 := n1_; have HB := n2_; have HO594 := n3_; clear n0_ n1_ n2_ n3_ ho hb hg hat; have hcz19_0 : w18.cell? ⟨Z4, 0, none⟩ = some (.int .i64 a2_0) := (zO Z0.out 0).trans rfl; have hcz19_1 : w18.cell? ⟨Z4, 1, none⟩ = some (.int .i64 a2_1) := (zO Z0.out 1).trans rfl; have hcz19_2 : w18.cell? ⟨Z4, 2, none⟩ = some (.int .i64 a2_2) := (zO Z0.out 2).trans rfl; have hfz19_0 := yE Z0.out 0; have hfz19_1 := yE Z0.out 1; have hfz19_2 := yE Z0.out 2; obtain ⟨Ao20, co20, eo20⟩ := Kd.R_slice HO588.out; subst eo20; obtain ⟨Ao21, co21, eo21⟩ := Kd.R_slice HO594.out; subst eo21) | (go_at_call 25; (with_reducible refine (dist_Penalise.calls k _ _ y586 (fun k_ => some k_ = (.slice Ao21 y592.length co21 : Value).ownBlock) _ _ y592 a2_0 a2_1 a2_2 t595 t598 _ ?side1 ?side2 ?side3 A8.out).mono ?_); (case side1 => repeat (first | exact (yM HO588.out).2.2 | (with_reducible refine yS ?_ _) | (with_reducible refine yT ?_ _) | (with_reducible refine yU ?_))); (case side2 => exact (yM HO588.out).2.1); (case side3 => exact Kd.R_V (Kd.R_tight rfl (Kd.R_types (Kd.R_apart' (HO594.out) (Kd.R_typed HO588.out) (by decide)) Z0.out (by decide)))); rintro e w22 ⟨v596, rfl, ho0, hb⟩; have n0_ := zK (Kd.R_elder' (by (with_reducible repeat (first | apply zL | apply zM | apply zN)); exact HO588.out) (Kd.R_base ho0) hb); have n1_ := zK (yb (by (with_reducible repeat (first | apply zL | apply zM | apply zN)); exact HO594.out) hb); have n2_ := zK (Kd.R_lower (Kd.R_new' (yd (ok' := fun k_ => True) ho0 (fun _ hk_ => trivial)) (Kd.R_lt (by (with_reducible repeat (first | apply zL | apply zM | apply zN)); exact HO588.out))) (yK (by repeat (first | (with_reducible first | exact HB.out | apply zJ | apply zD | apply zE | refine zI ?_ Z1.out) | exact HB.out)))); have n3_ := zK (zP (g := Z4) (o := .cells #[.int .i64 a2_0, .int .i64 a2_1, .int .i64 a2_2] 53 (0, 0)) (by (with_reducible repeat (first | refine zF ?_ _ | refine zH ?_ | refine zG ?_ _)); exact Z0.out) hb); have n4_ := zK (yL (by repeat (first | (with_reducible first | exact HB.out | apply zJ | apply zD | apply zE | refine zI ?_ Z1.out) | exact HB.out)) hb); clear HO588 HO594 Z0 HB; have HO588 := n0_; have HO594 := n1_; have HO597 := n2_; have Z0 := n3_; have HB := n4_; clear n0_ n1_ n2_ n3_ n4_; (try clear hb); (try clear hb2); (try clear hk); (try clear hi); (try clear ho0); have hcz23_0 : w22.cell? ⟨Z4, 0, none⟩ = some (.int .i64 a2_0) := (zO Z0.out 0).trans rfl; have hcz23_1 : w22.cell? ⟨Z4, 1, none⟩ = some (.int .i64 a2_1) := (zO Z0.out 1).trans rfl; have hcz23_2 : w22.cell? ⟨Z4, 2, none⟩ = some (.int .i64 a2_2) := (zO Z0.out 2).trans rfl; have hfz23_0 := yE Z0.out 0; have hfz23_1 := yE Z0.out 1; have hfz23_2 := yE Z0.out 2) | (go_at_call 26; (with_reducible refine (r22_Penalise.calls k _ _ l0 _ _ l1 a2_0 a2_1 a2_2 t599 t602 _ ?side1 ?side2 ?side3 ?side4 A9.out).mono ?_); (case side1 => repeat (first | exact (yc HR0.out HB.out) | (with_reducible refine yS ?_ _) | (with_reducible refine yT ?_ _) | (with_reducible refine yU ?_))); (case side2 => exact HC0.out); (case side3 => repeat (first | exact (yc HR1.out HB.out) | (with_reducible refine yS ?_ _) | (with_reducible refine yT ?_ _) | (with_reducible refine yU ?_))); (case side4 => exact HC1.out); rintro e w24 ⟨v600, rfl, ho0, hb⟩; have n0_ := zK (Kd.R_elder' (by (with_reducible repeat (first | apply zL | apply zM | apply zN)); exact HO588.out) (Kd.R_base ho0) hb); have n1_ := zK (yb (by (with_reducible repeat (first | apply zL | apply zM | apply zN)); exact HO594.out) hb); have n2_ := zK (Kd.R_elder' (by (with_reducible repeat (first | apply zL | apply zM | apply zN)); exact HO597.out) (Kd.R_base ho0) hb); have n3_ := zK (Kd.R_lower (Kd.R_new' (Kd.R_new' ho0 (Kd.R_lt (by (with_reducible repeat (first | apply zL | apply zM | apply zN)); exact HO588.out))) (Kd.R_lt (by (with_reducible repeat (first | apply zL | apply zM | apply zN)); exact HO597.out))) (yK (by repeat (first | (with_reducible first | exact HB.out | apply zJ | apply zD | apply zE | refine zI ?_ Z1.out) | exact HB.out)))); have n4_ := zK (zP (g := Z4) (o := .cells #[.int .i64 a2_0, .int .i64 a2_1, .int .i64 a2_2] 53 (0, 0)) (by (with_reducible repeat (first | refine zF ?_ _ | refine zH ?_ | refine zG ?_ _)); exact Z0.out) hb); have n5_ := zK (yL (by repeat (first | (with_reducible first | exact HB.out | apply zJ | apply zD | apply zE | refine zI ?_ Z1.out) | exact HB.out)) hb); clear HO588 HO594 HO597 Z0 HB; have HO588 := n0_; have HO594 := n1_; have HO597 := n2_; have HO601 := n3_; have Z0 := n4_; have HB := n5_; clear n0_ n1_ n2_ n3_ n4_ n5_; (try clear hb); (try clear hb2); (try clear hk); (try clear hi); (try clear ho0))))
     (try simp only [Act.put, zA, zB, zC])
     go_cut [62] (fun v62 wc => ∃ (kq : Nat) (x62_9 : Bool), v62 = .bool x62_9 ∧ Aside0 (w22_DistPenalties.j0 kq l0 l1 y586 y592 t595 t598 x62_9 a2_0 a2_1 a2_2 = some r) ∧ Aside0 (kq ≤ k) ∧ Aside0 (Kd.R (Kd.int .i64) 2 wc w.heap.size (fun k_ => some k_ ≠ (v596 : Value).ownBlock) (.slice Ao20 y586.length co20) y586) ∧ Aside0 (Kd.R (Kd.int .i64) 3 wc w.heap.size (fun _ => True) (.slice Ao21 y592.length co21) y592) ∧ Aside0 (Kd.R (Kd.int .i64) 2 wc w.heap.size (fun k_ => some k_ ≠ ((.slice Ao20 y586.length co20) : Value).ownBlock) v596 t595) ∧ Aside0 (wc.heap[Z4]? = some (.cells #[.int .i64 a2_0, .int .i64 a2_1, .int .i64 a2_2] 53 (0, 0))) ∧ Aside0 (Below w.heap.size w wc))
     case first =>
      have H := HC10.out
      clear HC10
      replace H := yA.mp H
      obtain ⟨t603, A250, H⟩ := H
      replace H : (if t603 = true then (if t598 = t602 then ((w22_same.f k y586 l0).bind fun t604 => (w22_DistPenalties.j0 k l0 l1 y586 y592 t595 t598 (!t604) a2_0 a2_1 a2_2)) else (w22_DistPenalties.j0 k l0 l1 y586 y592 t595 t598 true a2_0 a2_1 a2_2)) else (w22_DistPenalties.j0 k l0 l1 y586 y592 t595 t598 true a2_0 a2_1 a2_2)) = some r := H
      have A25 := zK A250
      clear A250
      by_cases c26 : t603 = true
      ·subst c26
       have H1 : (if t598 = t602 then ((w22_same.f k y586 l0).bind fun t604 => (w22_DistPenalties.j0 k l0 l1 y586 y592 t595 t598 (!t604) a2_0 a2_1 a2_2)) else (w22_DistPenalties.j0 k l0 l1 y586 y592 t595 t598 true a2_0 a2_1 a2_2)) = some r := by rw [if_pos rfl] at H; exact H
       clear H
       have H := H1
       clear H1
       by_cases c27 : t598 = t602
       ·rw [if_pos c27] at H
        have c27b0 : (t598 == t602) = true := beq_iff_eq.mpr c27
        have c27b1 : (t598 != t602) = false := bne_eq_false_iff_eq.mpr c27
        clear c27
        (first | rw [c27b0] | (simp only [i64_w, i32_w]; rw [c27b0]) | skip)
        replace H := yA.mp H
        obtain ⟨t604, A280, H⟩ := H
        replace H : (w22_DistPenalties.j0 k l0 l1 y586 y592 t595 t598 (!t604) a2_0 a2_1 a2_2) = some r := H
        have A28 := zK A280
        clear A280
        have H' := zK H
        clear H
        obtain ⟨Ao29, co29, eo29⟩ := Kd.R_slice HO597.out
        subst eo29
        obtain ⟨Ao30, co30, eo30⟩ := Kd.R_slice HO601.out
        subst eo30
        go_wp2_with (first | (go_at_call 21; (with_reducible refine (w22_same.calls k _ _ t595 _ _ t599 true _ ?side1 ?side2 ?side3 ?side4 A25.out).mono ?_); (case side1 => repeat (first | exact (yM HO597.out).2.2 | (with_reducible refine yS ?_ _) | (with_reducible refine yT ?_ _) | (with_reducible refine yU ?_))); (case side2 => exact (yM HO597.out).2.1); (case side3 => repeat (first | exact (yM HO601.out).2.2 | (with_reducible refine yS ?_ _) | (with_reducible refine yT ?_ _) | (with_reducible refine yU ?_))); (case side4 => exact (yM HO601.out).2.1); rintro e w' ⟨rfl, ⟨nd, rfl⟩⟩; (try first | exact ⟨rfl, _, World.drewN_drewN _ _ _⟩ | exact ⟨rfl, _, Eq.trans (World.drewN_drewN _ _ _) (congrArg (World.drewN _) (Nat.add_assoc _ _ _))⟩)) | (go_at_call 21; (with_reducible refine (w22_same.calls k _ _ y586 _ _ l0 t604 _ ?side1 ?side2 ?side3 ?side4 A28.out).mono ?_); (case side1 => repeat (first | exact (yM HO588.out).2.2 | (with_reducible refine yS ?_ _) | (with_reducible refine yT ?_ _) | (with_reducible refine yU ?_))); (case side2 => exact (yM HO588.out).2.1); (case side3 => repeat (first | exact (yc HR0.out (by repeat (first | (with_reducible first | exact HB.out | apply zJ | apply zD | apply zE | refine zI ?_ Z1.out) | exact HB.out))) | (with_reducible refine yS ?_ _) | (with_reducible refine yT ?_ _) | (with_reducible refine yU ?_))); (case side4 => exact HC0.out); rintro e w' ⟨rfl, ⟨nd, rfl⟩⟩; (try first | exact ⟨rfl, _, World.drewN_drewN _ _ _⟩ | exact ⟨rfl, _, Eq.trans (World.drewN_drewN _ _ _) (congrArg (World.drewN _) (Nat.add_assoc _ _ _))⟩)))
        repeat (go_quiet (first | (go_at_call 21; (with_reducible refine (w22_same.calls k _ _ t595 _ _ t599 true _ ?side1 ?side2 ?side3 ?side4 A25.out).mono ?_); (case side1 => repeat (first | exact (yM HO597.out).2.2 | (with_reducible refine yS ?_ _) | (with_reducible refine yT ?_ _) | (with_reducible refine yU ?_))); (case side2 => exact (yM HO597.out).2.1); (case side3 => repeat (first | exact (yM HO601.out).2.2 | (with_reducible refine yS ?_ _) | (with_reducible refine yT ?_ _) | (with_reducible refine yU ?_))); (case side4 => exact (yM HO601.out).2.1); rintro e w' ⟨rfl, ⟨nd, rfl⟩⟩; (try first | exact ⟨rfl, _, World.drewN_drewN _ _ _⟩ | exact ⟨rfl, _, Eq.trans (World.drewN_drewN _ _ _) (congrArg (World.drewN _) (Nat.add_assoc _ _ _))⟩)) | (go_at_call 21; (with_reducible refine (w22_same.calls k _ _ y586 _ _ l0 t604 _ ?side1 ?side2 ?side3 ?side4 A28.out).mono ?_); (case side1 => repeat (first | exact (yM HO588.out).2.2 | (with_reducible refine yS ?_ _) | (with_reducible refine yT ?_ _) | (with_reducible refine yU ?_))); (case side2 => exact (yM HO588.out).2.1); (case side3 => repeat (first | exact (yc HR0.out (by repeat (first | (with_reducible first | exact HB.out | apply zJ | apply zD | apply zE | refine zI ?_ Z1.out) | exact HB.out))) | (with_reducible refine yS ?_ _) | (with_reducible refine yT ?_ _) | (with_reducible refine yU ?_))); (case side4 => exact HC0.out); rintro e w' ⟨rfl, ⟨nd, rfl⟩⟩; (try first | exact ⟨rfl, _, World.drewN_drewN _ _ _⟩ | exact ⟨rfl, _, Eq.trans (World.drewN_drewN _ _ _) (congrArg (World.drewN _) (Nat.add_assoc _ _ _))⟩))); try go_wp2_with (first | (go_at_call 21; (with_reducible refine (w22_same.calls k _ _ t595 _ _ t599 true _ ?side1 ?side2 ?side3 ?side4 A25.out).mono ?_); (case side1 => repeat (first | exact (yM HO597.out).2.2 | (with_reducible refine yS ?_ _) | (with_reducible refine yT ?_ _) | (with_reducible refine yU ?_))); (case side2 => exact (yM HO597.out).2.1); (case side3 => repeat (first | exact (yM HO601.out).2.2 | (with_reducible refine yS ?_ _) | (with_reducible refine yT ?_ _) | (with_reducible refine yU ?_))); (case side4 => exact (yM HO601.out).2.1); rintro e w' ⟨rfl, ⟨nd, rfl⟩⟩; (try first | exact ⟨rfl, _, World.drewN_drewN _ _ _⟩ | exact ⟨rfl, _, Eq.trans (World.drewN_drewN _ _ _) (congrArg (World.drewN _) (Nat.add_assoc _ _ _))⟩)) | (go_at_call 21; (with_reducible refine (w22_same.calls k _ _ y586 _ _ l0 t604 _ ?side1 ?side2 ?side3 ?side4 A28.out).mono ?_); (case side1 => repeat (first | exact (yM HO588.out).2.2 | (with_reducible refine yS ?_ _) | (with_reducible refine yT ?_ _) | (with_reducible refine yU ?_))); (case side2 => exact (yM HO588.out).2.1); (case side3 => repeat (first | exact (yc HR0.out (by repeat (first | (with_reducible first | exact HB.out | apply zJ | apply zD | apply zE | refine zI ?_ Z1.out) | exact HB.out))) | (with_reducible refine yS ?_ _) | (with_reducible refine yT ?_ _) | (with_reducible refine yU ?_))); (case side4 => exact HC0.out); rintro e w' ⟨rfl, ⟨nd, rfl⟩⟩; (try first | exact ⟨rfl, _, World.drewN_drewN _ _ _⟩ | exact ⟨rfl, _, Eq.trans (World.drewN_drewN _ _ _) (congrArg (World.drewN _) (Nat.add_assoc _ _ _))⟩))))
        go_meet
        case rel => exact ⟨_, (!t604), (by first | rfl | (simp; done) | (simp [*]; done)), H', ⟨by first | omega | exact yN _⟩, ⟨by (with_reducible repeat (first | apply zL | apply zM | apply zN)); exact yd HO588.out (fun _ hk => hk.1.2)⟩, ⟨by (with_reducible repeat (first | apply zL | apply zM | apply zN)); exact HO594.out⟩, ⟨by (with_reducible repeat (first | apply zL | apply zM | apply zN)); exact yd HO597.out (fun _ hk => hk.1.2)⟩, ⟨by (with_reducible repeat (first | refine zF ?_ _ | refine zH ?_ | refine zG ?_ _)); exact Z0.out⟩, ⟨by repeat (first | (with_reducible first | exact HB.out | apply zJ | apply zD | apply zE | refine zI ?_ Z1.out) | exact HB.out)⟩⟩
       ·rw [if_neg c27] at H
        have c27b0 : (t598 == t602) = false := beq_eq_false_iff_ne.mpr c27
        have c27b1 : (t598 != t602) = true := bne_iff_ne.mpr c27
        (first | rw [c27b0] | (simp only [i64_w, i32_w]; rw [c27b0]) | skip)
        have H' := zK H
        clear H
        obtain ⟨Ao31, co31, eo31⟩ := Kd.R_slice HO597.out
        subst eo31
        obtain ⟨Ao32, co32, eo32⟩ := Kd.R_slice HO601.out
        subst eo32
        go_wp2_with (first | (go_at_call 21; (with_reducible refine (w22_same.calls k _ _ t595 _ _ t599 true _ ?side1 ?side2 ?side3 ?side4 A25.out).mono ?_); (case side1 => repeat (first | exact (yM HO597.out).2.2 | (with_reducible refine yS ?_ _) | (with_reducible refine yT ?_ _) | (with_reducible refine yU ?_))); (case side2 => exact (yM HO597.out).2.1); (case side3 => repeat (first | exact (yM HO601.out).2.2 | (with_reducible refine yS ?_ _) | (with_reducible refine yT ?_ _) | (with_reducible refine yU ?_))); (case side4 => exact (yM HO601.out).2.1); rintro e w' ⟨rfl, ⟨nd, rfl⟩⟩; (try first | exact ⟨rfl, _, World.drewN_drewN _ _ _⟩ | exact ⟨rfl, _, Eq.trans (World.drewN_drewN _ _ _) (congrArg (World.drewN _) (Nat.add_assoc _ _ _))⟩)))
        repeat (go_quiet (first | (go_at_call 21; (with_reducible refine (w22_same.calls k _ _ t595 _ _ t599 true _ ?side1 ?side2 ?side3 ?side4 A25.out).mono ?_); (case side1 => repeat (first | exact (yM HO597.out).2.2 | (with_reducible refine yS ?_ _) | (with_reducible refine yT ?_ _) | (with_reducible refine yU ?_))); (case side2 => exact (yM HO597.out).2.1); (case side3 => repeat (first | exact (yM HO601.out).2.2 | (with_reducible refine yS ?_ _) | (with_reducible refine yT ?_ _) | (with_reducible refine yU ?_))); (case side4 => exact (yM HO601.out).2.1); rintro e w' ⟨rfl, ⟨nd, rfl⟩⟩; (try first | exact ⟨rfl, _, World.drewN_drewN _ _ _⟩ | exact ⟨rfl, _, Eq.trans (World.drewN_drewN _ _ _) (congrArg (World.drewN _) (Nat.add_assoc _ _ _))⟩))); try go_wp2_with (first | (go_at_call 21; (with_reducible refine (w22_same.calls k _ _ t595 _ _ t599 true _ ?side1 ?side2 ?side3 ?side4 A25.out).mono ?_); (case side1 => repeat (first | exact (yM HO597.out).2.2 | (with_reducible refine yS ?_ _) | (with_reducible refine yT ?_ _) | (with_reducible refine yU ?_))); (case side2 => exact (yM HO597.out).2.1); (case side3 => repeat (first | exact (yM HO601.out).2.2 | (with_reducible refine yS ?_ _) | (with_reducible refine yT ?_ _) | (with_reducible refine yU ?_))); (case side4 => exact (yM HO601.out).2.1); rintro e w' ⟨rfl, ⟨nd, rfl⟩⟩; (try first | exact ⟨rfl, _, World.drewN_drewN _ _ _⟩ | exact ⟨rfl, _, Eq.trans (World.drewN_drewN _ _ _) (congrArg (World.drewN _) (Nat.add_assoc _ _ _))⟩))))
        go_meet
        case rel => exact ⟨_, (true), (by first | rfl | (simp; done) | (simp [*]; done)), H', ⟨by first | omega | exact yN _⟩, ⟨by (with_reducible repeat (first | apply zL | apply zM | apply zN)); exact yd HO588.out (fun _ hk => hk.1.2)⟩, ⟨by (with_reducible repeat (first | apply zL | apply zM | apply zN)); exact HO594.out⟩, ⟨by (with_reducible repeat (first | apply zL | apply zM | apply zN)); exact yd HO597.out (fun _ hk => hk.1.2)⟩, ⟨by (with_reducible repeat (first | refine zF ?_ _ | refine zH ?_ | refine zG ?_ _)); exact Z0.out⟩, ⟨by repeat (first | (with_reducible first | exact HB.out | apply zJ | apply zD | apply zE | refine zI ?_ Z1.out) | exact HB.out)⟩⟩
      ·replace c26 := yh.mpr c26
       subst c26
       have H1 : (w22_DistPenalties.j0 k l0 l1 y586 y592 t595 t598 true a2_0 a2_1 a2_2) = some r := by rw [if_neg (show ¬ (false = true) by decide)] at H; exact H
       clear H
       have H := H1
       clear H1
       have H' := zK H
       clear H
       obtain ⟨Ao33, co33, eo33⟩ := Kd.R_slice HO597.out
       subst eo33
       obtain ⟨Ao34, co34, eo34⟩ := Kd.R_slice HO601.out
       subst eo34
       go_wp2_with (first | (go_at_call 21; (with_reducible refine (w22_same.calls k _ _ t595 _ _ t599 false _ ?side1 ?side2 ?side3 ?side4 A25.out).mono ?_); (case side1 => repeat (first | exact (yM HO597.out).2.2 | (with_reducible refine yS ?_ _) | (with_reducible refine yT ?_ _) | (with_reducible refine yU ?_))); (case side2 => exact (yM HO597.out).2.1); (case side3 => repeat (first | exact (yM HO601.out).2.2 | (with_reducible refine yS ?_ _) | (with_reducible refine yT ?_ _) | (with_reducible refine yU ?_))); (case side4 => exact (yM HO601.out).2.1); rintro e w' ⟨rfl, ⟨nd, rfl⟩⟩; (try first | exact ⟨rfl, _, World.drewN_drewN _ _ _⟩ | exact ⟨rfl, _, Eq.trans (World.drewN_drewN _ _ _) (congrArg (World.drewN _) (Nat.add_assoc _ _ _))⟩)))
       repeat (go_quiet (first | (go_at_call 21; (with_reducible refine (w22_same.calls k _ _ t595 _ _ t599 false _ ?side1 ?side2 ?side3 ?side4 A25.out).mono ?_); (case side1 => repeat (first | exact (yM HO597.out).2.2 | (with_reducible refine yS ?_ _) | (with_reducible refine yT ?_ _) | (with_reducible refine yU ?_))); (case side2 => exact (yM HO597.out).2.1); (case side3 => repeat (first | exact (yM HO601.out).2.2 | (with_reducible refine yS ?_ _) | (with_reducible refine yT ?_ _) | (with_reducible refine yU ?_))); (case side4 => exact (yM HO601.out).2.1); rintro e w' ⟨rfl, ⟨nd, rfl⟩⟩; (try first | exact ⟨rfl, _, World.drewN_drewN _ _ _⟩ | exact ⟨rfl, _, Eq.trans (World.drewN_drewN _ _ _) (congrArg (World.drewN _) (Nat.add_assoc _ _ _))⟩))); try go_wp2_with (first | (go_at_call 21; (with_reducible refine (w22_same.calls k _ _ t595 _ _ t599 false _ ?side1 ?side2 ?side3 ?side4 A25.out).mono ?_); (case side1 => repeat (first | exact (yM HO597.out).2.2 | (with_reducible refine yS ?_ _) | (with_reducible refine yT ?_ _) | (with_reducible refine yU ?_))); (case side2 => exact (yM HO597.out).2.1); (case side3 => repeat (first | exact (yM HO601.out).2.2 | (with_reducible refine yS ?_ _) | (with_reducible refine yT ?_ _) | (with_reducible refine yU ?_))); (case side4 => exact (yM HO601.out).2.1); rintro e w' ⟨rfl, ⟨nd, rfl⟩⟩; (try first | exact ⟨rfl, _, World.drewN_drewN _ _ _⟩ | exact ⟨rfl, _, Eq.trans (World.drewN_drewN _ _ _) (congrArg (World.drewN _) (Nat.add_assoc _ _ _))⟩))))
       go_meet
       case rel => exact ⟨_, (true), (by first | rfl | (simp; done) | (simp [*]; done)), H', ⟨by first | omega | exact yN _⟩, ⟨by (with_reducible repeat (first | apply zL | apply zM | apply zN)); exact yd HO588.out (fun _ hk => hk.1.2)⟩, ⟨by (with_reducible repeat (first | apply zL | apply zM | apply zN)); exact HO594.out⟩, ⟨by (with_reducible repeat (first | apply zL | apply zM | apply zN)); exact yd HO597.out (fun _ hk => hk.1.2)⟩, ⟨by (with_reducible repeat (first | refine zF ?_ _ | refine zH ?_ | refine zG ?_ _)); exact Z0.out⟩, ⟨by repeat (first | (with_reducible first | exact HB.out | apply zJ | apply zD | apply zE | refine zI ?_ Z1.out) | exact HB.out)⟩⟩
     case rest =>
      clear HC10
      try clear c1
      try clear c2
      try clear p2
      try clear c5
      try clear c6
      try clear c7
      try clear c9
      try clear c26
      try clear c27
      try clear c27b0
      try clear c27b1
      try clear hcz19_0
      try clear hcz19_1
      try clear hcz19_2
      try clear hcz23_0
      try clear hcz23_1
      try clear hcz23_2
      try clear hfz19_0
      try clear hfz19_1
      try clear hfz19_2
      try clear hfz23_0
      try clear hfz23_1
      try clear hfz23_2
      obtain ⟨kq, x62_9, rfl, HA, HJ9, HO_7, HO_8, HO_9, Z0, HB⟩ := hcut
      cases kq with
      | zero => exact absurd HA.out (by simp [w22_DistPenalties.j0])
      | succ kj9 =>
       have H := HA.out
       clear HA
       simp only [w22_DistPenalties.j0] at H
       by_cases c35 : x62_9 = true
       ·subst c35
        have H1 : (some false) = some r := by rw [if_pos rfl] at H; exact H
        clear H
        have H := H1
        clear H1
        obtain rfl := yY H
        go_wp2
        repeat (go_quiet (fail); try go_wp2)
        go_ret
        exact ⟨by first | rfl | (simp [errW_none, errW_some] <;> rfl) | (simp [*, errW_none, errW_some] <;> rfl), by repeat (first | (with_reducible first | exact HB.out | apply zJ | apply zD | apply zE | refine zI ?_ Z1.out) | exact HB.out)⟩
       ·replace c35 := yh.mpr c35
        subst c35
        have H1 : (w22_DistPenalties.l0 kj9 l0 l1 y586 y592 t595 t598 (l1.length : Int) 0 a2_0 a2_1 a2_2) = some r := by rw [if_neg (show ¬ (false = true) by decide)] at H; exact H
        clear H
        have H := H1
        clear H1
        have H' := zK H
        clear H
        go_wp2
        repeat (go_quiet (fail); try go_wp2)
        go_loopg [65] kj9 (fun kq v65 w' => ∃ (x65_2 : Int), v65 = .int .i64 x65_2 ∧ Aside0 (w22_DistPenalties.l0 kq l0 l1 y586 y592 t595 t598 (l1.length : Int) x65_2 a2_0 a2_1 a2_2 = some r) ∧ Aside0 (kq ≤ kj9) ∧ Aside0 (Kd.R (Kd.int .i64) 2 w' w.heap.size (fun k_ => some k_ ≠ (v596 : Value).ownBlock) (.slice Ao20 y586.length co20) y586) ∧ Aside0 (Kd.R (Kd.int .i64) 3 w' w.heap.size (fun _ => True) (.slice Ao21 y592.length co21) y592) ∧ Aside0 (Kd.R (Kd.int .i64) 2 w' w.heap.size (fun k_ => some k_ ≠ ((.slice Ao20 y586.length co20) : Value).ownBlock) v596 t595) ∧ Aside0 (w'.heap[Z4]? = some (.cells #[.int .i64 a2_0, .int .i64 a2_1, .int .i64 a2_2] 53 (0, 0))) ∧ Aside0 (Below w.heap.size w w'))
        case atStart => exact ⟨(0), (by first | rfl | (simp; done) | (simp [*]; done)), H', ⟨yN _⟩, ⟨by (with_reducible repeat (first | apply zL | apply zM | apply zN)); exact HO_7.out⟩, ⟨by (with_reducible repeat (first | apply zL | apply zM | apply zN)); exact HO_8.out⟩, ⟨by (with_reducible repeat (first | apply zL | apply zM | apply zN)); exact HO_9.out⟩, ⟨by (with_reducible repeat (first | refine zF ?_ _ | refine zH ?_ | refine zG ?_ _)); exact Z0.out⟩, ⟨by repeat (first | (with_reducible first | exact HB.out | apply zJ | apply zD | apply zE | refine zI ?_ Z1.out) | exact HB.out)⟩⟩
        case round =>
         clear H'
         try clear c1
         try clear c2
         try clear p2
         try clear c3
         try clear c5
         try clear c6
         try clear c7
         try clear c9
         try clear c26
         try clear c27
         try clear c27b0
         try clear c27b1
         try clear c35
         try clear hcz19_0
         try clear hcz19_1
         try clear hcz19_2
         try clear hcz23_0
         try clear hcz23_1
         try clear hcz23_2
         try clear hfz19_0
         try clear hfz19_1
         try clear hfz19_2
         try clear hfz23_0
         try clear hfz23_1
         try clear hfz23_2
         try clear p2
         obtain ⟨x65_2, rfl, HA, HK2, HO_7, HO_8, HO_9, Z0, HB⟩ := hrel
         cases gk with
         | zero => exact absurd HA.out (by simp [w22_DistPenalties.l0])
         | succ k2 =>
          have H := HA.out
          clear HA
          simp only [w22_DistPenalties.l0] at H
          by_cases c36 : x65_2 < (l1.length : Int)
          ·rw [if_pos c36] at H
           have c36b0 : decide (x65_2 < (l1.length : Int)) = true := yC c36
           clear c36
           by_cases c37 : 0 ≤ x65_2
           ·rw [if_pos c37] at H
            have c37b0 : decide (0 ≤ x65_2) = true := yC c37
            clear c37
            by_cases c38 : x65_2 < (y592.length : Int)
            ·rw [if_pos c38] at H
             have c38b0 : decide (x65_2 < (y592.length : Int)) = true := yC c38
             clear c38
             by_cases c39 : x65_2 < (l1.length : Int)
             ·rw [if_pos c39] at H
              have c39b0 : decide (x65_2 < (l1.length : Int)) = true := yC c39
              clear c39
              by_cases c40 : (rd y592 x65_2) = (rd l1 x65_2)
              ·rw [if_pos c40] at H
               have c40b0 : ((rd y592 x65_2) == (rd l1 x65_2)) = true := beq_iff_eq.mpr c40
               have c40b1 : ((rd y592 x65_2) != (rd l1 x65_2)) = false := bne_eq_false_iff_eq.mpr c40
               clear c40
               have H' := zK H
               clear H
               have p605 : 0 ≤ (x65_2 : Int) := yB (by first | (with_reducible assumption) | assumption)
               have q605 : x65_2 < (y592.length : Int) := yB (by first | (with_reducible assumption) | assumption)
               obtain ⟨ad605, e605, hx605_0⟩ := Kd.at_int (yM HO_8.out).2.2 x65_2 p605 q605
               cases e605
               replace p605 := yg p605
               replace q605 := yg q605
               have p606 : 0 ≤ (x65_2 : Int) := yB (by first | (with_reducible assumption) | assumption)
               have q606 : x65_2 < (l1.length : Int) := yB (by first | (with_reducible assumption) | assumption)
               obtain ⟨ad606, e606, hx606_0⟩ := Kd.at_int HR1.out x65_2 p606 q606
               cases e606
               replace hx606_0 := (HB.out.cell (World.block_lt_of_cell? w _ hx606_0)).trans hx606_0
               replace p606 := yg p606
               replace q606 := yg q606
               go_wp2
               repeat (go_quiet (fail); try go_wp2)
               go_roundg k2
               case measure => have := HJ9.out; have := HK2.out; omega
               case rel => exact ⟨(wrap64 (x65_2 + 1)), (by first | rfl | (simp; done) | (simp [*]; done)), H', ⟨by have := HJ9.out; have := HK2.out; omega⟩, ⟨by (with_reducible repeat (first | apply zL | apply zM | apply zN)); exact HO_7.out⟩, ⟨by (with_reducible repeat (first | apply zL | apply zM | apply zN)); exact HO_8.out⟩, ⟨by (with_reducible repeat (first | apply zL | apply zM | apply zN)); exact HO_9.out⟩, ⟨by (with_reducible repeat (first | refine zF ?_ _ | refine zH ?_ | refine zG ?_ _)); exact Z0.out⟩, ⟨by repeat (first | (with_reducible first | exact HB.out | apply zJ | apply zD | apply zE | refine zI ?_ Z1.out) | exact HB.out)⟩⟩
              ·rw [if_neg c40] at H
               have c40b0 : ((rd y592 x65_2) == (rd l1 x65_2)) = false := beq_eq_false_iff_ne.mpr c40
               have c40b1 : ((rd y592 x65_2) != (rd l1 x65_2)) = true := bne_iff_ne.mpr c40
               obtain rfl := yY H
               have p605 : 0 ≤ (x65_2 : Int) := yB (by first | (with_reducible assumption) | assumption)
               have q605 : x65_2 < (y592.length : Int) := yB (by first | (with_reducible assumption) | assumption)
               obtain ⟨ad605, e605, hx605_0⟩ := Kd.at_int (yM HO_8.out).2.2 x65_2 p605 q605
               cases e605
               replace p605 := yg p605
               replace q605 := yg q605
               have p606 : 0 ≤ (x65_2 : Int) := yB (by first | (with_reducible assumption) | assumption)
               have q606 : x65_2 < (l1.length : Int) := yB (by first | (with_reducible assumption) | assumption)
               obtain ⟨ad606, e606, hx606_0⟩ := Kd.at_int HR1.out x65_2 p606 q606
               cases e606
               replace hx606_0 := (HB.out.cell (World.block_lt_of_cell? w _ hx606_0)).trans hx606_0
               replace p606 := yg p606
               replace q606 := yg q606
               go_wp2
               repeat (go_quiet (fail); try go_wp2)
               go_ret
               exact ⟨by first | rfl | (simp [errW_none, errW_some] <;> rfl) | (simp [*, errW_none, errW_some] <;> rfl), by repeat (first | (with_reducible first | exact HB.out | apply zJ | apply zD | apply zE | refine zI ?_ Z1.out) | exact HB.out)⟩
             ·rw [if_neg c39] at H
              exact absurd H (by simp)
            ·rw [if_neg c38] at H
             exact absurd H (by simp)
           ·rw [if_neg c37] at H
            exact absurd H (by simp)
          ·rw [if_neg c36] at H
           have c36b0 : decide (x65_2 < (l1.length : Int)) = false := yD c36
           clear c36
           by_cases c41 : t598 = 0
           ·rw [if_pos c41] at H
            have c41b0 : (t598 == 0) = true := beq_iff_eq.mpr c41
            have c41b1 : (t598 != 0) = false := bne_eq_false_iff_eq.mpr c41
            clear c41
            by_cases c42 : 0 ≤ (l0.length : Int)
            ·rw [if_pos c42] at H
             have c42b0 := yg c42
             have c42b1 : decide (0 ≤ (l0.length : Int)) = true := yC c42
             clear c42
             by_cases c43 : ((l0.length : Int) : Int).toNat ≤ 281474976710656
             ·rw [if_pos c43] at H
              have c43b0 := yg c43
              have c43b1 : decide (((l0.length : Int) : Int).toNat ≤ 281474976710656) = true := yC c43
              clear c43
              obtain ⟨y607, hy607⟩ : ∃ y_ : List Bool, y_ = (List.replicate ((l0.length : Int) : Int).toNat false) := ⟨_, rfl⟩
              replace H : (w22_DistPenalties.l1 k2 l0 l1 y586 t595 y607 l1 (l1.length : Int) 0 a2_0 a2_1 a2_2) = some r := by first | (rw [hy607]; with_reducible exact H) | (have H2_ := (yV _ _).symm.trans H; rw [hy607]; with_reducible exact H2_) | (have H2_ := (yV _ _).symm.trans H; with_reducible exact H2_) | with_reducible exact H | (rw [hy607]; exact H) | exact H
              have Ny607 := zK hy607
              clear hy607
              have H' := zK H
              clear H
              go_wp2_with (first | ((with_reducible refine gate_dst (N := 85) rfl ?_); refine Kd.R_make Kd.bool _ 4 rfl (N := 85) rfl 37 _ _ rfl (l0.length : Int) rfl rfl Try.underlying37 (.bool false) 1 info4 rfl (by decide) (by omega) false (ok := fun _ => True) (okp := fun _ => True) rfl (fun _ hk => hk) trivial (yB (by first | (with_reducible assumption) | assumption)) (yl (Nat.mul_le_mul_right _ (yB (by first | (with_reducible assumption) | assumption) : (l0.length : Int).toNat ≤ 281474976710656)) (by omega)) (Below.refl _ _) (yN _) ?_; intro v608 w44 ho45 hb hg_ hnew_; clear hg_ hnew_; (first | rw [← Ny607.out] at ho45 | (simp only [Int.reduceToNat] at ho45; rw [← Ny607.out] at ho45)); have n0_ := zK (yb (by (with_reducible repeat (first | apply zL | apply zM | apply zN)); exact HO_7.out) hb); have n1_ := zK (yb (by (with_reducible repeat (first | apply zL | apply zM | apply zN)); exact HO_8.out) hb); have n2_ := zK (yb (by (with_reducible repeat (first | apply zL | apply zM | apply zN)); exact HO_9.out) hb); have n3_ := zK (Kd.R_lower ho45 (yK (by repeat (first | (with_reducible first | exact HB.out | apply zJ | apply zD | apply zE | refine zI ?_ Z1.out) | exact HB.out)))); have n4_ := zK (zP (g := Z4) (o := .cells #[.int .i64 a2_0, .int .i64 a2_1, .int .i64 a2_2] 53 (0, 0)) (by (with_reducible repeat (first | refine zF ?_ _ | refine zH ?_ | refine zG ?_ _)); exact Z0.out) hb); have n5_ := zK (yL (by repeat (first | (with_reducible first | exact HB.out | apply zJ | apply zD | apply zE | refine zI ?_ Z1.out) | exact HB.out)) hb); clear HO_7 HO_8 HO_9 Z0 HB; have HO_7 := n0_; have HO_8 := n1_; have HO_9 := n2_; have HO609 := n3_; have Z0 := n4_; have HB := n5_; clear n0_ n1_ n2_ n3_ n4_ n5_ hb ho45))
              repeat (go_quiet (first | ((with_reducible refine gate_dst (N := 85) rfl ?_); refine Kd.R_make Kd.bool _ 4 rfl (N := 85) rfl 37 _ _ rfl (l0.length : Int) rfl rfl Try.underlying37 (.bool false) 1 info4 rfl (by decide) (by omega) false (ok := fun _ => True) (okp := fun _ => True) rfl (fun _ hk => hk) trivial (yB (by first | (with_reducible assumption) | assumption)) (yl (Nat.mul_le_mul_right _ (yB (by first | (with_reducible assumption) | assumption) : (l0.length : Int).toNat ≤ 281474976710656)) (by omega)) (Below.refl _ _) (yN _) ?_; intro v608 w44 ho45 hb hg_ hnew_; clear hg_ hnew_; (first | rw [← Ny607.out] at ho45 | (simp only [Int.reduceToNat] at ho45; rw [← Ny607.out] at ho45)); have n0_ := zK (yb (by (with_reducible repeat (first | apply zL | apply zM | apply zN)); exact HO_7.out) hb); have n1_ := zK (yb (by (with_reducible repeat (first | apply zL | apply zM | apply zN)); exact HO_8.out) hb); have n2_ := zK (yb (by (with_reducible repeat (first | apply zL | apply zM | apply zN)); exact HO_9.out) hb); have n3_ := zK (Kd.R_lower ho45 (yK (by repeat (first | (with_reducible first | exact HB.out | apply zJ | apply zD | apply zE | refine zI ?_ Z1.out) | exact HB.out)))); have n4_ := zK (zP (g := Z4) (o := .cells #[.int .i64 a2_0, .int .i64 a2_1, .int .i64 a2_2] 53 (0, 0)) (by (with_reducible repeat (first | refine zF ?_ _ | refine zH ?_ | refine zG ?_ _)); exact Z0.out) hb); have n5_ := zK (yL (by repeat (first | (with_reducible first | exact HB.out | apply zJ | apply zD | apply zE | refine zI ?_ Z1.out) | exact HB.out)) hb); clear HO_7 HO_8 HO_9 Z0 HB; have HO_7 := n0_; have HO_8 := n1_; have HO_9 := n2_; have HO609 := n3_; have Z0 := n4_; have HB := n5_; clear n0_ n1_ n2_ n3_ n4_ n5_ hb ho45)); try go_wp2_with (first | ((with_reducible refine gate_dst (N := 85) rfl ?_); refine Kd.R_make Kd.bool _ 4 rfl (N := 85) rfl 37 _ _ rfl (l0.length : Int) rfl rfl Try.underlying37 (.bool false) 1 info4 rfl (by decide) (by omega) false (ok := fun _ => True) (okp := fun _ => True) rfl (fun _ hk => hk) trivial (yB (by first | (with_reducible assumption) | assumption)) (yl (Nat.mul_le_mul_right _ (yB (by first | (with_reducible assumption) | assumption) : (l0.length : Int).toNat ≤ 281474976710656)) (by omega)) (Below.refl _ _) (yN _) ?_; intro v608 w44 ho45 hb hg_ hnew_; clear hg_ hnew_; (first | rw [← Ny607.out] at ho45 | (simp only [Int.reduceToNat] at ho45; rw [← Ny607.out] at ho45)); have n0_ := zK (yb (by (with_reducible repeat (first | apply zL | apply zM | apply zN)); exact HO_7.out) hb); have n1_ := zK (yb (by (with_reducible repeat (first | apply zL | apply zM | apply zN)); exact HO_8.out) hb); have n2_ := zK (yb (by (with_reducible repeat (first | apply zL | apply zM | apply zN)); exact HO_9.out) hb); have n3_ := zK (Kd.R_lower ho45 (yK (by repeat (first | (with_reducible first | exact HB.out | apply zJ | apply zD | apply zE | refine zI ?_ Z1.out) | exact HB.out)))); have n4_ := zK (zP (g := Z4) (o := .cells #[.int .i64 a2_0, .int .i64 a2_1, .int .i64 a2_2] 53 (0, 0)) (by (with_reducible repeat (first | refine zF ?_ _ | refine zH ?_ | refine zG ?_ _)); exact Z0.out) hb); have n5_ := zK (yL (by repeat (first | (with_reducible first | exact HB.out | apply zJ | apply zD | apply zE | refine zI ?_ Z1.out) | exact HB.out)) hb); clear HO_7 HO_8 HO_9 Z0 HB; have HO_7 := n0_; have HO_8 := n1_; have HO_9 := n2_; have HO609 := n3_; have Z0 := n4_; have HB := n5_; clear n0_ n1_ n2_ n3_ n4_ n5_ hb ho45)))
              go_loopg [88] k2 (fun kq v88 w' => ∃ (x14_3 : List Bool) (x88_3 : Int), v88 = .int .i64 x88_3 ∧ Aside0 (w22_DistPenalties.l1 kq l0 l1 y586 t595 x14_3 l1 (l1.length : Int) x88_3 a2_0 a2_1 a2_2 = some r) ∧ Aside0 (kq ≤ k2) ∧ Aside0 (Kd.R (Kd.int .i64) 2 w' w.heap.size (fun k_ => some k_ ≠ (v596 : Value).ownBlock) (.slice Ao20 y586.length co20) y586) ∧ Aside0 (Kd.R (Kd.int .i64) 2 w' w.heap.size (fun k_ => some k_ ≠ ((.slice Ao20 y586.length co20) : Value).ownBlock) v596 t595) ∧ Aside0 (Kd.R Kd.bool 4 w' w.heap.size (fun _ => True) v608 x14_3) ∧ Aside0 (w'.heap[Z4]? = some (.cells #[.int .i64 a2_0, .int .i64 a2_1, .int .i64 a2_2] 53 (0, 0))) ∧ Aside0 (Below w.heap.size w w'))
              case atStart => exact ⟨(y607), (0), (by first | rfl | (simp; done) | (simp [*]; done)), H', ⟨yN _⟩, ⟨by (with_reducible repeat (first | apply zL | apply zM | apply zN)); exact HO_7.out⟩, ⟨by (with_reducible repeat (first | apply zL | apply zM | apply zN)); exact HO_9.out⟩, ⟨by (with_reducible repeat (first | apply zL | apply zM | apply zN)); exact HO609.out⟩, ⟨by (with_reducible repeat (first | refine zF ?_ _ | refine zH ?_ | refine zG ?_ _)); exact Z0.out⟩, ⟨by repeat (first | (with_reducible first | exact HB.out | apply zJ | apply zD | apply zE | refine zI ?_ Z1.out) | exact HB.out)⟩⟩
              case round =>
               clear H'
               try clear c1
               try clear c2
               try clear p2
               try clear c3
               try clear c4
               try clear c5
               try clear c6
               try clear p6
               try clear q6
               try clear hx6
               try clear c7
               try clear c9
               try clear c26
               try clear c27
               try clear c27b0
               try clear c27b1
               try clear c35
               try clear c36
               try clear c36b0
               try clear c37
               try clear c37b0
               try clear c38
               try clear c38b0
               try clear c39
               try clear c39b0
               try clear c40
               try clear c40b0
               try clear c40b1
               try clear c41
               try clear c41b0
               try clear c41b1
               try clear c42
               try clear c42b0
               try clear c42b1
               try clear c43
               try clear c43b0
               try clear c43b1
               try clear hcz19_0
               try clear hcz19_1
               try clear hcz19_2
               try clear hcz23_0
               try clear hcz23_1
               try clear hcz23_2
               try clear hfz19_0
               try clear hfz19_1
               try clear hfz19_2
               try clear hfz23_0
               try clear hfz23_1
               try clear hfz23_2
               try clear hx605_0
               try clear hx606_0
               try clear p2
               try clear p605
               try clear p606
               try clear q605
               try clear q606
               obtain ⟨x14_3, x88_3, rfl, HA, HK3, HO_7, HO_9, HO_14, Z0, HB⟩ := hrel
               cases gk with
               | zero => exact absurd HA.out (by simp [w22_DistPenalties.l1])
               | succ k3 =>
                have H := HA.out
                clear HA
                simp only [w22_DistPenalties.l1] at H
                by_cases c46 : x88_3 < (l1.length : Int)
                ·rw [if_pos c46] at H
                 have c46b0 : decide (x88_3 < (l1.length : Int)) = true := yC c46
                 clear c46
                 by_cases c47 : 0 ≤ x88_3
                 ·rw [if_pos c47] at H
                  have c47b0 : decide (0 ≤ x88_3) = true := yC c47
                  clear c47
                  by_cases c48 : x88_3 < (l1.length : Int)
                  ·rw [if_pos c48] at H
                   have c48b0 : decide (x88_3 < (l1.length : Int)) = true := yC c48
                   clear c48
                   by_cases c49 : 0 ≤ (rd l1 x88_3)
                   ·rw [if_pos c49] at H
                    have c49b0 : decide (0 ≤ (rd l1 x88_3)) = true := yC c49
                    clear c49
                    by_cases c50 : (rd l1 x88_3) < (x14_3.length : Int)
                    ·rw [if_pos c50] at H
                     have c50b0 : decide ((rd l1 x88_3) < (x14_3.length : Int)) = true := yC c50
                     clear c50
                     obtain ⟨y611, hy611⟩ : ∃ y_ : List Bool, y_ = (x14_3.set ((rd l1 x88_3) : Int).toNat true) := ⟨_, rfl⟩
                     replace H : (w22_DistPenalties.l1 k3 l0 l1 y586 t595 y611 l1 (l1.length : Int) (wrap64 (x88_3 + 1)) a2_0 a2_1 a2_2) = some r := by first | (rw [hy611]; with_reducible exact H) | (have H2_ := (yV _ _).symm.trans H; rw [hy611]; with_reducible exact H2_) | (have H2_ := (yV _ _).symm.trans H; with_reducible exact H2_) | with_reducible exact H | (rw [hy611]; exact H) | exact H
                     have Ny611 := zK hy611
                     clear hy611
                     have H' := zK H
                     clear H
                     have p610 : 0 ≤ (x88_3 : Int) := yB (by first | (with_reducible assumption) | assumption)
                     have q610 : x88_3 < (l1.length : Int) := yB (by first | (with_reducible assumption) | assumption)
                     obtain ⟨ad610, e610, hx610_0⟩ := Kd.at_int HR1.out x88_3 p610 q610
                     cases e610
                     replace hx610_0 := (HB.out.cell (World.block_lt_of_cell? w _ hx610_0)).trans hx610_0
                     replace p610 := yg p610
                     replace q610 := yg q610
                     have p51 : 0 ≤ ((rd l1 x88_3) : Int) := yB (by first | (with_reducible assumption) | assumption)
                     have q51 : ((rd l1 x88_3) : Int) < ((x14_3.length : Int) : Int) := yB (by first | (with_reducible assumption) | assumption)
                     obtain ⟨go51, co51, eo51, Z3, gl51, cl51, HG51⟩ := Kd.R_form HO_14.out (by omega)
                     (first | cases eo51 | (injection eo51 with ea_ en_ ec_; (first | subst ea_ | (injection ea_ with ea_; subst ea_)); subst ec_; clear en_))
                     have GB51 := zK Z3
                     have GG51 := zK HG51
                     clear Z3 gl51 HG51
                     obtain ⟨hx51_0, hf51_0⟩ := Kd.R_celln false HO_14.out ((rd l1 x88_3) : Int) p51 q51
                     replace p51 := yg p51
                     replace q51 := yg q51
                     have HP52 := Kd.R_putg HO_14.out ((rd l1 x88_3) : Int) true
                     go_wp2_with (first | ((with_reducible refine gate_store (t := 4) (p := 94) rfl ?_); (try (rw [drewN_self wr]; generalize hq_ : World.drewN wr _ = wr; have n0_ := zK (Kd.R_at hq_ HO_7.out); have n1_ := zK (Kd.R_at hq_ HO_9.out); have n2_ := zK (Kd.R_at hq_ HO_14.out); have n3_ := zK (blk_at hq_ Z0.out); have n4_ := zK (below_at hq_ HB.out); clear hq_ HO_7 HO_9 HO_14 Z0 HB; have HO_7 := n0_; have HO_9 := n1_; have HO_14 := n2_; have Z0 := n3_; have HB := n4_; clear n0_ n1_ n2_ n3_ n4_; (try (have HP52 := Kd.R_putg HO_14.out ((rd l1 x88_3) : Int) true)))); refine store_event (t := 4) (p := 94) (v := ?vo_w53) (w1 := (wr.setCell ⟨go51, ((rd l1 x88_3) : Int).toNat, none⟩ (.bool true))) ?hg ?ho ?hn ?hr ?_; (case ho => rfl); (case hg => rfl); (case hn => rfl); (case hr => first | (go_simp; done) | (go_simp; rfl)); intro w53 hw; have hg : wr.grownBy w53 (some go51) := (by rw [hw]; exact HP52.2); have hp_ : Kd.R Kd.bool 4 w53 w.heap.size (fun _ => True) (.slice (some ⟨go51, 0, none⟩) x14_3.length co51) y611 := (by rw [hw, Ny611.out]; exact HP52.1); clear HP52; have n0_ := zK (Kd.R_over' (v := (.slice (some ⟨go51, 0, none⟩) x14_3.length co51)) (by (with_reducible repeat (first | apply zL | apply zM | apply zN)); exact HO_7.out) (Kd.R_typed HO_14.out) (by decide) hg); have n1_ := zK (Kd.R_over' (v := (.slice (some ⟨go51, 0, none⟩) x14_3.length co51)) (by (with_reducible repeat (first | apply zL | apply zM | apply zN)); exact HO_9.out) (Kd.R_typed HO_14.out) (by decide) hg); have n2_ := zK (hp_); have n3_ := zK (blk_grown (g := Z4) (o := .cells #[.int .i64 a2_0, .int .i64 a2_1, .int .i64 a2_2] 53 (0, 0)) (by (with_reducible repeat (first | refine zF ?_ _ | refine zH ?_ | refine zG ?_ _)); exact Z0.out) hg (Kd.R_ne HO_14.out Z0.out (by decide))); have n4_ := zK ((by rw [hw]; exact zI (HB.out) GB51.out : Below w.heap.size w w53)); clear HO_7 HO_9 HO_14 Z0 HB; have HO_7 := n0_; have HO_9 := n1_; have HO_14 := n2_; have Z0 := n3_; have HB := n4_; clear n0_ n1_ n2_ n3_ n4_ hg hw hp_))
                     repeat (go_quiet (first | ((with_reducible refine gate_store (t := 4) (p := 94) rfl ?_); (try (rw [drewN_self wr]; generalize hq_ : World.drewN wr _ = wr; have n0_ := zK (Kd.R_at hq_ HO_7.out); have n1_ := zK (Kd.R_at hq_ HO_9.out); have n2_ := zK (Kd.R_at hq_ HO_14.out); have n3_ := zK (blk_at hq_ Z0.out); have n4_ := zK (below_at hq_ HB.out); clear hq_ HO_7 HO_9 HO_14 Z0 HB; have HO_7 := n0_; have HO_9 := n1_; have HO_14 := n2_; have Z0 := n3_; have HB := n4_; clear n0_ n1_ n2_ n3_ n4_; (try (have HP52 := Kd.R_putg HO_14.out ((rd l1 x88_3) : Int) true)))); refine store_event (t := 4) (p := 94) (v := ?vo_w53) (w1 := (wr.setCell ⟨go51, ((rd l1 x88_3) : Int).toNat, none⟩ (.bool true))) ?hg ?ho ?hn ?hr ?_; (case ho => rfl); (case hg => rfl); (case hn => rfl); (case hr => first | (go_simp; done) | (go_simp; rfl)); intro w53 hw; have hg : wr.grownBy w53 (some go51) := (by rw [hw]; exact HP52.2); have hp_ : Kd.R Kd.bool 4 w53 w.heap.size (fun _ => True) (.slice (some ⟨go51, 0, none⟩) x14_3.length co51) y611 := (by rw [hw, Ny611.out]; exact HP52.1); clear HP52; have n0_ := zK (Kd.R_over' (v := (.slice (some ⟨go51, 0, none⟩) x14_3.length co51)) (by (with_reducible repeat (first | apply zL | apply zM | apply zN)); exact HO_7.out) (Kd.R_typed HO_14.out) (by decide) hg); have n1_ := zK (Kd.R_over' (v := (.slice (some ⟨go51, 0, none⟩) x14_3.length co51)) (by (with_reducible repeat (first | apply zL | apply zM | apply zN)); exact HO_9.out) (Kd.R_typed HO_14.out) (by decide) hg); have n2_ := zK (hp_); have n3_ := zK (blk_grown (g := Z4) (o := .cells #[.int .i64 a2_0, .int .i64 a2_1, .int .i64 a2_2] 53 (0, 0)) (by (with_reducible repeat (first | refine zF ?_ _ | refine zH ?_ | refine zG ?_ _)); exact Z0.out) hg (Kd.R_ne HO_14.out Z0.out (by decide))); have n4_ := zK ((by rw [hw]; exact zI (HB.out) GB51.out : Below w.heap.size w w53)); clear HO_7 HO_9 HO_14 Z0 HB; have HO_7 := n0_; have HO_9 := n1_; have HO_14 := n2_; have Z0 := n3_; have HB := n4_; clear n0_ n1_ n2_ n3_ n4_ hg hw hp_)); try go_wp2_with (first | ((with_reducible refine gate_store (t := 4) (p := 94) rfl ?_); (try (rw [drewN_self wr]; generalize hq_ : World.drewN wr _ = wr; have n0_ := zK (Kd.R_at hq_ HO_7.out); have n1_ := zK (Kd.R_at hq_ HO_9.out); have n2_ := zK (Kd.R_at hq_ HO_14.out); have n3_ := zK (blk_at hq_ Z0.out); have n4_ := zK (below_at hq_ HB.out); clear hq_ HO_7 HO_9 HO_14 Z0 HB; have HO_7 := n0_; have HO_9 := n1_; have HO_14 := n2_; have Z0 := n3_; have HB := n4_; clear n0_ n1_ n2_ n3_ n4_; (try (have HP52 := Kd.R_putg HO_14.out ((rd l1 x88_3) : Int) true)))); refine store_event (t := 4) (p := 94) (v := ?vo_w53) (w1 := (wr.setCell ⟨go51, ((rd l1 x88_3) : Int).toNat, none⟩ (.bool true))) ?hg ?ho ?hn ?hr ?_; (case ho => rfl); (case hg => rfl); (case hn => rfl); (case hr => first | (go_simp; done) | (go_simp; rfl)); intro w53 hw; have hg : wr.grownBy w53 (some go51) := (by rw [hw]; exact HP52.2); have hp_ : Kd.R Kd.bool 4 w53 w.heap.size (fun _ => True) (.slice (some ⟨go51, 0, none⟩) x14_3.length co51) y611 := (by rw [hw, Ny611.out]; exact HP52.1); clear HP52; have n0_ := zK (Kd.R_over' (v := (.slice (some ⟨go51, 0, none⟩) x14_3.length co51)) (by (with_reducible repeat (first | apply zL | apply zM | apply zN)); exact HO_7.out) (Kd.R_typed HO_14.out) (by decide) hg); have n1_ := zK (Kd.R_over' (v := (.slice (some ⟨go51, 0, none⟩) x14_3.length co51)) (by (with_reducible repeat (first | apply zL | apply zM | apply zN)); exact HO_9.out) (Kd.R_typed HO_14.out) (by decide) hg); have n2_ := zK (hp_); have n3_ := zK (blk_grown (g := Z4) (o := .cells #[.int .i64 a2_0, .int .i64 a2_1, .int .i64 a2_2] 53 (0, 0)) (by (with_reducible repeat (first | refine zF ?_ _ | refine zH ?_ | refine zG ?_ _)); exact Z0.out) hg (Kd.R_ne HO_14.out Z0.out (by decide))); have n4_ := zK ((by rw [hw]; exact zI (HB.out) GB51.out : Below w.heap.size w w53)); clear HO_7 HO_9 HO_14 Z0 HB; have HO_7 := n0_; have HO_9 := n1_; have HO_14 := n2_; have Z0 := n3_; have HB := n4_; clear n0_ n1_ n2_ n3_ n4_ hg hw hp_)))
                     go_roundg k3
                     case measure => have := HJ9.out; have := HK2.out; have := HK3.out; omega
                     case rel => exact ⟨(y611), (wrap64 (x88_3 + 1)), (by first | rfl | (simp; done) | (simp [*]; done)), H', ⟨by have := HJ9.out; have := HK2.out; have := HK3.out; omega⟩, ⟨by (with_reducible repeat (first | apply zL | apply zM | apply zN)); exact HO_7.out⟩, ⟨by (with_reducible repeat (first | apply zL | apply zM | apply zN)); exact HO_9.out⟩, ⟨by (with_reducible repeat (first | apply zL | apply zM | apply zN)); exact HO_14.out⟩, ⟨by (with_reducible repeat (first | refine zF ?_ _ | refine zH ?_ | refine zG ?_ _)); exact Z0.out⟩, ⟨by repeat (first | (with_reducible first | exact HB.out | apply zJ | apply zD | apply zE | refine zI ?_ Z1.out) | exact HB.out)⟩⟩
                    ·rw [if_neg c50] at H
                     exact absurd H (by simp)
                   ·rw [if_neg c49] at H
                    exact absurd H (by simp)
                  ·rw [if_neg c48] at H
                   exact absurd H (by simp)
                 ·rw [if_neg c47] at H
                  exact absurd H (by simp)
                ·rw [if_neg c46] at H
                 have c46b0 : decide (x88_3 < (l1.length : Int)) = false := yD c46
                 clear c46
                 have H' := zK H
                 clear H
                 obtain ⟨Ao54, co54, eo54⟩ := Kd.R_slice HO_9.out
                 subst eo54
                 go_wp2
                 repeat (go_quiet (fail); try go_wp2)
                 go_loopg [98] k3 (fun kq v98 w' => ∃ (x98_4 : Int), v98 = .int .i64 x98_4 ∧ Aside0 (w22_DistPenalties.l2 kq l0 l1 y586 t595 x14_3 (t595.length : Int) x98_4 a2_0 a2_1 a2_2 = some r) ∧ Aside0 (kq ≤ k3) ∧ Aside0 (Kd.R (Kd.int .i64) 2 w' w.heap.size (fun k_ => some k_ ≠ ((.slice Ao54 t595.length co54) : Value).ownBlock) (.slice Ao20 y586.length co20) y586) ∧ Aside0 (Kd.R (Kd.int .i64) 2 w' w.heap.size (fun k_ => some k_ ≠ ((.slice Ao20 y586.length co20) : Value).ownBlock) (.slice Ao54 t595.length co54) t595) ∧ Aside0 (Kd.R Kd.bool 4 w' w.heap.size (fun _ => True) v608 x14_3) ∧ Aside0 (w'.heap[Z4]? = some (.cells #[.int .i64 a2_0, .int .i64 a2_1, .int .i64 a2_2] 53 (0, 0))) ∧ Aside0 (Below w.heap.size w w'))
                 case atStart => exact ⟨(0), (by first | rfl | (simp; done) | (simp [*]; done)), H', ⟨yN _⟩, ⟨by (with_reducible repeat (first | apply zL | apply zM | apply zN)); exact HO_7.out⟩, ⟨by (with_reducible repeat (first | apply zL | apply zM | apply zN)); exact HO_9.out⟩, ⟨by (with_reducible repeat (first | apply zL | apply zM | apply zN)); exact HO_14.out⟩, ⟨by (with_reducible repeat (first | refine zF ?_ _ | refine zH ?_ | refine zG ?_ _)); exact Z0.out⟩, ⟨by repeat (first | (with_reducible first | exact HB.out | apply zJ | apply zD | apply zE | refine zI ?_ Z1.out) | exact HB.out)⟩⟩
                 case round =>
                  clear H'
                  try clear c1
                  try clear c2
                  try clear p2
                  try clear c3
                  try clear c4
                  try clear c5
                  try clear p5
                  try clear q5
                  try clear hx5
                  try clear hf5
                  try clear c6
                  try clear p6
                  try clear q6
                  try clear hx6
                  try clear c7
                  try clear c9
                  try clear c26
                  try clear c27
                  try clear c27b0
                  try clear c27b1
                  try clear c35
                  try clear c36
                  try clear c36b0
                  try clear c37
                  try clear c37b0
                  try clear c38
                  try clear c38b0
                  try clear c39
                  try clear c39b0
                  try clear c40
                  try clear c40b0
                  try clear c40b1
                  try clear c41
                  try clear c41b0
                  try clear c41b1
                  try clear c42
                  try clear c42b0
                  try clear c42b1
                  try clear c43
                  try clear c43b0
                  try clear c43b1
                  try clear c46
                  try clear c46b0
                  try clear c47
                  try clear c47b0
                  try clear c48
                  try clear c48b0
                  try clear c49
                  try clear c49b0
                  try clear c50
                  try clear c50b0
                  try clear p51
                  try clear q51
                  try clear hx51
                  try clear hf51
                  try clear hcz19_0
                  try clear hcz19_1
                  try clear hcz19_2
                  try clear hcz23_0
                  try clear hcz23_1
                  try clear hcz23_2
                  try clear hfz19_0
                  try clear hfz19_1
                  try clear hfz19_2
                  try clear hfz23_0
                  try clear hfz23_1
                  try clear hfz23_2
                  try clear hx51_0
                  try clear hx605_0
                  try clear hx606_0
                  try clear hx610_0
                  try clear p2
                  try clear p51
                  try clear p6
                  try clear p605
                  try clear p606
                  try clear p610
                  try clear q51
                  try clear q6
                  try clear q605
                  try clear q606
                  try clear q610
                  obtain ⟨x98_4, rfl, HA, HK4, HO_7, HO_9, HO_14, Z0, HB⟩ := hrel
                  cases gk with
                  | zero => exact absurd HA.out (by simp [w22_DistPenalties.l2])
                  | succ k4 =>
                   have H := HA.out
                   clear HA
                   simp only [w22_DistPenalties.l2] at H
                   by_cases c55 : x98_4 < (t595.length : Int)
                   ·rw [if_pos c55] at H
                    have c55b0 : decide (x98_4 < (t595.length : Int)) = true := yC c55
                    clear c55
                    by_cases c56 : 0 ≤ x98_4
                    ·rw [if_pos c56] at H
                     have c56b0 : decide (0 ≤ x98_4) = true := yC c56
                     clear c56
                     by_cases c57 : x98_4 < (x14_3.length : Int)
                     ·rw [if_pos c57] at H
                      have c57b0 : decide (x98_4 < (x14_3.length : Int)) = true := yC c57
                      clear c57
                      obtain ⟨bq58, hbq58⟩ : ∃ b_ : Bool, b_ = (rdOf false x14_3 x98_4) := ⟨_, rfl⟩
                      replace H : (if bq58 = true then (w22_DistPenalties.l2 k4 l0 l1 y586 t595 x14_3 (t595.length : Int) (wrap64 (x98_4 + 1)) a2_0 a2_1 a2_2) else (if x98_4 < (t595.length : Int) then (if x98_4 < (l0.length : Int) then (if (rd t595 x98_4) = (rd l0 x98_4) then (w22_DistPenalties.l2 k4 l0 l1 y586 t595 x14_3 (t595.length : Int) (wrap64 (x98_4 + 1)) a2_0 a2_1 a2_2) else (some false)) else (none)) else (none))) = some r := by rw [← hbq58] at H; exact H
                      have Nbq58 := zK hbq58
                      clear hbq58
                      by_cases c59 : bq58 = true
                      ·subst c59
                       have H1 : (w22_DistPenalties.l2 k4 l0 l1 y586 t595 x14_3 (t595.length : Int) (wrap64 (x98_4 + 1)) a2_0 a2_1 a2_2) = some r := by rw [if_pos rfl] at H; exact H
                       clear H
                       have H := H1
                       clear H1
                       have H' := zK H
                       clear H
                       obtain ⟨Ao60, co60, eo60⟩ := Kd.R_slice HO_14.out
                       subst eo60
                       have p612 : 0 ≤ (x98_4 : Int) := yB (by first | (with_reducible assumption) | assumption)
                       have q612 : x98_4 < (x14_3.length : Int) := yB (by first | (with_reducible assumption) | assumption)
                       obtain ⟨ad612, e612, hx612_0⟩ := Kd.at_bool (yM HO_14.out).2.2 x98_4 p612 q612
                       (try rw [← Nbq58.out] at hx612_0)
                       cases e612
                       replace p612 := yg p612
                       replace q612 := yg q612
                       go_wp2
                       repeat (go_quiet (fail); try go_wp2)
                       go_roundg k4
                       case measure => have := HJ9.out; have := HK2.out; have := HK3.out; have := HK4.out; omega
                       case rel => exact ⟨(wrap64 (x98_4 + 1)), (by first | rfl | (simp; done) | (simp [*]; done)), H', ⟨by have := HJ9.out; have := HK2.out; have := HK3.out; have := HK4.out; omega⟩, ⟨by (with_reducible repeat (first | apply zL | apply zM | apply zN)); exact HO_7.out⟩, ⟨by (with_reducible repeat (first | apply zL | apply zM | apply zN)); exact HO_9.out⟩, ⟨by (with_reducible repeat (first | apply zL | apply zM | apply zN)); exact HO_14.out⟩, ⟨by (with_reducible repeat (first | refine zF ?_ _ | refine zH ?_ | refine zG ?_ _)); exact Z0.out⟩, ⟨by repeat (first | (with_reducible first | exact HB.out | apply zJ | apply zD | apply zE | refine zI ?_ Z1.out) | exact HB.out)⟩⟩
                      ·replace c59 := yh.mpr c59
                       subst c59
                       have H1 : (if x98_4 < (t595.length : Int) then (if x98_4 < (l0.length : Int) then (if (rd t595 x98_4) = (rd l0 x98_4) then (w22_DistPenalties.l2 k4 l0 l1 y586 t595 x14_3 (t595.length : Int) (wrap64 (x98_4 + 1)) a2_0 a2_1 a2_2) else (some false)) else (none)) else (none)) = some r := by rw [if_neg (show ¬ (false = true) by decide)] at H; exact H
                       clear H
                       have H := H1
                       clear H1
                       by_cases c61 : x98_4 < (t595.length : Int)
                       ·rw [if_pos c61] at H
                        have c61b0 : decide (x98_4 < (t595.length : Int)) = true := yC c61
                        clear c61
                        by_cases c62 : x98_4 < (l0.length : Int)
                        ·rw [if_pos c62] at H
                         have c62b0 : decide (x98_4 < (l0.length : Int)) = true := yC c62
                         clear c62
                         by_cases c63 : (rd t595 x98_4) = (rd l0 x98_4)
                         ·rw [if_pos c63] at H
                          have c63b0 : ((rd t595 x98_4) == (rd l0 x98_4)) = true := beq_iff_eq.mpr c63
                          have c63b1 : ((rd t595 x98_4) != (rd l0 x98_4)) = false := bne_eq_false_iff_eq.mpr c63
                          clear c63
                          have H' := zK H
                          clear H
                          obtain ⟨Ao64, co64, eo64⟩ := Kd.R_slice HO_14.out
                          subst eo64
                          have p612 : 0 ≤ (x98_4 : Int) := yB (by first | (with_reducible assumption) | assumption)
                          have q612 : x98_4 < (x14_3.length : Int) := yB (by first | (with_reducible assumption) | assumption)
                          obtain ⟨ad612, e612, hx612_0⟩ := Kd.at_bool (yM HO_14.out).2.2 x98_4 p612 q612
                          (try rw [← Nbq58.out] at hx612_0)
                          cases e612
                          replace p612 := yg p612
                          replace q612 := yg q612
                          have p613 : 0 ≤ (x98_4 : Int) := yB (by first | (with_reducible assumption) | assumption)
                          have q613 : x98_4 < (t595.length : Int) := yB (by first | (with_reducible assumption) | assumption)
                          obtain ⟨ad613, e613, hx613_0⟩ := Kd.at_int (yM HO_9.out).2.2 x98_4 p613 q613
                          cases e613
                          replace p613 := yg p613
                          replace q613 := yg q613
                          have p614 : 0 ≤ (x98_4 : Int) := yB (by first | (with_reducible assumption) | assumption)
                          have q614 : x98_4 < (l0.length : Int) := yB (by first | (with_reducible assumption) | assumption)
                          obtain ⟨ad614, e614, hx614_0⟩ := Kd.at_int HR0.out x98_4 p614 q614
                          cases e614
                          replace hx614_0 := (HB.out.cell (World.block_lt_of_cell? w _ hx614_0)).trans hx614_0
                          replace p614 := yg p614
                          replace q614 := yg q614
                          go_wp2
                          repeat (go_quiet (fail); try go_wp2)
                          go_roundg k4
                          case measure => have := HJ9.out; have := HK2.out; have := HK3.out; have := HK4.out; omega
                          case rel => exact ⟨(wrap64 (x98_4 + 1)), (by first | rfl | (simp; done) | (simp [*]; done)), H', ⟨by have := HJ9.out; have := HK2.out; have := HK3.out; have := HK4.out; omega⟩, ⟨by (with_reducible repeat (first | apply zL | apply zM | apply zN)); exact HO_7.out⟩, ⟨by (with_reducible repeat (first | apply zL | apply zM | apply zN)); exact HO_9.out⟩, ⟨by (with_reducible repeat (first | apply zL | apply zM | apply zN)); exact HO_14.out⟩, ⟨by (with_reducible repeat (first | refine zF ?_ _ | refine zH ?_ | refine zG ?_ _)); exact Z0.out⟩, ⟨by repeat (first | (with_reducible first | exact HB.out | apply zJ | apply zD | apply zE | refine zI ?_ Z1.out) | exact HB.out)⟩⟩
                         ·rw [if_neg c63] at H
                          have c63b0 : ((rd t595 x98_4) == (rd l0 x98_4)) = false := beq_eq_false_iff_ne.mpr c63
                          have c63b1 : ((rd t595 x98_4) != (rd l0 x98_4)) = true := bne_iff_ne.mpr c63
                          obtain rfl := yY H
                          obtain ⟨Ao65, co65, eo65⟩ := Kd.R_slice HO_14.out
                          subst eo65
                          have p612 : 0 ≤ (x98_4 : Int) := yB (by first | (with_reducible assumption) | assumption)
                          have q612 : x98_4 < (x14_3.length : Int) := yB (by first | (with_reducible assumption) | assumption)
                          obtain ⟨ad612, e612, hx612_0⟩ := Kd.at_bool (yM HO_14.out).2.2 x98_4 p612 q612
                          (try rw [← Nbq58.out] at hx612_0)
                          cases e612
                          replace p612 := yg p612
                          replace q612 := yg q612
                          have p613 : 0 ≤ (x98_4 : Int) := yB (by first | (with_reducible assumption) | assumption)
                          have q613 : x98_4 < (t595.length : Int) := yB (by first | (with_reducible assumption) | assumption)
                          obtain ⟨ad613, e613, hx613_0⟩ := Kd.at_int (yM HO_9.out).2.2 x98_4 p613 q613
                          cases e613
                          replace p613 := yg p613
                          replace q613 := yg q613
                          have p614 : 0 ≤ (x98_4 : Int) := yB (by first | (with_reducible assumption) | assumption)
                          have q614 : x98_4 < (l0.length : Int) := yB (by first | (with_reducible assumption) | assumption)
                          obtain ⟨ad614, e614, hx614_0⟩ := Kd.at_int HR0.out x98_4 p614 q614
                          cases e614
                          replace hx614_0 := (HB.out.cell (World.block_lt_of_cell? w _ hx614_0)).trans hx614_0
                          replace p614 := yg p614
                          replace q614 := yg q614
                          go_wp2
                          repeat (go_quiet (fail); try go_wp2)
                          go_ret
                          exact ⟨by first | rfl | (simp [errW_none, errW_some] <;> rfl) | (simp [*, errW_none, errW_some] <;> rfl), by repeat (first | (with_reducible first | exact HB.out | apply zJ | apply zD | apply zE | refine zI ?_ Z1.out) | exact HB.out)⟩
                        ·rw [if_neg c62] at H
                         exact absurd H (by simp)
                       ·rw [if_neg c61] at H
                        exact absurd H (by simp)
                     ·rw [if_neg c57] at H
                      exact absurd H (by simp)
                    ·rw [if_neg c56] at H
                     exact absurd H (by simp)
                   ·rw [if_neg c55] at H
                    have c55b0 : decide (x98_4 < (t595.length : Int)) = false := yD c55
                    clear c55
                    have H' := zK H
                    clear H
                    go_wp2
                    repeat (go_quiet (fail); try go_wp2)
                    go_loopg [120] k4 (fun kq v120 w' => ∃ (x9_5 : List Int) (x120_5 : Int), v120 = .int .i64 x120_5 ∧ Aside0 (w22_DistPenalties.l3 kq l0 l1 y586 x9_5 (t595.length : Int) x120_5 a2_0 a2_1 a2_2 = some r) ∧ Aside0 (kq ≤ k4) ∧ Aside0 (Kd.R (Kd.int .i64) 2 w' w.heap.size (fun k_ => some k_ ≠ ((.slice Ao54 t595.length co54) : Value).ownBlock) (.slice Ao20 y586.length co20) y586) ∧ Aside0 (Kd.R (Kd.int .i64) 2 w' w.heap.size (fun k_ => some k_ ≠ ((.slice Ao20 y586.length co20) : Value).ownBlock) (.slice Ao54 t595.length co54) x9_5) ∧ Aside0 (w'.heap[Z4]? = some (.cells #[.int .i64 a2_0, .int .i64 a2_1, .int .i64 a2_2] 53 (0, 0))) ∧ Aside0 (Below w.heap.size w w'))
                    case atStart => exact ⟨(t595), (0), (by first | rfl | (simp; done) | (simp [*]; done)), H', ⟨yN _⟩, ⟨by (with_reducible repeat (first | apply zL | apply zM | apply zN)); exact HO_7.out⟩, ⟨by (with_reducible repeat (first | apply zL | apply zM | apply zN)); exact HO_9.out⟩, ⟨by (with_reducible repeat (first | refine zF ?_ _ | refine zH ?_ | refine zG ?_ _)); exact Z0.out⟩, ⟨by repeat (first | (with_reducible first | exact HB.out | apply zJ | apply zD | apply zE | refine zI ?_ Z1.out) | exact HB.out)⟩⟩
                    case round =>
                     clear H'
                     try clear c1
                     try clear c2
                     try clear p2
                     try clear c3
                     try clear c4
                     try clear c5
                     try clear p5
                     try clear q5
                     try clear hx5
                     try clear hf5
                     try clear c6
                     try clear p6
                     try clear q6
                     try clear hx6
                     try clear c7
                     try clear c9
                     try clear c26
                     try clear c27
                     try clear c27b0
                     try clear c27b1
                     try clear c35
                     try clear c36
                     try clear c36b0
                     try clear c37
                     try clear c37b0
                     try clear c38
                     try clear c38b0
                     try clear c39
                     try clear c39b0
                     try clear c40
                     try clear c40b0
                     try clear c40b1
                     try clear c41
                     try clear c41b0
                     try clear c41b1
                     try clear c42
                     try clear c42b0
                     try clear c42b1
                     try clear c43
                     try clear c43b0
                     try clear c43b1
                     try clear c46
                     try clear c46b0
                     try clear c47
                     try clear c47b0
                     try clear c48
                     try clear c48b0
                     try clear c49
                     try clear c49b0
                     try clear c50
                     try clear c50b0
                     try clear p51
                     try clear q51
                     try clear hx51
                     try clear hf51
                     try clear c55
                     try clear c55b0
                     try clear c56
                     try clear c56b0
                     try clear c57
                     try clear c57b0
                     try clear q58
                     try clear c59
                     try clear p60
                     try clear q60
                     try clear hx60
                     try clear c61
                     try clear c61b0
                     try clear p61
                     try clear q61
                     try clear hx61
                     try clear c62
                     try clear c62b0
                     try clear c63
                     try clear c63b0
                     try clear c63b1
                     try clear p64
                     try clear hcz19_0
                     try clear hcz19_1
                     try clear hcz19_2
                     try clear hcz23_0
                     try clear hcz23_1
                     try clear hcz23_2
                     try clear hfz19_0
                     try clear hfz19_1
                     try clear hfz19_2
                     try clear hfz23_0
                     try clear hfz23_1
                     try clear hfz23_2
                     try clear hx51_0
                     try clear hx605_0
                     try clear hx606_0
                     try clear hx610_0
                     try clear hx612_0
                     try clear hx613_0
                     try clear hx614_0
                     try clear p2
                     try clear p5
                     try clear p51
                     try clear p6
                     try clear p605
                     try clear p606
                     try clear p610
                     try clear p612
                     try clear p613
                     try clear p614
                     try clear q5
                     try clear q51
                     try clear q6
                     try clear q605
                     try clear q606
                     try clear q610
                     try clear q612
                     try clear q613
                     try clear q614
                     obtain ⟨x9_5, x120_5, rfl, HA, HK5, HO_7, HO_9, Z0, HB⟩ := hrel
                     have hl9_5 := (yM HO_9.out).1
                     rw [hl9_5] at HO_9
                     (try simp only [hl9_5])
                     (try simp only [hl9_5] at Z0)
                     (try simp only [hl9_5] at HO_7)
                     cases gk with
                     | zero => exact absurd HA.out (by simp [w22_DistPenalties.l3])
                     | succ k5 =>
                      have H := HA.out
                      clear HA
                      simp only [w22_DistPenalties.l3] at H
                      by_cases c66 : x120_5 < (t595.length : Int)
                      ·rw [if_pos c66] at H
                       have c66b0 : decide (x120_5 < (t595.length : Int)) = true := yC c66
                       clear c66
                       by_cases c67 : 0 ≤ x120_5
                       ·rw [if_pos c67] at H
                        have c67b0 : decide (0 ≤ x120_5) = true := yC c67
                        clear c67
                        by_cases c68 : x120_5 < (x9_5.length : Int)
                        ·rw [if_pos c68] at H
                         have c68b0 : decide (x120_5 < (x9_5.length : Int)) = true := yC c68
                         clear c68
                         obtain ⟨y615, hy615⟩ : ∃ y_ : List Int, y_ = (x9_5.set (x120_5 : Int).toNat (-7)) := ⟨_, rfl⟩
                         replace H : (w22_DistPenalties.l3 k5 l0 l1 y586 y615 (t595.length : Int) (wrap64 (x120_5 + 1)) a2_0 a2_1 a2_2) = some r := by first | (rw [hy615]; with_reducible exact H) | (have H2_ := (yV _ _).symm.trans H; rw [hy615]; with_reducible exact H2_) | (have H2_ := (yV _ _).symm.trans H; with_reducible exact H2_) | with_reducible exact H | (rw [hy615]; exact H) | exact H
                         have Ny615 := zK hy615
                         clear hy615
                         have H' := zK H
                         clear H
                         have p69 : 0 ≤ (x120_5 : Int) := yB (by first | (with_reducible assumption) | assumption)
                         have q69 : (x120_5 : Int) < ((x9_5.length : Int) : Int) := yB (by first | (with_reducible assumption) | assumption)
                         obtain ⟨go69, co69, eo69, Z5, gl69, cl69, HG69⟩ := Kd.R_form HO_9.out (by omega)
                         (first | cases eo69 | (injection eo69 with ea_ en_ ec_; (first | subst ea_ | (injection ea_ with ea_; subst ea_)); subst ec_; clear en_))
                         have GB69 := zK Z5
                         have GG69 := zK HG69
                         clear Z5 gl69 HG69
                         obtain ⟨hx69_0, hf69_0⟩ := Kd.R_celln 0 HO_9.out (x120_5 : Int) p69 q69
                         replace p69 := yg p69
                         replace q69 := yg q69
                         have HP70 := Kd.R_putg HO_9.out (x120_5 : Int) (-7)
                         go_wp2_with (first | ((with_reducible refine gate_store (t := 2) (p := 125) rfl ?_); (try (rw [drewN_self wr]; generalize hq_ : World.drewN wr _ = wr; have n0_ := zK (Kd.R_at hq_ HO_7.out); have n1_ := zK (Kd.R_at hq_ HO_9.out); have n2_ := zK (blk_at hq_ Z0.out); have n3_ := zK (below_at hq_ HB.out); clear hq_ HO_7 HO_9 Z0 HB; have HO_7 := n0_; have HO_9 := n1_; have Z0 := n2_; have HB := n3_; clear n0_ n1_ n2_ n3_; (try (have HP70 := Kd.R_putg HO_9.out (x120_5 : Int) (-7))))); refine store_event (t := 2) (p := 125) (v := ?vo_w71) (w1 := (wr.setCell ⟨go69, (x120_5 : Int).toNat, none⟩ (.int .i64 (-7)))) ?hg ?ho ?hn ?hr ?_; (case ho => rfl); (case hg => rfl); (case hn => rfl); (case hr => first | (go_simp; done) | (go_simp; rfl)); intro w71 hw; have hg : wr.grownBy w71 (some go69) := (by rw [hw]; exact HP70.2); have hp_ : Kd.R (Kd.int .i64) 2 w71 w.heap.size (fun k_ => some k_ ≠ (.slice Ao20 y586.length co20 : Value).ownBlock) (.slice (some ⟨go69, 0, none⟩) x9_5.length co54) y615 := (by rw [hw, Ny615.out]; exact HP70.1); clear HP70; have n0_ := zK (Kd.R_after (v := (.slice (some ⟨go69, 0, none⟩) x9_5.length co54)) (v1 := (.slice (some ⟨go69, 0, none⟩) x9_5.length co54)) (ok := (fun _ => True)) (by (with_reducible repeat (first | apply zL | apply zM | apply zN)); exact yd HO_7.out (fun _ hk => ⟨trivial, hk⟩)) hg (.inl rfl)); have n1_ := zK (hp_); have n2_ := zK (blk_grown (g := Z4) (o := .cells #[.int .i64 a2_0, .int .i64 a2_1, .int .i64 a2_2] 53 (0, 0)) (by (with_reducible repeat (first | refine zF ?_ _ | refine zH ?_ | refine zG ?_ _)); exact Z0.out) hg (Kd.R_ne HO_9.out Z0.out (by decide))); have n3_ := zK ((by rw [hw]; exact zI (HB.out) GB69.out : Below w.heap.size w w71)); clear HO_7 HO_9 Z0 HB; have HO_7 := n0_; have HO_9 := n1_; have Z0 := n2_; have HB := n3_; clear n0_ n1_ n2_ n3_ hg hw hp_))
                         repeat (go_quiet (first | ((with_reducible refine gate_store (t := 2) (p := 125) rfl ?_); (try (rw [drewN_self wr]; generalize hq_ : World.drewN wr _ = wr; have n0_ := zK (Kd.R_at hq_ HO_7.out); have n1_ := zK (Kd.R_at hq_ HO_9.out); have n2_ := zK (blk_at hq_ Z0.out); have n3_ := zK (below_at hq_ HB.out); clear hq_ HO_7 HO_9 Z0 HB; have HO_7 := n0_; have HO_9 := n1_; have Z0 := n2_; have HB := n3_; clear n0_ n1_ n2_ n3_; (try (have HP70 := Kd.R_putg HO_9.out (x120_5 : Int) (-7))))); refine store_event (t := 2) (p := 125) (v := ?vo_w71) (w1 := (wr.setCell ⟨go69, (x120_5 : Int).toNat, none⟩ (.int .i64 (-7)))) ?hg ?ho ?hn ?hr ?_; (case ho => rfl); (case hg => rfl); (case hn => rfl); (case hr => first | (go_simp; done) | (go_simp; rfl)); intro w71 hw; have hg : wr.grownBy w71 (some go69) := (by rw [hw]; exact HP70.2); have hp_ : Kd.R (Kd.int .i64) 2 w71 w.heap.size (fun k_ => some k_ ≠ (.slice Ao20 y586.length co20 : Value).ownBlock) (.slice (some ⟨go69, 0, none⟩) x9_5.length co54) y615 := (by rw [hw, Ny615.out]; exact HP70.1); clear HP70; have n0_ := zK (Kd.R_after (v := (.slice (some ⟨go69, 0, none⟩) x9_5.length co54)) (v1 := (.slice (some ⟨go69, 0, none⟩) x9_5.length co54)) (ok := (fun _ => True)) (by (with_reducible repeat (first | apply zL | apply zM | apply zN)); exact yd HO_7.out (fun _ hk => ⟨trivial, hk⟩)) hg (.inl rfl)); have n1_ := zK (hp_); have n2_ := zK (blk_grown (g := Z4) (o := .cells #[.int .i64 a2_0, .int .i64 a2_1, .int .i64 a2_2] 53 (0, 0)) (by (with_reducible repeat (first | refine zF ?_ _ | refine zH ?_ | refine zG ?_ _)); exact Z0.out) hg (Kd.R_ne HO_9.out Z0.out (by decide))); have n3_ := zK ((by rw [hw]; exact zI (HB.out) GB69.out : Below w.heap.size w w71)); clear HO_7 HO_9 Z0 HB; have HO_7 := n0_; have HO_9 := n1_; have Z0 := n2_; have HB := n3_; clear n0_ n1_ n2_ n3_ hg hw hp_)); try go_wp2_with (first | ((with_reducible refine gate_store (t := 2) (p := 125) rfl ?_); (try (rw [drewN_self wr]; generalize hq_ : World.drewN wr _ = wr; have n0_ := zK (Kd.R_at hq_ HO_7.out); have n1_ := zK (Kd.R_at hq_ HO_9.out); have n2_ := zK (blk_at hq_ Z0.out); have n3_ := zK (below_at hq_ HB.out); clear hq_ HO_7 HO_9 Z0 HB; have HO_7 := n0_; have HO_9 := n1_; have Z0 := n2_; have HB := n3_; clear n0_ n1_ n2_ n3_; (try (have HP70 := Kd.R_putg HO_9.out (x120_5 : Int) (-7))))); refine store_event (t := 2) (p := 125) (v := ?vo_w71) (w1 := (wr.setCell ⟨go69, (x120_5 : Int).toNat, none⟩ (.int .i64 (-7)))) ?hg ?ho ?hn ?hr ?_; (case ho => rfl); (case hg => rfl); (case hn => rfl); (case hr => first | (go_simp; done) | (go_simp; rfl)); intro w71 hw; have hg : wr.grownBy w71 (some go69) := (by rw [hw]; exact HP70.2); have hp_ : Kd.R (Kd.int .i64) 2 w71 w.heap.size (fun k_ => some k_ ≠ (.slice Ao20 y586.length co20 : Value).ownBlock) (.slice (some ⟨go69, 0, none⟩) x9_5.length co54) y615 := (by rw [hw, Ny615.out]; exact HP70.1); clear HP70; have n0_ := zK (Kd.R_after (v := (.slice (some ⟨go69, 0, none⟩) x9_5.length co54)) (v1 := (.slice (some ⟨go69, 0, none⟩) x9_5.length co54)) (ok := (fun _ => True)) (by (with_reducible repeat (first | apply zL | apply zM | apply zN)); exact yd HO_7.out (fun _ hk => ⟨trivial, hk⟩)) hg (.inl rfl)); have n1_ := zK (hp_); have n2_ := zK (blk_grown (g := Z4) (o := .cells #[.int .i64 a2_0, .int .i64 a2_1, .int .i64 a2_2] 53 (0, 0)) (by (with_reducible repeat (first | refine zF ?_ _ | refine zH ?_ | refine zG ?_ _)); exact Z0.out) hg (Kd.R_ne HO_9.out Z0.out (by decide))); have n3_ := zK ((by rw [hw]; exact zI (HB.out) GB69.out : Below w.heap.size w w71)); clear HO_7 HO_9 Z0 HB; have HO_7 := n0_; have HO_9 := n1_; have Z0 := n2_; have HB := n3_; clear n0_ n1_ n2_ n3_ hg hw hp_)))
                         (try simp only [← hl9_5])
                         go_roundg k5
                         case measure => have := HJ9.out; have := HK2.out; have := HK3.out; have := HK4.out; have := HK5.out; omega
                         case rel => exact ⟨(y615), (wrap64 (x120_5 + 1)), (by first | rfl | (simp; done) | (simp [*]; done)), H', ⟨by have := HJ9.out; have := HK2.out; have := HK3.out; have := HK4.out; have := HK5.out; omega⟩, ⟨by (try simp only [hl9_5]); (with_reducible repeat (first | apply zL | apply zM | apply zN)); exact yd HO_7.out (fun _ hk => hk.2)⟩, ⟨by (try simp only [hl9_5]); (with_reducible repeat (first | apply zL | apply zM | apply zN)); exact HO_9.out⟩, ⟨by (try simp only [hl9_5]); (with_reducible repeat (first | refine zF ?_ _ | refine zH ?_ | refine zG ?_ _)); exact Z0.out⟩, ⟨by repeat (first | (with_reducible first | exact HB.out | apply zJ | apply zD | apply zE | refine zI ?_ Z1.out) | exact HB.out)⟩⟩
                        ·rw [if_neg c68] at H
                         exact absurd H (by simp)
                       ·rw [if_neg c67] at H
                        exact absurd H (by simp)
                      ·rw [if_neg c66] at H
                       have c66b0 : decide (x120_5 < (t595.length : Int)) = false := yD c66
                       (try simp only [hl9_5] at c66b0)
                       clear c66
                       replace H := yA.mp H
                       obtain ⟨⟨t616, t619⟩, A720, H⟩ := H
                       replace H : (if t619 = 0 then ((w22_same.f k5 t616 l0).bind fun t620 => (some t620)) else (some false)) = some r := H
                       have A72 := zK A720
                       clear A720
                       by_cases c73 : t619 = 0
                       ·rw [if_pos c73] at H
                        have c73b0 : (t619 == 0) = true := beq_iff_eq.mpr c73
                        have c73b1 : (t619 != 0) = false := bne_eq_false_iff_eq.mpr c73
                        clear c73
                        replace H := yA.mp H
                        obtain ⟨t620, A740, H⟩ := H
                        replace H : (some t620) = some r := H
                        have A74 := zK A740
                        clear A740
                        obtain rfl := yY H
                        have hcz75_0 : wr.cell? ⟨Z4, 0, none⟩ = some (.int .i64 a2_0) := (zO Z0.out 0).trans rfl
                        have hcz75_1 : wr.cell? ⟨Z4, 1, none⟩ = some (.int .i64 a2_1) := (zO Z0.out 1).trans rfl
                        have hcz75_2 : wr.cell? ⟨Z4, 2, none⟩ = some (.int .i64 a2_2) := (zO Z0.out 2).trans rfl
                        have hfz75_0 := yE Z0.out 0
                        have hfz75_1 := yE Z0.out 1
                        have hfz75_2 := yE Z0.out 2
                        go_wp2_with (first | (go_at_call 25; (with_reducible refine (dist_Penalise.calls k5 _ _ y586 (fun k_ => k_ < w.heap.size) _ _ l1 a2_0 0 0 t616 t619 _ ?side1 ?side2 ?side3 A72.out).mono ?_); (case side1 => repeat (first | exact (yM HO_7.out).2.2 | (with_reducible refine yS ?_ _) | (with_reducible refine yT ?_ _) | (with_reducible refine yU ?_))); (case side2 => exact (yM HO_7.out).2.1); (case side3 => exact Kd.V_mk HC1.out (Kd.F_below (Kd.C_F (Kd.heap_int .i64) HR1.out) (by repeat (first | (with_reducible first | exact HB.out | apply zJ | apply zD | apply zE | refine zI ?_ Z1.out) | exact HB.out)))); rintro e w76 ⟨v617, rfl, ho0, hb⟩; have n0_ := zK (Kd.R_elder' (by (with_reducible repeat (first | apply zL | apply zM | apply zN)); exact HO_7.out) (Kd.R_base ho0) hb); have n1_ := zK (Kd.R_elder' (by (with_reducible repeat (first | apply zL | apply zM | apply zN)); exact HO_9.out) (Kd.R_base ho0) hb); have n2_ := zK (Kd.R_lower (Kd.R_new' (Kd.R_new' (yd (ok' := fun k_ => True) ho0 (fun _ hk_ => trivial)) (Kd.R_lt (by (with_reducible repeat (first | apply zL | apply zM | apply zN)); exact HO_7.out))) (Kd.R_lt (by (with_reducible repeat (first | apply zL | apply zM | apply zN)); exact HO_9.out))) (yK (by repeat (first | (with_reducible first | exact HB.out | apply zJ | apply zD | apply zE | refine zI ?_ Z1.out) | exact HB.out)))); have n3_ := zK (zP (g := Z4) (o := .cells #[.int .i64 a2_0, .int .i64 a2_1, .int .i64 a2_2] 53 (0, 0)) (by (with_reducible repeat (first | refine zF ?_ _ | refine zH ?_ | refine zG ?_ _)); exact Z0.out) hb); have n4_ := zK (yL (by repeat (first | (with_reducible first | exact HB.out | apply zJ | apply zD | apply zE | refine zI ?_ Z1.out) | exact HB.out)) hb); clear HO_7 HO_9 Z0 HB; have HO_7 := n0_; have HO_9 := n1_; have HO618 := n2_; have Z0 := n3_; have HB := n4_; clear n0_ n1_ n2_ n3_ n4_; (try clear hb); (try clear hb2); (try clear hk); (try clear hi); (try clear ho0); obtain ⟨Ao77, co77, eo77⟩ := Kd.R_slice HO618.out; subst eo77) | (go_at_call 21; (with_reducible refine (w22_same.calls k5 _ _ t616 _ _ l0 t620 _ ?side1 ?side2 ?side3 ?side4 A74.out).mono ?_); (case side1 => repeat (first | exact (yM HO618.out).2.2 | (with_reducible refine yS ?_ _) | (with_reducible refine yT ?_ _) | (with_reducible refine yU ?_))); (case side2 => exact (yM HO618.out).2.1); (case side3 => repeat (first | exact (yc HR0.out HB.out) | (with_reducible refine yS ?_ _) | (with_reducible refine yT ?_ _) | (with_reducible refine yU ?_))); (case side4 => exact HC0.out); rintro e w' ⟨rfl, ⟨nd, rfl⟩⟩; (try first | exact ⟨rfl, _, World.drewN_drewN _ _ _⟩ | exact ⟨rfl, _, Eq.trans (World.drewN_drewN _ _ _) (congrArg (World.drewN _) (Nat.add_assoc _ _ _))⟩)))
                        repeat (go_quiet (first | (go_at_call 25; (with_reducible refine (dist_Penalise.calls k5 _ _ y586 (fun k_ => k_ < w.heap.size) _ _ l1 a2_0 0 0 t616 t619 _ ?side1 ?side2 ?side3 A72.out).mono ?_); (case side1 => repeat (first | exact (yM HO_7.out).2.2 | (with_reducible refine yS ?_ _) | (with_reducible refine yT ?_ _) | (with_reducible refine yU ?_))); (case side2 => exact (yM HO_7.out).2.1); (case side3 => exact Kd.V_mk HC1.out (Kd.F_below (Kd.C_F (Kd.heap_int .i64) HR1.out) (by repeat (first | (with_reducible first | exact HB.out | apply zJ | apply zD | apply zE | refine zI ?_ Z1.out) | exact HB.out)))); rintro e w76 ⟨v617, rfl, ho0, hb⟩; have n0_ := zK (Kd.R_elder' (by (with_reducible repeat (first | apply zL | apply zM | apply zN)); exact HO_7.out) (Kd.R_base ho0) hb); have n1_ := zK (Kd.R_elder' (by (with_reducible repeat (first | apply zL | apply zM | apply zN)); exact HO_9.out) (Kd.R_base ho0) hb); have n2_ := zK (Kd.R_lower (Kd.R_new' (Kd.R_new' (yd (ok' := fun k_ => True) ho0 (fun _ hk_ => trivial)) (Kd.R_lt (by (with_reducible repeat (first | apply zL | apply zM | apply zN)); exact HO_7.out))) (Kd.R_lt (by (with_reducible repeat (first | apply zL | apply zM | apply zN)); exact HO_9.out))) (yK (by repeat (first | (with_reducible first | exact HB.out | apply zJ | apply zD | apply zE | refine zI ?_ Z1.out) | exact HB.out)))); have n3_ := zK (zP (g := Z4) (o := .cells #[.int .i64 a2_0, .int .i64 a2_1, .int .i64 a2_2] 53 (0, 0)) (by (with_reducible repeat (first | refine zF ?_ _ | refine zH ?_ | refine zG ?_ _)); exact Z0.out) hb); have n4_ := zK (yL (by repeat (first | (with_reducible first | exact HB.out | apply zJ | apply zD | apply zE | refine zI ?_ Z1.out) | exact HB.out)) hb); clear HO_7 HO_9 Z0 HB; have HO_7 := n0_; have HO_9 := n1_; have HO618 := n2_; have Z0 := n3_; have HB := n4_; clear n0_ n1_ n2_ n3_ n4_; (try clear hb); (try clear hb2); (try clear hk); (try clear hi); (try clear ho0); obtain ⟨Ao77, co77, eo77⟩ := Kd.R_slice HO618.out; subst eo77) | (go_at_call 21; (with_reducible refine (w22_same.calls k5 _ _ t616 _ _ l0 t620 _ ?side1 ?side2 ?side3 ?side4 A74.out).mono ?_); (case side1 => repeat (first | exact (yM HO618.out).2.2 | (with_reducible refine yS ?_ _) | (with_reducible refine yT ?_ _) | (with_reducible refine yU ?_))); (case side2 => exact (yM HO618.out).2.1); (case side3 => repeat (first | exact (yc HR0.out HB.out) | (with_reducible refine yS ?_ _) | (with_reducible refine yT ?_ _) | (with_reducible refine yU ?_))); (case side4 => exact HC0.out); rintro e w' ⟨rfl, ⟨nd, rfl⟩⟩; (try first | exact ⟨rfl, _, World.drewN_drewN _ _ _⟩ | exact ⟨rfl, _, Eq.trans (World.drewN_drewN _ _ _) (congrArg (World.drewN _) (Nat.add_assoc _ _ _))⟩))); try go_wp2_with (first | (go_at_call 25; (with_reducible refine (dist_Penalise.calls k5 _ _ y586 (fun k_ => k_ < w.heap.size) _ _ l1 a2_0 0 0 t616 t619 _ ?side1 ?side2 ?side3 A72.out).mono ?_); (case side1 => repeat (first | exact (yM HO_7.out).2.2 | (with_reducible refine yS ?_ _) | (with_reducible refine yT ?_ _) | (with_reducible refine yU ?_))); (case side2 => exact (yM HO_7.out).2.1); (case side3 => exact Kd.V_mk HC1.out (Kd.F_below (Kd.C_F (Kd.heap_int .i64) HR1.out) (by repeat (first | (with_reducible first | exact HB.out | apply zJ | apply zD | apply zE | refine zI ?_ Z1.out) | exact HB.out)))); rintro e w76 ⟨v617, rfl, ho0, hb⟩; have n0_ := zK (Kd.R_elder' (by (with_reducible repeat (first | apply zL | apply zM | apply zN)); exact HO_7.out) (Kd.R_base ho0) hb); have n1_ := zK (Kd.R_elder' (by (with_reducible repeat (first | apply zL | apply zM | apply zN)); exact HO_9.out) (Kd.R_base ho0) hb); have n2_ := zK (Kd.R_lower (Kd.R_new' (Kd.R_new' (yd (ok' := fun k_ => True) ho0 (fun _ hk_ => trivial)) (Kd.R_lt (by (with_reducible repeat (first | apply zL | apply zM | apply zN)); exact HO_7.out))) (Kd.R_lt (by (with_reducible repeat (first | apply zL | apply zM | apply zN)); exact HO_9.out))) (yK (by repeat (first | (with_reducible first | exact HB.out | apply zJ | apply zD | apply zE | refine zI ?_ Z1.out) | exact HB.out)))); have n3_ := zK (zP (g := Z4) (o := .cells #[.int .i64 a2_0, .int .i64 a2_1, .int .i64 a2_2] 53 (0, 0)) (by (with_reducible repeat (first | refine zF ?_ _ | refine zH ?_ | refine zG ?_ _)); exact Z0.out) hb); have n4_ := zK (yL (by repeat (first | (with_reducible first | exact HB.out | apply zJ | apply zD | apply zE | refine zI ?_ Z1.out) | exact HB.out)) hb); clear HO_7 HO_9 Z0 HB; have HO_7 := n0_; have HO_9 := n1_; have HO618 := n2_; have Z0 := n3_; have HB := n4_; clear n0_ n1_ n2_ n3_ n4_; (try clear hb); (try clear hb2); (try clear hk); (try clear hi); (try clear ho0); obtain ⟨Ao77, co77, eo77⟩ := Kd.R_slice HO618.out; subst eo77) | (go_at_call 21; (with_reducible refine (w22_same.calls k5 _ _ t616 _ _ l0 t620 _ ?side1 ?side2 ?side3 ?side4 A74.out).mono ?_); (case side1 => repeat (first | exact (yM HO618.out).2.2 | (with_reducible refine yS ?_ _) | (with_reducible refine yT ?_ _) | (with_reducible refine yU ?_))); (case side2 => exact (yM HO618.out).2.1); (case side3 => repeat (first | exact (yc HR0.out HB.out) | (with_reducible refine yS ?_ _) | (with_reducible refine yT ?_ _) | (with_reducible refine yU ?_))); (case side4 => exact HC0.out); rintro e w' ⟨rfl, ⟨nd, rfl⟩⟩; (try first | exact ⟨rfl, _, World.drewN_drewN _ _ _⟩ | exact ⟨rfl, _, Eq.trans (World.drewN_drewN _ _ _) (congrArg (World.drewN _) (Nat.add_assoc _ _ _))⟩))))
                        go_ret
                        exact ⟨by first | rfl | (simp [errW_none, errW_some] <;> rfl) | (simp [*, errW_none, errW_some] <;> rfl), by repeat (first | (with_reducible first | exact HB.out | apply zJ | apply zD | apply zE | refine zI ?_ Z1.out) | exact HB.out)⟩
                       ·rw [if_neg c73] at H
                        have c73b0 : (t619 == 0) = false := beq_eq_false_iff_ne.mpr c73
                        have c73b1 : (t619 != 0) = true := bne_iff_ne.mpr c73
                        obtain rfl := yY H
                        have hcz78_0 : wr.cell? ⟨Z4, 0, none⟩ = some (.int .i64 a2_0) := (zO Z0.out 0).trans rfl
                        have hcz78_1 : wr.cell? ⟨Z4, 1, none⟩ = some (.int .i64 a2_1) := (zO Z0.out 1).trans rfl
                        have hcz78_2 : wr.cell? ⟨Z4, 2, none⟩ = some (.int .i64 a2_2) := (zO Z0.out 2).trans rfl
                        have hfz78_0 := yE Z0.out 0
                        have hfz78_1 := yE Z0.out 1
                        have hfz78_2 := yE Z0.out 2
                        go_wp2_with (first | (go_at_call 25; (with_reducible refine (dist_Penalise.calls k5 _ _ y586 (fun k_ => k_ < w.heap.size) _ _ l1 a2_0 0 0 t616 t619 _ ?side1 ?side2 ?side3 A72.out).mono ?_); (case side1 => repeat (first | exact (yM HO_7.out).2.2 | (with_reducible refine yS ?_ _) | (with_reducible refine yT ?_ _) | (with_reducible refine yU ?_))); (case side2 => exact (yM HO_7.out).2.1); (case side3 => exact Kd.V_mk HC1.out (Kd.F_below (Kd.C_F (Kd.heap_int .i64) HR1.out) (by repeat (first | (with_reducible first | exact HB.out | apply zJ | apply zD | apply zE | refine zI ?_ Z1.out) | exact HB.out)))); rintro e w79 ⟨v617, rfl, ho0, hb⟩; have n0_ := zK (Kd.R_elder' (by (with_reducible repeat (first | apply zL | apply zM | apply zN)); exact HO_7.out) (Kd.R_base ho0) hb); have n1_ := zK (Kd.R_elder' (by (with_reducible repeat (first | apply zL | apply zM | apply zN)); exact HO_9.out) (Kd.R_base ho0) hb); have n2_ := zK (Kd.R_lower (Kd.R_new' (Kd.R_new' (yd (ok' := fun k_ => True) ho0 (fun _ hk_ => trivial)) (Kd.R_lt (by (with_reducible repeat (first | apply zL | apply zM | apply zN)); exact HO_7.out))) (Kd.R_lt (by (with_reducible repeat (first | apply zL | apply zM | apply zN)); exact HO_9.out))) (yK (by repeat (first | (with_reducible first | exact HB.out | apply zJ | apply zD | apply zE | refine zI ?_ Z1.out) | exact HB.out)))); have n3_ := zK (zP (g := Z4) (o := .cells #[.int .i64 a2_0, .int .i64 a2_1, .int .i64 a2_2] 53 (0, 0)) (by (with_reducible repeat (first | refine zF ?_ _ | refine zH ?_ | refine zG ?_ _)); exact Z0.out) hb); have n4_ := zK (yL (by repeat (first | (with_reducible first | exact HB.out | apply zJ | apply zD | apply zE | refine zI ?_ Z1.out) | exact HB.out)) hb); clear HO_7 HO_9 Z0 HB; have HO_7 := n0_; have HO_9 := n1_; have HO618 := n2_; have Z0 := n3_; have HB := n4_; clear n0_ n1_ n2_ n3_ n4_; (try clear hb); (try clear hb2); (try clear hk); (try clear hi); (try clear ho0)))
                        repeat (go_quiet (first | (go_at_call 25; (with_reducible refine (dist_Penalise.calls k5 _ _ y586 (fun k_ => k_ < w.heap.size) _ _ l1 a2_0 0 0 t616 t619 _ ?side1 ?side2 ?side3 A72.out).mono ?_); (case side1 => repeat (first | exact (yM HO_7.out).2.2 | (with_reducible refine yS ?_ _) | (with_reducible refine yT ?_ _) | (with_reducible refine yU ?_))); (case side2 => exact (yM HO_7.out).2.1); (case side3 => exact Kd.V_mk HC1.out (Kd.F_below (Kd.C_F (Kd.heap_int .i64) HR1.out) (by repeat (first | (with_reducible first | exact HB.out | apply zJ | apply zD | apply zE | refine zI ?_ Z1.out) | exact HB.out)))); rintro e w79 ⟨v617, rfl, ho0, hb⟩; have n0_ := zK (Kd.R_elder' (by (with_reducible repeat (first | apply zL | apply zM | apply zN)); exact HO_7.out) (Kd.R_base ho0) hb); have n1_ := zK (Kd.R_elder' (by (with_reducible repeat (first | apply zL | apply zM | apply zN)); exact HO_9.out) (Kd.R_base ho0) hb); have n2_ := zK (Kd.R_lower (Kd.R_new' (Kd.R_new' (yd (ok' := fun k_ => True) ho0 (fun _ hk_ => trivial)) (Kd.R_lt (by (with_reducible repeat (first | apply zL | apply zM | apply zN)); exact HO_7.out))) (Kd.R_lt (by (with_reducible repeat (first | apply zL | apply zM | apply zN)); exact HO_9.out))) (yK (by repeat (first | (with_reducible first | exact HB.out | apply zJ | apply zD | apply zE | refine zI ?_ Z1.out) | exact HB.out)))); have n3_ := zK (zP (g := Z4) (o := .cells #[.int .i64 a2_0, .int .i64 a2_1, .int .i64 a2_2] 53 (0, 0)) (by (with_reducible repeat (first | refine zF ?_ _ | refine zH ?_ | refine zG ?_ _)); exact Z0.out) hb); have n4_ := zK (yL (by repeat (first | (with_reducible first | exact HB.out | apply zJ | apply zD | apply zE | refine zI ?_ Z1.out) | exact HB.out)) hb); clear HO_7 HO_9 Z0 HB; have HO_7 := n0_; have HO_9 := n1_; have HO618 := n2_; have Z0 := n3_; have HB := n4_; clear n0_ n1_ n2_ n3_ n4_; (try clear hb); (try clear hb2); (try clear hk); (try clear hi); (try clear ho0))); try go_wp2_with (first | (go_at_call 25; (with_reducible refine (dist_Penalise.calls k5 _ _ y586 (fun k_ => k_ < w.heap.size) _ _ l1 a2_0 0 0 t616 t619 _ ?side1 ?side2 ?side3 A72.out).mono ?_); (case side1 => repeat (first | exact (yM HO_7.out).2.2 | (with_reducible refine yS ?_ _) | (with_reducible refine yT ?_ _) | (with_reducible refine yU ?_))); (case side2 => exact (yM HO_7.out).2.1); (case side3 => exact Kd.V_mk HC1.out (Kd.F_below (Kd.C_F (Kd.heap_int .i64) HR1.out) (by repeat (first | (with_reducible first | exact HB.out | apply zJ | apply zD | apply zE | refine zI ?_ Z1.out) | exact HB.out)))); rintro e w79 ⟨v617, rfl, ho0, hb⟩; have n0_ := zK (Kd.R_elder' (by (with_reducible repeat (first | apply zL | apply zM | apply zN)); exact HO_7.out) (Kd.R_base ho0) hb); have n1_ := zK (Kd.R_elder' (by (with_reducible repeat (first | apply zL | apply zM | apply zN)); exact HO_9.out) (Kd.R_base ho0) hb); have n2_ := zK (Kd.R_lower (Kd.R_new' (Kd.R_new' (yd (ok' := fun k_ => True) ho0 (fun _ hk_ => trivial)) (Kd.R_lt (by (with_reducible repeat (first | apply zL | apply zM | apply zN)); exact HO_7.out))) (Kd.R_lt (by (with_reducible repeat (first | apply zL | apply zM | apply zN)); exact HO_9.out))) (yK (by repeat (first | (with_reducible first | exact HB.out | apply zJ | apply zD | apply zE | refine zI ?_ Z1.out) | exact HB.out)))); have n3_ := zK (zP (g := Z4) (o := .cells #[.int .i64 a2_0, .int .i64 a2_1, .int .i64 a2_2] 53 (0, 0)) (by (with_reducible repeat (first | refine zF ?_ _ | refine zH ?_ | refine zG ?_ _)); exact Z0.out) hb); have n4_ := zK (yL (by repeat (first | (with_reducible first | exact HB.out | apply zJ | apply zD | apply zE | refine zI ?_ Z1.out) | exact HB.out)) hb); clear HO_7 HO_9 Z0 HB; have HO_7 := n0_; have HO_9 := n1_; have HO618 := n2_; have Z0 := n3_; have HB := n4_; clear n0_ n1_ n2_ n3_ n4_; (try clear hb); (try clear hb2); (try clear hk); (try clear hi); (try clear ho0))))
                        go_ret
                        exact ⟨by first | rfl | (simp [errW_none, errW_some] <;> rfl) | (simp [*, errW_none, errW_some] <;> rfl), by repeat (first | (with_reducible first | exact HB.out | apply zJ | apply zD | apply zE | refine zI ?_ Z1.out) | exact HB.out)⟩
             ·rw [if_neg c43] at H
              exact absurd H (by simp)
            ·rw [if_neg c42] at H
             exact absurd H (by simp)
           ·rw [if_neg c41] at H
            have c41b0 : (t598 == 0) = false := beq_eq_false_iff_ne.mpr c41
            have c41b1 : (t598 != 0) = true := bne_iff_ne.mpr c41
            obtain rfl := yY H
            obtain ⟨Ao80, co80, eo80⟩ := Kd.R_slice HO_9.out
            subst eo80
            go_wp2
            repeat (go_quiet (fail); try go_wp2)
            go_ret
            exact ⟨by first | rfl | (simp [errW_none, errW_some] <;> rfl) | (simp [*, errW_none, errW_some] <;> rfl), by repeat (first | (with_reducible first | exact HB.out | apply zJ | apply zD | apply zE | refine zI ?_ Z1.out) | exact HB.out)⟩
    ·rw [if_neg c7] at H
     exact absurd H (by simp)
   ·rw [if_neg c6] at H
    exact absurd H (by simp)
  ·replace c5 := yh.mpr c5
   subst c5
   have H1 : (some false) = some r := by rw [if_neg (show ¬ (false = true) by decide)] at H; exact H
   clear H
   have H := H1
   clear H1
   obtain rfl := yY H
   go_enter Try.func9, Try.ntmps9
   go_wp2_with (first | ((with_reducible refine gate_dst (N := 5) rfl ?_); refine box_event ?hg (N := 5) ?hd (cs := #[.int .i64 a2_0, .int .i64 a2_1, .int .i64 a2_2]) (t := 53) ?hr ?_; (case hd => rfl); (case hg => rfl); (case hr => first | (go_simp; done) | (go_simp; rfl)); intro Z4 hg w81 hbox hb; have n0_ := zK (yL (by repeat (first | (with_reducible first | exact HB.out | apply zJ | apply zD | apply zE) | exact HB.out)) hb); have n1_ := zK (hbox); have n2_ := zK ((by rw [hg]; exact (yK (by repeat (first | (with_reducible first | exact HB.out | apply zJ | apply zD | apply zE) | exact HB.out))) : w.heap.size ≤ Z4)); have n3_ := zK ((by rw [hg]; exact (yK (by repeat (first | (with_reducible first | exact HB.out | apply zJ | apply zD | apply zE) | exact HB.out))) : w.heap.size ≤ Z4)); clear HB; have HB := n0_; have Z0 := n1_; have Z2 := n2_; have Z1 := n3_; clear n0_ n1_ n2_ n3_ hb hbox hg) | (go_at_call 13; (with_reducible refine (w22_awake.calls k  false _ A4.out).mono ?_); rintro e w82 ⟨rfl, hb⟩; have n0_ := zK (zP (g := Z4) (o := .cells #[.int .i64 a2_0, .int .i64 a2_1, .int .i64 a2_2] 53 (0, 0)) (by (with_reducible repeat (first | refine zF ?_ _ | refine zH ?_ | refine zG ?_ _)); exact Z0.out) hb); have n1_ := zK (yL (by repeat (first | (with_reducible first | exact HB.out | apply zJ | apply zD | apply zE | refine zI ?_ Z1.out) | exact HB.out)) hb); clear Z0 HB; have Z0 := n0_; have HB := n1_; clear n0_ n1_; (try clear hb); (try clear hb2); (try clear hk); (try clear hi)))
   repeat (go_quiet (first | ((with_reducible refine gate_dst (N := 5) rfl ?_); refine box_event ?hg (N := 5) ?hd (cs := #[.int .i64 a2_0, .int .i64 a2_1, .int .i64 a2_2]) (t := 53) ?hr ?_; (case hd => rfl); (case hg => rfl); (case hr => first | (go_simp; done) | (go_simp; rfl)); intro Z4 hg w81 hbox hb; have n0_ := zK (yL (by repeat (first | (with_reducible first | exact HB.out | apply zJ | apply zD | apply zE) | exact HB.out)) hb); have n1_ := zK (hbox); have n2_ := zK ((by rw [hg]; exact (yK (by repeat (first | (with_reducible first | exact HB.out | apply zJ | apply zD | apply zE) | exact HB.out))) : w.heap.size ≤ Z4)); have n3_ := zK ((by rw [hg]; exact (yK (by repeat (first | (with_reducible first | exact HB.out | apply zJ | apply zD | apply zE) | exact HB.out))) : w.heap.size ≤ Z4)); clear HB; have HB := n0_; have Z0 := n1_; have Z2 := n2_; have Z1 := n3_; clear n0_ n1_ n2_ n3_ hb hbox hg) | (go_at_call 13; (with_reducible refine (w22_awake.calls k  false _ A4.out).mono ?_); rintro e w82 ⟨rfl, hb⟩; have n0_ := zK (zP (g := Z4) (o := .cells #[.int .i64 a2_0, .int .i64 a2_1, .int .i64 a2_2] 53 (0, 0)) (by (with_reducible repeat (first | refine zF ?_ _ | refine zH ?_ | refine zG ?_ _)); exact Z0.out) hb); have n1_ := zK (yL (by repeat (first | (with_reducible first | exact HB.out | apply zJ | apply zD | apply zE | refine zI ?_ Z1.out) | exact HB.out)) hb); clear Z0 HB; have Z0 := n0_; have HB := n1_; clear n0_ n1_; (try clear hb); (try clear hb2); (try clear hk); (try clear hi))); try go_wp2_with (first | ((with_reducible refine gate_dst (N := 5) rfl ?_); refine box_event ?hg (N := 5) ?hd (cs := #[.int .i64 a2_0, .int .i64 a2_1, .int .i64 a2_2]) (t := 53) ?hr ?_; (case hd => rfl); (case hg => rfl); (case hr => first | (go_simp; done) | (go_simp; rfl)); intro Z4 hg w81 hbox hb; have n0_ := zK (yL (by repeat (first | (with_reducible first | exact HB.out | apply zJ | apply zD | apply zE) | exact HB.out)) hb); have n1_ := zK (hbox); have n2_ := zK ((by rw [hg]; exact (yK (by repeat (first | (with_reducible first | exact HB.out | apply zJ | apply zD | apply zE) | exact HB.out))) : w.heap.size ≤ Z4)); have n3_ := zK ((by rw [hg]; exact (yK (by repeat (first | (with_reducible first | exact HB.out | apply zJ | apply zD | apply zE) | exact HB.out))) : w.heap.size ≤ Z4)); clear HB; have HB := n0_; have Z0 := n1_; have Z2 := n2_; have Z1 := n3_; clear n0_ n1_ n2_ n3_ hb hbox hg) | (go_at_call 13; (with_reducible refine (w22_awake.calls k  false _ A4.out).mono ?_); rintro e w82 ⟨rfl, hb⟩; have n0_ := zK (zP (g := Z4) (o := .cells #[.int .i64 a2_0, .int .i64 a2_1, .int .i64 a2_2] 53 (0, 0)) (by (with_reducible repeat (first | refine zF ?_ _ | refine zH ?_ | refine zG ?_ _)); exact Z0.out) hb); have n1_ := zK (yL (by repeat (first | (with_reducible first | exact HB.out | apply zJ | apply zD | apply zE | refine zI ?_ Z1.out) | exact HB.out)) hb); clear Z0 HB; have Z0 := n0_; have HB := n1_; clear n0_ n1_; (try clear hb); (try clear hb2); (try clear hk); (try clear hi))))
   go_ret
   exact ⟨by first | rfl | (simp [errW_none, errW_some] <;> rfl) | (simp [*, errW_none, errW_some] <;> rfl), by repeat (first | (with_reducible first | exact HB.out | apply zJ | apply zD | apply zE | refine zI ?_ Z1.out) | exact HB.out)⟩

end Go.Proofs.Ythmckhfjaleomaa.T
