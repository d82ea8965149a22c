-- Printed by this session's own driver (wip/tools/xprint.py) over the kit's printer; given functions are this session's own.
import Derived.Test.YthmckhfjaleomaaT0
import Derived.Test.YthmckhfjaleomaaT2
import Derived.Test.YthmckhfjaleomaaT5
import Derived.Test.YthmckhfjaleomaaT6
import Derived.Test.YthmckhfjaleomaaT16
namespace Go.Proofs.Ythmckhfjaleomaa.T
open Go.RowKit Go.Proofs.YthmckhfjaleomaaW.PrintWords Go.Proofs.YthmckhfjaleomaaW.PrintLast Go.Proofs.YthmckhfjaleomaaW.PrintMore
attribute [local go_sem] max2_int min2_int max_two min_two max_three min_three max_four min_four   -- for this text's walks alone
set_option linter.unusedVariables false
set_option linter.unusedSimpArgs false

/-! ### w22_DistSums: function 5 -/
mutual
def w22_DistSums.j0 : Nat → List Int → Bool → List Int → List Bool → Int → Int → Int → Int → Int → List (S46) → Option (Bool)
  | 0, _, _, _, _, _, _, _, _, _, _ => none
  | k + 1, x5, x42, Y0, Y1, Y2, Y3, Y4, Y5, Y6, Y7 => if x42 = true then (some false) else (w22_DistSums.l0 k 0 0 x5 (x5.length : Int) 0 Y0 Y1 Y2 Y3 Y4 Y5 Y6 Y7)
def w22_DistSums.l0 : Nat → Int → Int → List Int → Int → Int → List Int → List Bool → Int → Int → Int → Int → Int → List (S46) → Option (Bool)
  | 0, _, _, _, _, _, _, _, _, _, _, _, _, _ => none
  | k + 1, x7, x8, x43, x44, x45, Y0, Y1, Y2, Y3, Y4, Y5, Y6, Y7 => if x45 < x44 then (if 0 ≤ x45 then (if x45 < (x43.length : Int) then (if (rd x43 x45) < 0 then (w22_DistSums.j2 k x7 x8 (rd x43 x45) x43 x44 x45 true Y0 Y1 Y2 Y3 Y4 Y5 Y6 Y7) else (if (rd x43 x45) > 0 then ((w22_Asked_may.f Y0 Y1 x45).bind fun t434 => (w22_DistSums.j2 k x7 x8 (rd x43 x45) x43 x44 x45 (!t434) Y0 Y1 Y2 Y3 Y4 Y5 Y6 Y7)) else (w22_DistSums.j2 k x7 x8 (rd x43 x45) x43 x44 x45 false Y0 Y1 Y2 Y3 Y4 Y5 Y6 Y7))) else (none)) else (none)) else ((dist_Total.f k Y2 Y3 Y4 Y5 Y6 Y7).bind fun t432 => (if x7 = t432 then (if x8 > 0 then (if Y4 = 0 then (some true) else (some (decide (x8 ≤ Y4)))) else (some false)) else (some false)))
def w22_DistSums.j2 : Nat → Int → Int → Int → List Int → Int → Int → Bool → List Int → List Bool → Int → Int → Int → Int → Int → List (S46) → Option (Bool)
  | 0, _, _, _, _, _, _, _, _, _, _, _, _, _, _, _ => none
  | k + 1, x7, x8, x10, x43, x44, x45, x61, Y0, Y1, Y2, Y3, Y4, Y5, Y6, Y7 => if x61 = true then (some false) else (if x10 > 0 then (w22_DistSums.l0 k (wrap64 (x7 + x10)) (wrap64 (x8 + 1)) x43 x44 (wrap64 (x45 + 1)) Y0 Y1 Y2 Y3 Y4 Y5 Y6 Y7) else (w22_DistSums.l0 k (wrap64 (x7 + x10)) x8 x43 x44 (wrap64 (x45 + 1)) Y0 Y1 Y2 Y3 Y4 Y5 Y6 Y7))
end
def w22_DistSums.f (k : Nat) (l0_0 : List Int) (l0_1 : List Bool) (a1_0 : Int) (a1_1 : Int) (a1_2 : Int) (a1_3 : Int) (a1_4 : Int) (l1_5 : List (S46)) : Option (Bool) := (w22_awake.f k).bind fun t426 => (if t426 = true then ((dist_Weights.f k l0_0 l0_1 a1_0 a1_1 a1_2 a1_3 a1_4 l1_5).bind fun bt427 => ((w22_right.f k l0_0 l0_1 a1_0 a1_1 a1_2 a1_3 a1_4 l1_5).bind fun t431 => (if t431 = true then (if bt427.2 = 0 then (w22_DistSums.j0 k bt427.1 ((bt427.1.length : Int) != (l0_0.length : Int)) l0_0 l0_1 a1_0 a1_1 a1_2 a1_3 a1_4 l1_5) else (w22_DistSums.j0 k bt427.1 true l0_0 l0_1 a1_0 a1_1 a1_2 a1_3 a1_4 l1_5)) else (if bt427.2 = 0 then (some false) else (some ((bt427.1.length : Int) == 0)))))) else (some false))
theorem w22_DistSums.mono_l : ∀ k, (∀ y0 y1 y2 y3 y4 y5 y6 y7 y8 y9, LeO (w22_DistSums.j0 k y0 y1 y2 y3 y4 y5 y6 y7 y8 y9) (w22_DistSums.j0 (k + 1) y0 y1 y2 y3 y4 y5 y6 y7 y8 y9)) ∧ (∀ y0 y1 y2 y3 y4 y5 y6 y7 y8 y9 y10 y11 y12, LeO (w22_DistSums.l0 k y0 y1 y2 y3 y4 y5 y6 y7 y8 y9 y10 y11 y12) (w22_DistSums.l0 (k + 1) y0 y1 y2 y3 y4 y5 y6 y7 y8 y9 y10 y11 y12)) ∧ (∀ y0 y1 y2 y3 y4 y5 y6 y7 y8 y9 y10 y11 y12 y13 y14, LeO (w22_DistSums.j2 k y0 y1 y2 y3 y4 y5 y6 y7 y8 y9 y10 y11 y12 y13 y14) (w22_DistSums.j2 (k + 1) y0 y1 y2 y3 y4 y5 y6 y7 y8 y9 y10 y11 y12 y13 y14))
  | 0 => ⟨fun _ _ _ _ _ _ _ _ _ _ r h => by simp [w22_DistSums.j0] at h, fun _ _ _ _ _ _ _ _ _ _ _ _ _ r h => by simp [w22_DistSums.l0] at h, fun _ _ _ _ _ _ _ _ _ _ _ _ _ _ _ r h => by simp [w22_DistSums.j2] at h⟩
  | k + 1 => by
    obtain ⟨ih0, ih1, ih2⟩ := w22_DistSums.mono_l k
    refine ⟨?_, ?_, ?_⟩ <;> (intros; first | unfold w22_DistSums.j0 | unfold w22_DistSums.l0 | unfold w22_DistSums.j2)
    all_goals repeat' first
      | (with_reducible exact ih0 _ _ _ _ _ _ _ _ _ _)
      | (with_reducible exact ih1 _ _ _ _ _ _ _ _ _ _ _ _ _)
      | (with_reducible exact ih2 _ _ _ _ _ _ _ _ _ _ _ _ _ _ _)
      | (with_reducible exact dist_Total.mono _ _ _ _ _ _ _)
      | (with_reducible exact dist_Weights.mono _ _ _ _ _ _ _ _ _)
      | (with_reducible exact w22_awake.mono _)
      | (with_reducible exact w22_right.mono _ _ _ _ _ _ _ _ _)
      | (with_reducible exact yR _)
      | (with_reducible exact yO _)
      | (with_reducible refine yQ ?_ ?_)
      | (with_reducible refine yP ?_ (fun _ => ?_))
      | exact ih0 _ _ _ _ _ _ _ _ _ _
      | exact ih1 _ _ _ _ _ _ _ _ _ _ _ _ _
      | exact ih2 _ _ _ _ _ _ _ _ _ _ _ _ _ _ _
      | exact dist_Total.mono _ _ _ _ _ _ _
      | exact dist_Weights.mono _ _ _ _ _ _ _ _ _
      | exact w22_awake.mono _
      | exact w22_right.mono _ _ _ _ _ _ _ _ _
      | exact yO _
      | refine yQ ?_ ?_
      | refine yP ?_ (fun _ => ?_)
theorem w22_DistSums.mono : ∀ a0 a1 a2 a3 a4 a5 a6 a7 k, LeO (w22_DistSums.f k a0 a1 a2 a3 a4 a5 a6 a7) (w22_DistSums.f (k + 1) a0 a1 a2 a3 a4 a5 a6 a7) := by
  intro a0 a1 a2 a3 a4 a5 a6 a7 k
  obtain ⟨ih0, ih1, ih2⟩ := w22_DistSums.mono_l k
  unfold w22_DistSums.f
  repeat' first
      | (with_reducible exact ih0 _ _ _ _ _ _ _ _ _ _)
      | (with_reducible exact ih1 _ _ _ _ _ _ _ _ _ _ _ _ _)
      | (with_reducible exact ih2 _ _ _ _ _ _ _ _ _ _ _ _ _ _ _)
      | (with_reducible exact dist_Total.mono _ _ _ _ _ _ _)
      | (with_reducible exact dist_Weights.mono _ _ _ _ _ _ _ _ _)
      | (with_reducible exact w22_awake.mono _)
      | (with_reducible exact w22_right.mono _ _ _ _ _ _ _ _ _)
      | (with_reducible exact yR _)
      | (with_reducible exact yO _)
      | (with_reducible refine yQ ?_ ?_)
      | (with_reducible refine yP ?_ (fun _ => ?_))
      | exact ih0 _ _ _ _ _ _ _ _ _ _
      | exact ih1 _ _ _ _ _ _ _ _ _ _ _ _ _
      | exact ih2 _ _ _ _ _ _ _ _ _ _ _ _ _ _ _
      | exact dist_Total.mono _ _ _ _ _ _ _
      | exact dist_Weights.mono _ _ _ _ _ _ _ _ _
      | exact w22_awake.mono _
      | exact w22_right.mono _ _ _ _ _ _ _ _ _
      | exact yO _
      | refine yQ ?_ ?_
      | refine yP ?_ (fun _ => ?_)
set_option maxHeartbeats 8000000 in
set_option maxRecDepth 100000 in
theorem w22_DistSums.calls (k : Nat) (A0_0 : Option Addr) (c0_0 : Nat) (l0_0 : List Int) (A0_1 : Option Addr) (c0_1 : Nat) (l0_1 : List Bool) (a1_0 : Int) (a1_1 : Int) (a1_2 : Int) (a1_3 : Int) (a1_4 : Int) (A1_5 : Option Addr) (c1_5 : Nat) (l1_5 : List (S46)) (r : Bool) (w : World) (hr0_0 : Kd.C (Kd.int .i64) w A0_0 l0_0.length l0_0) (hc0_0 : l0_0.length ≤ c0_0) (hr0_1 : Kd.C Kd.bool w A0_1 l0_1.length l0_1) (hc0_1 : l0_1.length ≤ c0_1) (hr1_5 : Kd.C k46 w A1_5 l1_5.length l1_5) (hc1_5 : l1_5.length ≤ c1_5) (h : w22_DistSums.f k l0_0 l0_1 a1_0 a1_1 a1_2 a1_3 a1_4 l1_5 = some r) :
    Calls Try.prog 5 #[.agg #[.slice A0_0 l0_0.length c0_0, .slice A0_1 l0_1.length c0_1], .agg #[.int .i64 a1_0, .int .i64 a1_1, .int .i64 a1_2, .int .i64 a1_3, .int .i64 a1_4, .slice A1_5 l1_5.length c1_5]] w fun e w' => e = .returned (.bool r) ∧ Below w.heap.size w w' := by
  have hu39 := Try.underlying39
  have hu24 := Try.underlying24
  have HR0_0 := zK hr0_0
  have HC0_0 := zK hc0_0
  clear hr0_0 hc0_0
  have HR0_1 := zK hr0_1
  have HC0_1 := zK hc0_1
  clear hr0_1 hc0_1
  have HR1_5 := zK hr1_5
  have HC1_5 := zK hc1_5
  clear hr1_5 hc1_5
  have HB := zK (Below.refl w.heap.size w)
  have H : ((w22_awake.f k).bind fun t426 => (if t426 = true then ((dist_Weights.f k l0_0 l0_1 a1_0 a1_1 a1_2 a1_3 a1_4 l1_5).bind fun bt427 => ((w22_right.f k l0_0 l0_1 a1_0 a1_1 a1_2 a1_3 a1_4 l1_5).bind fun t431 => (if t431 = true then (if bt427.2 = 0 then (w22_DistSums.j0 k bt427.1 ((bt427.1.length : Int) != (l0_0.length : Int)) l0_0 l0_1 a1_0 a1_1 a1_2 a1_3 a1_4 l1_5) else (w22_DistSums.j0 k bt427.1 true l0_0 l0_1 a1_0 a1_1 a1_2 a1_3 a1_4 l1_5)) else (if bt427.2 = 0 then (some false) else (some ((bt427.1.length : Int) == 0)))))) else (some false))) = some r := h
  clear h
  replace H := yA.mp H
  obtain ⟨t426, A30, H⟩ := H
  replace H : (if t426 = true then ((dist_Weights.f k l0_0 l0_1 a1_0 a1_1 a1_2 a1_3 a1_4 l1_5).bind fun bt427 => ((w22_right.f k l0_0 l0_1 a1_0 a1_1 a1_2 a1_3 a1_4 l1_5).bind fun t431 => (if t431 = true then (if bt427.2 = 0 then (w22_DistSums.j0 k bt427.1 ((bt427.1.length : Int) != (l0_0.length : Int)) l0_0 l0_1 a1_0 a1_1 a1_2 a1_3 a1_4 l1_5) else (w22_DistSums.j0 k bt427.1 true l0_0 l0_1 a1_0 a1_1 a1_2 a1_3 a1_4 l1_5)) else (if bt427.2 = 0 then (some false) else (some ((bt427.1.length : Int) == 0)))))) else (some false)) = some r := H
  have A3 := zK A30
  clear A30
  by_cases c4 : t426 = true
  ·subst c4
   have H1 : ((dist_Weights.f k l0_0 l0_1 a1_0 a1_1 a1_2 a1_3 a1_4 l1_5).bind fun bt427 => ((w22_right.f k l0_0 l0_1 a1_0 a1_1 a1_2 a1_3 a1_4 l1_5).bind fun t431 => (if t431 = true then (if bt427.2 = 0 then (w22_DistSums.j0 k bt427.1 ((bt427.1.length : Int) != (l0_0.length : Int)) l0_0 l0_1 a1_0 a1_1 a1_2 a1_3 a1_4 l1_5) else (w22_DistSums.j0 k bt427.1 true l0_0 l0_1 a1_0 a1_1 a1_2 a1_3 a1_4 l1_5)) else (if bt427.2 = 0 then (some false) else (some ((bt427.1.length : Int) == 0)))))) = some r := by rw [if_pos rfl] at H; exact H
   clear H
   have H := H1
   clear H1
   replace H := yA.mp H
   obtain ⟨⟨t427, t430⟩, A50, H⟩ := H
   replace H : ((w22_right.f k l0_0 l0_1 a1_0 a1_1 a1_2 a1_3 a1_4 l1_5).bind fun t431 => (if t431 = true then (if t430 = 0 then (w22_DistSums.j0 k t427 ((t427.length : Int) != (l0_0.length : Int)) l0_0 l0_1 a1_0 a1_1 a1_2 a1_3 a1_4 l1_5) else (w22_DistSums.j0 k t427 true l0_0 l0_1 a1_0 a1_1 a1_2 a1_3 a1_4 l1_5)) else (if t430 = 0 then (some false) else (some ((t427.length : Int) == 0))))) = some r := H
   have A5 := zK A50
   clear A50
   replace H := yA.mp H
   obtain ⟨t431, A60, H⟩ := H
   replace H : (if t431 = true then (if t430 = 0 then (w22_DistSums.j0 k t427 ((t427.length : Int) != (l0_0.length : Int)) l0_0 l0_1 a1_0 a1_1 a1_2 a1_3 a1_4 l1_5) else (w22_DistSums.j0 k t427 true l0_0 l0_1 a1_0 a1_1 a1_2 a1_3 a1_4 l1_5)) else (if t430 = 0 then (some false) else (some ((t427.length : Int) == 0)))) = some r := H
   have A6 := zK A60
   clear A60
   by_cases c7 : t431 = true
   ·subst c7
    have H1 : (if t430 = 0 then (w22_DistSums.j0 k t427 ((t427.length : Int) != (l0_0.length : Int)) l0_0 l0_1 a1_0 a1_1 a1_2 a1_3 a1_4 l1_5) else (w22_DistSums.j0 k t427 true l0_0 l0_1 a1_0 a1_1 a1_2 a1_3 a1_4 l1_5)) = some r := by rw [if_pos rfl] at H; exact H
    clear H
    have H := H1
    clear H1
    have HC8 := zK H
    clear H
    go_enter Try.func5, Try.ntmps5
    go_upto_region 6 with (first | ((with_reducible refine gate_dst (N := 2) rfl ?_); refine box_event ?hg (N := 2) ?hd (cs := #[.slice A0_0 l0_0.length c0_0, .slice A0_1 l0_1.length c0_1]) (t := 39) ?hr ?_; (case hd => rfl); (case hg => rfl); (case hr => first | (go_simp; done) | (go_simp; rfl)); intro Z8 hg w9 hbox hb; have n0_ := zK (yL (by repeat (first | (with_reducible first | exact HB.out | apply zJ | apply zD | apply zE) | exact HB.out)) hb); have n1_ := zK (hbox); have n2_ := zK ((by rw [hg]; exact (yK (by repeat (first | (with_reducible first | exact HB.out | apply zJ | apply zD | apply zE) | exact HB.out))) : w.heap.size ≤ Z8)); have n3_ := zK ((by rw [hg]; exact (yK (by repeat (first | (with_reducible first | exact HB.out | apply zJ | apply zD | apply zE) | exact HB.out))) : w.heap.size ≤ Z8)); clear HB; have HB := n0_; have Z0 := n1_; have Z4 := n2_; have Z2 := n3_; clear n0_ n1_ n2_ n3_ hb hbox hg) | ((with_reducible refine gate_dst (N := 3) rfl ?_); refine box_event ?hg (N := 3) ?hd (cs := #[.int .i64 a1_0, .int .i64 a1_1, .int .i64 a1_2, .int .i64 a1_3, .int .i64 a1_4, .slice A1_5 l1_5.length c1_5]) (t := 24) ?hr ?_; (case hd => rfl); (case hg => rfl); (case hr => first | (go_simp; done) | (go_simp; rfl)); intro Z9 hg w10 hbox hb; have n0_ := zK (zP (g := Z8) (o := .cells #[.slice A0_0 l0_0.length c0_0, .slice A0_1 l0_1.length c0_1] 39 (0, 0)) (by (with_reducible repeat (first | refine zF ?_ _ | refine zH ?_ | refine zG ?_ _)); exact Z0.out) hb); have n1_ := zK (yL (by repeat (first | (with_reducible first | exact HB.out | apply zJ | apply zD | apply zE | refine zI ?_ Z2.out) | exact HB.out)) hb); have n2_ := zK (hbox); have n3_ := zK ((by rw [hg]; exact (yK (by repeat (first | (with_reducible first | exact HB.out | apply zJ | apply zD | apply zE | refine zI ?_ Z2.out) | exact HB.out))) : w.heap.size ≤ Z9)); have n4_ := zK ((by rw [hg]; exact (yK (by repeat (first | (with_reducible first | exact HB.out | apply zJ | apply zD | apply zE | refine zI ?_ Z2.out) | exact HB.out))) : w.heap.size ≤ Z9)); have n5_ := zK ((by rw [hg]; exact ym (yo (g := Z8) (o := .cells #[.slice A0_0 l0_0.length c0_0, .slice A0_1 l0_1.length c0_1] 39 (0, 0)) (by (with_reducible repeat (first | refine zF ?_ _ | refine zH ?_ | refine zG ?_ _)); exact Z0.out)) : Z8 ≠ Z9)); have n6_ := zK ((by rw [hg]; exact yn (yo (g := Z8) (o := .cells #[.slice A0_0 l0_0.length c0_0, .slice A0_1 l0_1.length c0_1] 39 (0, 0)) (by (with_reducible repeat (first | refine zF ?_ _ | refine zH ?_ | refine zG ?_ _)); exact Z0.out)) : Z9 ≠ Z8)); clear Z0 HB; have Z0 := n0_; have HB := n1_; have Z1 := n2_; have Z5 := n3_; have Z3 := n4_; have Z6 := n5_; have Z7 := n6_; clear n0_ n1_ n2_ n3_ n4_ n5_ n6_ hb hbox hg) | ((with_reducible refine gate_callee (f := 13) rfl ?_); refine goesL_ (some 11) rfl rfl Try.func13 (by kernel_rfl) rfl #[] rfl (by (try simp only [yH, yI, yJ]); first | done | rfl | (simp only [yG, yF]; rfl)) ?_; (with_reducible refine (w22_awake.calls k  true _ A3.out).mono ?_); rintro e w11 ⟨rfl, hb⟩; refine ⟨_, rfl, ?_⟩; have n0_ := zK (zP (g := Z8) (o := .cells #[.slice A0_0 l0_0.length c0_0, .slice A0_1 l0_1.length c0_1] 39 (0, 0)) (by (with_reducible repeat (first | refine zF ?_ _ | refine zH ?_ | refine zG ?_ _)); exact Z0.out) hb); have n1_ := zK (zP (g := Z9) (o := .cells #[.int .i64 a1_0, .int .i64 a1_1, .int .i64 a1_2, .int .i64 a1_3, .int .i64 a1_4, .slice A1_5 l1_5.length c1_5] 24 (0, 0)) (by (with_reducible repeat (first | refine zF ?_ _ | refine zH ?_ | refine zG ?_ _)); exact Z1.out) hb); have n2_ := zK (yL (by repeat (first | (with_reducible first | exact HB.out | apply zJ | apply zD | apply zE | refine zI ?_ Z2.out | refine zI ?_ Z3.out) | exact HB.out)) hb); clear Z0 Z1 HB; have Z0 := n0_; have Z1 := n1_; have HB := n2_; clear n0_ n1_ n2_; (try clear hb); (try clear hb2); (try clear hk); (try clear hi); have hnb12 := Z6.out; have hnc12 := Z7.out; have hcz13_0 : w11.cell? ⟨Z8, 0, none⟩ = some (.slice A0_0 l0_0.length c0_0) := (zO Z0.out 0).trans rfl; have hcz13_1 : w11.cell? ⟨Z8, 1, none⟩ = some (.slice A0_1 l0_1.length c0_1) := (zO Z0.out 1).trans rfl; have hfz13_0 := yE Z0.out 0; have hfz13_1 := yE Z0.out 1; have hcz14_0 : w11.cell? ⟨Z9, 0, none⟩ = some (.int .i64 a1_0) := (zO Z1.out 0).trans rfl; have hcz14_1 : w11.cell? ⟨Z9, 1, none⟩ = some (.int .i64 a1_1) := (zO Z1.out 1).trans rfl; have hcz14_2 : w11.cell? ⟨Z9, 2, none⟩ = some (.int .i64 a1_2) := (zO Z1.out 2).trans rfl; have hcz14_3 : w11.cell? ⟨Z9, 3, none⟩ = some (.int .i64 a1_3) := (zO Z1.out 3).trans rfl; have hcz14_4 : w11.cell? ⟨Z9, 4, none⟩ = some (.int .i64 a1_4) := (zO Z1.out 4).trans rfl; have hcz14_5 : w11.cell? ⟨Z9, 5, none⟩ = some (.slice A1_5 l1_5.length c1_5) := (zO Z1.out 5).trans rfl; have hfz14_0 := yE Z1.out 0; have hfz14_1 := yE Z1.out 1; have hfz14_2 := yE Z1.out 2; have hfz14_3 := yE Z1.out 3; have hfz14_4 := yE Z1.out 4; have hfz14_5 := yE Z1.out 5) | ((with_reducible refine gate_callee (f := 19) rfl ?_); refine goesL_ (some 19) rfl rfl Try.func19 (by kernel_rfl) rfl #[.slice A0_0 l0_0.length c0_0, .slice A0_1 l0_1.length c0_1, .agg #[.int .i64 a1_0, .int .i64 a1_1, .int .i64 a1_2, .int .i64 a1_3, .int .i64 a1_4, .slice A1_5 l1_5.length c1_5]] rfl (by (try simp only [yH, yI, yJ]); first | done | rfl | (simp only [yG, yF]; rfl)) ?_; (with_reducible refine (dist_Weights.calls k _ _ l0_0 _ _ l0_1 a1_0 a1_1 a1_2 a1_3 a1_4 _ _ l1_5 t427 t430 _ ?side1 ?side2 ?side3 ?side4 ?side5 ?side6 A5.out).mono ?_); (case side1 => repeat (first | exact (yc HR0_0.out HB.out) | (with_reducible refine yS ?_ _) | (with_reducible refine yT ?_ _) | (with_reducible refine yU ?_))); (case side2 => exact HC0_0.out); (case side3 => repeat (first | exact (yc HR0_1.out HB.out) | (with_reducible refine yS ?_ _) | (with_reducible refine yT ?_ _) | (with_reducible refine yU ?_))); (case side4 => exact HC0_1.out); (case side5 => repeat (first | exact (yc HR1_5.out HB.out) | (with_reducible refine yS ?_ _) | (with_reducible refine yT ?_ _) | (with_reducible refine yU ?_))); (case side6 => exact HC1_5.out); rintro e w15 ⟨v428, rfl, ho0, hb⟩; refine ⟨_, rfl, ?_⟩; have n0_ := zK (Kd.R_lower ho0 (yK (by repeat (first | (with_reducible first | exact HB.out | apply zJ | apply zD | apply zE | refine zI ?_ Z2.out | refine zI ?_ Z3.out) | exact HB.out)))); have n1_ := zK (zP (g := Z8) (o := .cells #[.slice A0_0 l0_0.length c0_0, .slice A0_1 l0_1.length c0_1] 39 (0, 0)) (by (with_reducible repeat (first | refine zF ?_ _ | refine zH ?_ | refine zG ?_ _)); exact Z0.out) hb); have n2_ := zK (zP (g := Z9) (o := .cells #[.int .i64 a1_0, .int .i64 a1_1, .int .i64 a1_2, .int .i64 a1_3, .int .i64 a1_4, .slice A1_5 l1_5.length c1_5] 24 (0, 0)) (by (with_reducible repeat (first | refine zF ?_ _ | refine zH ?_ | refine zG ?_ _)); exact Z1.out) hb); have n3_ := zK (yL (by repeat (first | (with_reducible first | exact HB.out | apply zJ | apply zD | apply zE | refine zI ?_ Z2.out | refine zI ?_ Z3.out) | exact HB.out)) hb); clear Z0 Z1 HB; have HO429 := n0_; have Z0 := n1_; have Z1 := n2_; have HB := n3_; clear n0_ n1_ n2_ n3_; (try clear hb); (try clear hb2); (try clear hk); (try clear hi); (try clear ho0); have hcz16_0 : w15.cell? ⟨Z8, 0, none⟩ = some (.slice A0_0 l0_0.length c0_0) := (zO Z0.out 0).trans rfl; have hcz16_1 : w15.cell? ⟨Z8, 1, none⟩ = some (.slice A0_1 l0_1.length c0_1) := (zO Z0.out 1).trans rfl; have hfz16_0 := yE Z0.out 0; have hfz16_1 := yE Z0.out 1; have hcz17_0 : w15.cell? ⟨Z9, 0, none⟩ = some (.int .i64 a1_0) := (zO Z1.out 0).trans rfl; have hcz17_1 : w15.cell? ⟨Z9, 1, none⟩ = some (.int .i64 a1_1) := (zO Z1.out 1).trans rfl; have hcz17_2 : w15.cell? ⟨Z9, 2, none⟩ = some (.int .i64 a1_2) := (zO Z1.out 2).trans rfl; have hcz17_3 : w15.cell? ⟨Z9, 3, none⟩ = some (.int .i64 a1_3) := (zO Z1.out 3).trans rfl; have hcz17_4 : w15.cell? ⟨Z9, 4, none⟩ = some (.int .i64 a1_4) := (zO Z1.out 4).trans rfl; have hcz17_5 : w15.cell? ⟨Z9, 5, none⟩ = some (.slice A1_5 l1_5.length c1_5) := (zO Z1.out 5).trans rfl; have hfz17_0 := yE Z1.out 0; have hfz17_1 := yE Z1.out 1; have hfz17_2 := yE Z1.out 2; have hfz17_3 := yE Z1.out 3; have hfz17_4 := yE Z1.out 4; have hfz17_5 := yE Z1.out 5) | ((with_reducible refine gate_callee (f := 22) rfl ?_); refine goesL_ (some 24) rfl rfl Try.func22 (by kernel_rfl) rfl #[.agg #[.slice A0_0 l0_0.length c0_0, .slice A0_1 l0_1.length c0_1], .agg #[.int .i64 a1_0, .int .i64 a1_1, .int .i64 a1_2, .int .i64 a1_3, .int .i64 a1_4, .slice A1_5 l1_5.length c1_5]] rfl (by (try simp only [yH, yI, yJ]); first | done | rfl | (simp only [yG, yF]; rfl)) ?_; (with_reducible refine (w22_right.calls k _ _ l0_0 _ _ l0_1 a1_0 a1_1 a1_2 a1_3 a1_4 _ _ l1_5 true _ ?side1 ?side2 ?side3 ?side4 ?side5 ?side6 A6.out).mono ?_); (case side1 => repeat (first | exact (yc HR0_0.out HB.out) | (with_reducible refine yS ?_ _) | (with_reducible refine yT ?_ _) | (with_reducible refine yU ?_))); (case side2 => exact HC0_0.out); (case side3 => repeat (first | exact (yc HR0_1.out HB.out) | (with_reducible refine yS ?_ _) | (with_reducible refine yT ?_ _) | (with_reducible refine yU ?_))); (case side4 => exact HC0_1.out); (case side5 => repeat (first | exact (yc HR1_5.out HB.out) | (with_reducible refine yS ?_ _) | (with_reducible refine yT ?_ _) | (with_reducible refine yU ?_))); (case side6 => exact HC1_5.out); rintro e w18 ⟨rfl, hb⟩; refine ⟨_, rfl, ?_⟩; have n0_ := zK (yb (by (with_reducible repeat (first | apply zL | apply zM | apply zN)); exact HO429.out) hb); have n1_ := zK (zP (g := Z8) (o := .cells #[.slice A0_0 l0_0.length c0_0, .slice A0_1 l0_1.length c0_1] 39 (0, 0)) (by (with_reducible repeat (first | refine zF ?_ _ | refine zH ?_ | refine zG ?_ _)); exact Z0.out) hb); have n2_ := zK (zP (g := Z9) (o := .cells #[.int .i64 a1_0, .int .i64 a1_1, .int .i64 a1_2, .int .i64 a1_3, .int .i64 a1_4, .slice A1_5 l1_5.length c1_5] 24 (0, 0)) (by (with_reducible repeat (first | refine zF ?_ _ | refine zH ?_ | refine zG ?_ _)); exact Z1.out) hb); have n3_ := zK (yL (by repeat (first | (with_reducible first | exact HB.out | apply zJ | apply zD | apply zE | refine zI ?_ Z2.out | refine zI ?_ Z3.out) | exact HB.out)) hb); clear HO429 Z0 Z1 HB; have HO429 := n0_; have Z0 := n1_; have Z1 := n2_; have HB := n3_; clear n0_ n1_ n2_ n3_; (try clear hb); (try clear hb2); (try clear hk); (try clear hi)))
    (try simp only [Act.put, zA, zB, zC])
    go_cut [42] (fun v42 wc => ∃ (kq : Nat) (x42_7 : Bool), v42 = .bool x42_7 ∧ Aside0 (w22_DistSums.j0 kq t427 x42_7 l0_0 l0_1 a1_0 a1_1 a1_2 a1_3 a1_4 l1_5 = some r) ∧ Aside0 (kq ≤ k) ∧ Aside0 (Kd.R (Kd.int .i64) 2 wc w.heap.size (fun _ => True) v428 t427) ∧ Aside0 (wc.heap[Z8]? = some (.cells #[(.slice A0_0 l0_0.length c0_0), (.slice A0_1 l0_1.length c0_1)] 39 (0, 0))) ∧ Aside0 (wc.heap[Z9]? = some (.cells #[.int .i64 a1_0, .int .i64 a1_1, .int .i64 a1_2, .int .i64 a1_3, .int .i64 a1_4, (.slice A1_5 l1_5.length c1_5)] 24 (0, 0))) ∧ Aside0 (Below w.heap.size w wc))
    case first =>
     have H := HC8.out
     clear HC8
     by_cases c19 : t430 = 0
     ·rw [if_pos c19] at H
      have c19b0 : (t430 == 0) = true := beq_iff_eq.mpr c19
      have c19b1 : (t430 != 0) = false := bne_eq_false_iff_eq.mpr c19
      clear c19
      (first | rw [c19b0] | (simp only [i64_w, i32_w]; rw [c19b0]) | skip)
      have H' := zK H
      clear H
      obtain ⟨Ao20, co20, eo20⟩ := Kd.R_slice HO429.out
      subst eo20
      have hnb21 := Z6.out
      have hnc21 := Z7.out
      have hcz22_0 : w18.cell? ⟨Z8, 0, none⟩ = some (.slice A0_0 l0_0.length c0_0) := (zO Z0.out 0).trans rfl
      have hcz22_1 : w18.cell? ⟨Z8, 1, none⟩ = some (.slice A0_1 l0_1.length c0_1) := (zO Z0.out 1).trans rfl
      have hfz22_0 := yE Z0.out 0
      have hfz22_1 := yE Z0.out 1
      go_wp2
      go_meet
      case rel => exact ⟨_, (((t427.length : Int) != (l0_0.length : Int))), (by first | rfl | (simp; done) | (simp [*]; done)), H', ⟨by first | omega | exact yN _⟩, ⟨by (with_reducible repeat (first | apply zL | apply zM | apply zN)); exact HO429.out⟩, ⟨by (with_reducible repeat (first | refine zF ?_ _ | refine zH ?_ | refine zG ?_ _)); exact Z0.out⟩, ⟨by (with_reducible repeat (first | refine zF ?_ _ | refine zH ?_ | refine zG ?_ _)); exact Z1.out⟩, ⟨by repeat (first | (with_reducible first | exact HB.out | apply zJ | apply zD | apply zE | refine zI ?_ Z2.out | refine zI ?_ Z3.out) | exact HB.out)⟩⟩
     ·rw [if_neg c19] at H
      have c19b0 : (t430 == 0) = false := beq_eq_false_iff_ne.mpr c19
      have c19b1 : (t430 != 0) = true := bne_iff_ne.mpr c19
      (first | rw [c19b0] | (simp only [i64_w, i32_w]; rw [c19b0]) | skip)
      have H' := zK H
      clear H
      go_wp2
      go_meet
      case rel => exact ⟨_, (true), (by first | rfl | (simp; done) | (simp [*]; done)), H', ⟨by first | omega | exact yN _⟩, ⟨by (with_reducible repeat (first | apply zL | apply zM | apply zN)); exact HO429.out⟩, ⟨by (with_reducible repeat (first | refine zF ?_ _ | refine zH ?_ | refine zG ?_ _)); exact Z0.out⟩, ⟨by (with_reducible repeat (first | refine zF ?_ _ | refine zH ?_ | refine zG ?_ _)); exact Z1.out⟩, ⟨by repeat (first | (with_reducible first | exact HB.out | apply zJ | apply zD | apply zE | refine zI ?_ Z2.out | refine zI ?_ Z3.out) | exact HB.out)⟩⟩
    case rest =>
     clear HC8
     try clear c1
     try clear c2
     try clear p2
     try clear c4
     try clear c5
     try clear c7
     try clear c12
     try clear c13
     try clear c19
     try clear c19b0
     try clear c19b1
     try clear c21
     try clear c22
     try clear hcz13_0
     try clear hcz13_1
     try clear hcz14_0
     try clear hcz14_1
     try clear hcz14_2
     try clear hcz14_3
     try clear hcz14_4
     try clear hcz14_5
     try clear hcz16_0
     try clear hcz16_1
     try clear hcz17_0
     try clear hcz17_1
     try clear hcz17_2
     try clear hcz17_3
     try clear hcz17_4
     try clear hcz17_5
     try clear hcz22_0
     try clear hcz22_1
     try clear hfz13_0
     try clear hfz13_1
     try clear hfz14_0
     try clear hfz14_1
     try clear hfz14_2
     try clear hfz14_3
     try clear hfz14_4
     try clear hfz14_5
     try clear hfz16_0
     try clear hfz16_1
     try clear hfz17_0
     try clear hfz17_1
     try clear hfz17_2
     try clear hfz17_3
     try clear hfz17_4
     try clear hfz17_5
     try clear hfz22_0
     try clear hfz22_1
     obtain ⟨kq, x42_7, rfl, HA, HJ7, HO_5, Z0, Z1, HB⟩ := hcut
     cases kq with
     | zero => exact absurd HA.out (by simp [w22_DistSums.j0])
     | succ kj7 =>
      have H := HA.out
      clear HA
      simp only [w22_DistSums.j0] at H
      by_cases c23 : x42_7 = true
      ·subst c23
       have H1 : (some false) = some r := by rw [if_pos rfl] at H; exact H
       clear H
       have H := H1
       clear H1
       obtain rfl := yY H
       go_wp2
       go_ret
       exact ⟨by first | rfl | (simp [errW_none, errW_some] <;> rfl) | (simp [*, errW_none, errW_some] <;> rfl), by repeat (first | (with_reducible first | exact HB.out | apply zJ | apply zD | apply zE | refine zI ?_ Z2.out | refine zI ?_ Z3.out) | exact HB.out)⟩
      ·replace c23 := yh.mpr c23
       subst c23
       have H1 : (w22_DistSums.l0 kj7 0 0 t427 (t427.length : Int) 0 l0_0 l0_1 a1_0 a1_1 a1_2 a1_3 a1_4 l1_5) = some r := by rw [if_neg (show ¬ (false = true) by decide)] at H; exact H
       clear H
       have H := H1
       clear H1
       have H' := zK H
       clear H
       obtain ⟨Ao24, co24, eo24⟩ := Kd.R_slice HO_5.out
       subst eo24
       go_wp2
       go_loopg [7, 8, 45] kj7 (fun kq v7 v8 v45 w' => ∃ (x7_2 : Int) (x8_2 : Int) (x45_2 : Int), v7 = .int .i64 x7_2 ∧ v8 = .int .i64 x8_2 ∧ v45 = .int .i64 x45_2 ∧ Aside0 (w22_DistSums.l0 kq x7_2 x8_2 t427 (t427.length : Int) x45_2 l0_0 l0_1 a1_0 a1_1 a1_2 a1_3 a1_4 l1_5 = some r) ∧ Aside0 (kq ≤ kj7) ∧ Aside0 (Kd.R (Kd.int .i64) 2 w' w.heap.size (fun _ => True) (.slice Ao24 t427.length co24) t427) ∧ Aside0 (w'.heap[Z8]? = some (.cells #[(.slice A0_0 l0_0.length c0_0), (.slice A0_1 l0_1.length c0_1)] 39 (0, 0))) ∧ Aside0 (w'.heap[Z9]? = some (.cells #[.int .i64 a1_0, .int .i64 a1_1, .int .i64 a1_2, .int .i64 a1_3, .int .i64 a1_4, (.slice A1_5 l1_5.length c1_5)] 24 (0, 0))) ∧ Aside0 (Below w.heap.size w w'))
       case atStart => exact ⟨(0), (0), (0), (by first | rfl | (simp; done) | (simp [*]; done)), (by first | rfl | (simp; done) | (simp [*]; done)), (by first | rfl | (simp; done) | (simp [*]; done)), H', ⟨yN _⟩, ⟨by (with_reducible repeat (first | apply zL | apply zM | apply zN)); exact HO_5.out⟩, ⟨by (with_reducible repeat (first | refine zF ?_ _ | refine zH ?_ | refine zG ?_ _)); exact Z0.out⟩, ⟨by (with_reducible repeat (first | refine zF ?_ _ | refine zH ?_ | refine zG ?_ _)); exact Z1.out⟩, ⟨by repeat (first | (with_reducible first | exact HB.out | apply zJ | apply zD | apply zE | refine zI ?_ Z2.out | refine zI ?_ Z3.out) | exact HB.out)⟩⟩
       case round =>
        clear H'
        try clear c1
        try clear c2
        try clear p2
        try clear c4
        try clear c5
        try clear c7
        try clear c12
        try clear c13
        try clear c19
        try clear c19b0
        try clear c19b1
        try clear c21
        try clear c22
        try clear c23
        try clear hcz13_0
        try clear hcz13_1
        try clear hcz14_0
        try clear hcz14_1
        try clear hcz14_2
        try clear hcz14_3
        try clear hcz14_4
        try clear hcz14_5
        try clear hcz16_0
        try clear hcz16_1
        try clear hcz17_0
        try clear hcz17_1
        try clear hcz17_2
        try clear hcz17_3
        try clear hcz17_4
        try clear hcz17_5
        try clear hcz22_0
        try clear hcz22_1
        try clear hfz13_0
        try clear hfz13_1
        try clear hfz14_0
        try clear hfz14_1
        try clear hfz14_2
        try clear hfz14_3
        try clear hfz14_4
        try clear hfz14_5
        try clear hfz16_0
        try clear hfz16_1
        try clear hfz17_0
        try clear hfz17_1
        try clear hfz17_2
        try clear hfz17_3
        try clear hfz17_4
        try clear hfz17_5
        try clear hfz22_0
        try clear hfz22_1
        try clear p2
        obtain ⟨x7_2, x8_2, x45_2, rfl, rfl, rfl, HA, HK2, HO_43, Z0, Z1, HB⟩ := hrel
        cases gk with
        | zero => exact absurd HA.out (by simp [w22_DistSums.l0])
        | succ k2 =>
         have H := HA.out
         clear HA
         simp only [w22_DistSums.l0] at H
         by_cases c25 : x45_2 < (t427.length : Int)
         ·rw [if_pos c25] at H
          have c25b0 : decide (x45_2 < (t427.length : Int)) = true := yC c25
          clear c25
          by_cases c26 : 0 ≤ x45_2
          ·rw [if_pos c26] at H
           have c26b0 : decide (0 ≤ x45_2) = true := yC c26
           clear c26
           by_cases c27 : x45_2 < (t427.length : Int)
           ·rw [if_pos c27] at H
            have c27b0 : decide (x45_2 < (t427.length : Int)) = true := yC c27
            clear c27
            have HC28 := zK H
            clear H
            have p433 : 0 ≤ (x45_2 : Int) := yB (by first | (with_reducible assumption) | assumption)
            have q433 : x45_2 < (t427.length : Int) := yB (by first | (with_reducible assumption) | assumption)
            obtain ⟨ad433, e433, hx433_0⟩ := Kd.at_int (yM HO_43.out).2.2 x45_2 p433 q433
            cases e433
            replace p433 := yg p433
            replace q433 := yg q433
            go_upto_region 12 with (fail)
            go_cut [61] (fun v61 wc => ∃ (kq : Nat) (x61_27 : Bool), v61 = .bool x61_27 ∧ Aside0 (w22_DistSums.j2 kq x7_2 x8_2 (rd t427 x45_2) t427 (t427.length : Int) x45_2 x61_27 l0_0 l0_1 a1_0 a1_1 a1_2 a1_3 a1_4 l1_5 = some r) ∧ Aside0 (kq ≤ k2) ∧ Aside0 (Kd.R (Kd.int .i64) 2 wc w.heap.size (fun _ => True) (.slice (some ad433) t427.length co24) t427) ∧ Aside0 (wc.heap[Z8]? = some (.cells #[(.slice A0_0 l0_0.length c0_0), (.slice A0_1 l0_1.length c0_1)] 39 (0, 0))) ∧ Aside0 (wc.heap[Z9]? = some (.cells #[.int .i64 a1_0, .int .i64 a1_1, .int .i64 a1_2, .int .i64 a1_3, .int .i64 a1_4, (.slice A1_5 l1_5.length c1_5)] 24 (0, 0))) ∧ Aside0 (Below w.heap.size w wc))
            case first =>
             have H := HC28.out
             clear HC28
             by_cases c29 : (rd t427 x45_2) < 0
             ·rw [if_pos c29] at H
              have c29b0 : decide ((rd t427 x45_2) < 0) = true := yC c29
              clear c29
              (first | rw [c29b0] | (simp only [i64_w, i32_w]; rw [c29b0]) | skip)
              have H' := zK H
              clear H
              go_wp2
              go_meet
              case rel => exact ⟨_, (true), (by first | rfl | (simp; done) | (simp [*]; done)), H', ⟨by have := HJ7.out; have := HK2.out; first | omega | exact yN _⟩, ⟨by (with_reducible repeat (first | apply zL | apply zM | apply zN)); exact HO_43.out⟩, ⟨by (with_reducible repeat (first | refine zF ?_ _ | refine zH ?_ | refine zG ?_ _)); exact Z0.out⟩, ⟨by (with_reducible repeat (first | refine zF ?_ _ | refine zH ?_ | refine zG ?_ _)); exact Z1.out⟩, ⟨by repeat (first | (with_reducible first | exact HB.out | apply zJ | apply zD | apply zE | refine zI ?_ Z2.out | refine zI ?_ Z3.out) | exact HB.out)⟩⟩
             ·rw [if_neg c29] at H
              have c29b0 : decide ((rd t427 x45_2) < 0) = false := yD c29
              clear c29
              (first | rw [c29b0] | (simp only [i64_w, i32_w]; rw [c29b0]) | skip)
              by_cases c30 : (rd t427 x45_2) > 0
              ·rw [if_pos c30] at H
               have c30b0 : decide (0 < (rd t427 x45_2)) = true := yC c30
               clear c30
               replace H := yA.mp H
               obtain ⟨t434, A310, H⟩ := H
               replace H : (w22_DistSums.j2 k2 x7_2 x8_2 (rd t427 x45_2) t427 (t427.length : Int) x45_2 (!t434) l0_0 l0_1 a1_0 a1_1 a1_2 a1_3 a1_4 l1_5) = some r := H
               have A31 := zK A310
               clear A310
               have H' := zK H
               clear H
               have hnb32 := Z6.out
               have hnc32 := Z7.out
               have hcz33_0 : wr.cell? ⟨Z8, 0, none⟩ = some (.slice A0_0 l0_0.length c0_0) := (zO Z0.out 0).trans rfl
               have hcz33_1 : wr.cell? ⟨Z8, 1, none⟩ = some (.slice A0_1 l0_1.length c0_1) := (zO Z0.out 1).trans rfl
               have hfz33_0 := yE Z0.out 0
               have hfz33_1 := yE Z0.out 1
               go_wp2_with (first | (go_at_call 23; (with_reducible refine (w22_Asked_may.calls _ _ l0_0 _ _ l0_1 x45_2 t434 _ ?side1 ?side2 ?side3 ?side4 A31.out).mono ?_); (case side1 => repeat (first | exact (yc HR0_0.out HB.out) | (with_reducible refine yS ?_ _) | (with_reducible refine yT ?_ _) | (with_reducible refine yU ?_))); (case side2 => exact HC0_0.out); (case side3 => repeat (first | exact (yc HR0_1.out HB.out) | (with_reducible refine yS ?_ _) | (with_reducible refine yT ?_ _) | (with_reducible refine yU ?_))); (case side4 => exact HC0_1.out); rintro e w34 ⟨rfl, hb⟩; have n0_ := zK (yb (by (with_reducible repeat (first | apply zL | apply zM | apply zN)); exact HO_43.out) hb); have n1_ := zK (zP (g := Z8) (o := .cells #[.slice A0_0 l0_0.length c0_0, .slice A0_1 l0_1.length c0_1] 39 (0, 0)) (by (with_reducible repeat (first | refine zF ?_ _ | refine zH ?_ | refine zG ?_ _)); exact Z0.out) hb); have n2_ := zK (zP (g := Z9) (o := .cells #[.int .i64 a1_0, .int .i64 a1_1, .int .i64 a1_2, .int .i64 a1_3, .int .i64 a1_4, .slice A1_5 l1_5.length c1_5] 24 (0, 0)) (by (with_reducible repeat (first | refine zF ?_ _ | refine zH ?_ | refine zG ?_ _)); exact Z1.out) hb); have n3_ := zK (yL (by repeat (first | (with_reducible first | exact HB.out | apply zJ | apply zD | apply zE | refine zI ?_ Z2.out | refine zI ?_ Z3.out) | exact HB.out)) hb); clear HO_43 Z0 Z1 HB; have HO_43 := n0_; have Z0 := n1_; have Z1 := n2_; have HB := n3_; clear n0_ n1_ n2_ n3_; (try clear hb); (try clear hb2); (try clear hk); (try clear hi)))
               go_meet
               case rel => exact ⟨_, (!t434), (by first | rfl | (simp; done) | (simp [*]; done)), H', ⟨by have := HJ7.out; have := HK2.out; first | omega | exact yN _⟩, ⟨by (with_reducible repeat (first | apply zL | apply zM | apply zN)); exact HO_43.out⟩, ⟨by (with_reducible repeat (first | refine zF ?_ _ | refine zH ?_ | refine zG ?_ _)); exact Z0.out⟩, ⟨by (with_reducible repeat (first | refine zF ?_ _ | refine zH ?_ | refine zG ?_ _)); exact Z1.out⟩, ⟨by repeat (first | (with_reducible first | exact HB.out | apply zJ | apply zD | apply zE | refine zI ?_ Z2.out | refine zI ?_ Z3.out) | exact HB.out)⟩⟩
              ·rw [if_neg c30] at H
               have c30b0 : decide (0 < (rd t427 x45_2)) = false := yD c30
               clear c30
               have H' := zK H
               clear H
               go_wp2
               go_meet
               case rel => exact ⟨_, (false), (by first | rfl | (simp; done) | (simp [*]; done)), H', ⟨by have := HJ7.out; have := HK2.out; first | omega | exact yN _⟩, ⟨by (with_reducible repeat (first | apply zL | apply zM | apply zN)); exact HO_43.out⟩, ⟨by (with_reducible repeat (first | refine zF ?_ _ | refine zH ?_ | refine zG ?_ _)); exact Z0.out⟩, ⟨by (with_reducible repeat (first | refine zF ?_ _ | refine zH ?_ | refine zG ?_ _)); exact Z1.out⟩, ⟨by repeat (first | (with_reducible first | exact HB.out | apply zJ | apply zD | apply zE | refine zI ?_ Z2.out | refine zI ?_ Z3.out) | exact HB.out)⟩⟩
            case rest =>
             clear HC28
             try clear c1
             try clear c2
             try clear p2
             try clear c3
             try clear c4
             try clear p4
             try clear q4
             try clear hx4
             try clear c5
             try clear c7
             try clear c12
             try clear c13
             try clear c19
             try clear c19b0
             try clear c19b1
             try clear c21
             try clear c22
             try clear c23
             try clear c25
             try clear c25b0
             try clear c26
             try clear c26b0
             try clear c27
             try clear c27b0
             try clear c29
             try clear c29b0
             try clear c30
             try clear c30b0
             try clear c32
             try clear hcz13_0
             try clear hcz13_1
             try clear hcz14_0
             try clear hcz14_1
             try clear hcz14_2
             try clear hcz14_3
             try clear hcz14_4
             try clear hcz14_5
             try clear hcz16_0
             try clear hcz16_1
             try clear hcz17_0
             try clear hcz17_1
             try clear hcz17_2
             try clear hcz17_3
             try clear hcz17_4
             try clear hcz17_5
             try clear hcz22_0
             try clear hcz22_1
             try clear hcz33_0
             try clear hcz33_1
             try clear hfz13_0
             try clear hfz13_1
             try clear hfz14_0
             try clear hfz14_1
             try clear hfz14_2
             try clear hfz14_3
             try clear hfz14_4
             try clear hfz14_5
             try clear hfz16_0
             try clear hfz16_1
             try clear hfz17_0
             try clear hfz17_1
             try clear hfz17_2
             try clear hfz17_3
             try clear hfz17_4
             try clear hfz17_5
             try clear hfz22_0
             try clear hfz22_1
             try clear hfz33_0
             try clear hfz33_1
             try clear hx433_0
             try clear p2
             try clear p433
             try clear q433
             obtain ⟨kq, x61_27, rfl, HA, HJ27, HO_43, Z0, Z1, HB⟩ := hcut
             cases kq with
             | zero => exact absurd HA.out (by simp [w22_DistSums.j2])
             | succ kj27 =>
              have H := HA.out
              clear HA
              simp only [w22_DistSums.j2] at H
              by_cases c35 : x61_27 = true
              ·subst c35
               have H1 : (some false) = some r := by rw [if_pos rfl] at H; exact H
               clear H
               have H := H1
               clear H1
               obtain rfl := yY H
               go_wp2
               go_ret
               exact ⟨by first | rfl | (simp [errW_none, errW_some] <;> rfl) | (simp [*, errW_none, errW_some] <;> rfl), by repeat (first | (with_reducible first | exact HB.out | apply zJ | apply zD | apply zE | refine zI ?_ Z2.out | refine zI ?_ Z3.out) | exact HB.out)⟩
              ·replace c35 := yh.mpr c35
               subst c35
               have H1 : (if (rd t427 x45_2) > 0 then (w22_DistSums.l0 kj27 (wrap64 (x7_2 + (rd t427 x45_2))) (wrap64 (x8_2 + 1)) t427 (t427.length : Int) (wrap64 (x45_2 + 1)) l0_0 l0_1 a1_0 a1_1 a1_2 a1_3 a1_4 l1_5) else (w22_DistSums.l0 kj27 (wrap64 (x7_2 + (rd t427 x45_2))) x8_2 t427 (t427.length : Int) (wrap64 (x45_2 + 1)) l0_0 l0_1 a1_0 a1_1 a1_2 a1_3 a1_4 l1_5)) = some r := by rw [if_neg (show ¬ (false = true) by decide)] at H; exact H
               clear H
               have H := H1
               clear H1
               by_cases c36 : (rd t427 x45_2) > 0
               ·rw [if_pos c36] at H
                have c36b0 : decide (0 < (rd t427 x45_2)) = true := yC c36
                clear c36
                have H' := zK H
                clear H
                go_wp2
                go_roundg kj27
                case measure => have := HJ7.out; have := HK2.out; have := HJ27.out; omega
                case rel => exact ⟨(wrap64 (x7_2 + (rd t427 x45_2))), (wrap64 (x8_2 + 1)), (wrap64 (x45_2 + 1)), (by first | rfl | (simp; done) | (simp [*]; done)), (by first | rfl | (simp; done) | (simp [*]; done)), (by first | rfl | (simp; done) | (simp [*]; done)), H', ⟨by have := HJ7.out; have := HK2.out; have := HJ27.out; omega⟩, ⟨by (with_reducible repeat (first | apply zL | apply zM | apply zN)); exact HO_43.out⟩, ⟨by (with_reducible repeat (first | refine zF ?_ _ | refine zH ?_ | refine zG ?_ _)); exact Z0.out⟩, ⟨by (with_reducible repeat (first | refine zF ?_ _ | refine zH ?_ | refine zG ?_ _)); exact Z1.out⟩, ⟨by repeat (first | (with_reducible first | exact HB.out | apply zJ | apply zD | apply zE | refine zI ?_ Z2.out | refine zI ?_ Z3.out) | exact HB.out)⟩⟩
               ·rw [if_neg c36] at H
                have c36b0 : decide (0 < (rd t427 x45_2)) = false := yD c36
                clear c36
                have H' := zK H
                clear H
                go_wp2
                go_roundg kj27
                case measure => have := HJ7.out; have := HK2.out; have := HJ27.out; omega
                case rel => exact ⟨(wrap64 (x7_2 + (rd t427 x45_2))), (x8_2), (wrap64 (x45_2 + 1)), (by first | rfl | (simp; done) | (simp [*]; done)), (by first | rfl | (simp; done) | (simp [*]; done)), (by first | rfl | (simp; done) | (simp [*]; done)), H', ⟨by have := HJ7.out; have := HK2.out; have := HJ27.out; omega⟩, ⟨by (with_reducible repeat (first | apply zL | apply zM | apply zN)); exact HO_43.out⟩, ⟨by (with_reducible repeat (first | refine zF ?_ _ | refine zH ?_ | refine zG ?_ _)); exact Z0.out⟩, ⟨by (with_reducible repeat (first | refine zF ?_ _ | refine zH ?_ | refine zG ?_ _)); exact Z1.out⟩, ⟨by repeat (first | (with_reducible first | exact HB.out | apply zJ | apply zD | apply zE | refine zI ?_ Z2.out | refine zI ?_ Z3.out) | exact HB.out)⟩⟩
           ·rw [if_neg c27] at H
            exact absurd H (by simp)
          ·rw [if_neg c26] at H
           exact absurd H (by simp)
         ·rw [if_neg c25] at H
          have c25b0 : decide (x45_2 < (t427.length : Int)) = false := yD c25
          clear c25
          replace H := yA.mp H
          obtain ⟨t432, A370, H⟩ := H
          replace H : (if x7_2 = t432 then (if x8_2 > 0 then (if a1_2 = 0 then (some true) else (some (decide (x8_2 ≤ a1_2)))) else (some false)) else (some false)) = some r := H
          have A37 := zK A370
          clear A370
          by_cases c38 : x7_2 = t432
          ·rw [if_pos c38] at H
           have c38b0 : (x7_2 == t432) = true := beq_iff_eq.mpr c38
           have c38b1 : (x7_2 != t432) = false := bne_eq_false_iff_eq.mpr c38
           clear c38
           by_cases c39 : x8_2 > 0
           ·rw [if_pos c39] at H
            have c39b0 : decide (0 < x8_2) = true := yC c39
            clear c39
            by_cases c40 : a1_2 = 0
            ·rw [if_pos c40] at H
             have c40b0 : (a1_2 == 0) = true := beq_iff_eq.mpr c40
             have c40b1 : (a1_2 != 0) = false := bne_eq_false_iff_eq.mpr c40
             clear c40
             obtain rfl := yY H
             have hnb41 := Z7.out
             have hnc41 := Z6.out
             have hcz42_0 : wr.cell? ⟨Z9, 0, none⟩ = some (.int .i64 a1_0) := (zO Z1.out 0).trans rfl
             have hcz42_1 : wr.cell? ⟨Z9, 1, none⟩ = some (.int .i64 a1_1) := (zO Z1.out 1).trans rfl
             have hcz42_2 : wr.cell? ⟨Z9, 2, none⟩ = some (.int .i64 a1_2) := (zO Z1.out 2).trans rfl
             have hcz42_3 : wr.cell? ⟨Z9, 3, none⟩ = some (.int .i64 a1_3) := (zO Z1.out 3).trans rfl
             have hcz42_4 : wr.cell? ⟨Z9, 4, none⟩ = some (.int .i64 a1_4) := (zO Z1.out 4).trans rfl
             have hcz42_5 : wr.cell? ⟨Z9, 5, none⟩ = some (.slice A1_5 l1_5.length c1_5) := (zO Z1.out 5).trans rfl
             have hfz42_0 := yE Z1.out 0
             have hfz42_1 := yE Z1.out 1
             have hfz42_2 := yE Z1.out 2
             have hfz42_3 := yE Z1.out 3
             have hfz42_4 := yE Z1.out 4
             have hfz42_5 := yE Z1.out 5
             go_wp2_with (first | ((with_reducible refine gate_callee (f := 17) rfl ?_); refine goesL_ (some 72) rfl rfl Try.func17 (by kernel_rfl) rfl #[.agg #[.int .i64 a1_0, .int .i64 a1_1, .int .i64 a1_2, .int .i64 a1_3, .int .i64 a1_4, .slice A1_5 l1_5.length c1_5]] rfl (by (try simp only [yH, yI, yJ]); first | done | rfl | (simp only [yG, yF]; rfl)) ?_; (with_reducible refine (dist_Total.calls k2 a1_0 a1_1 a1_2 a1_3 a1_4 _ _ l1_5 t432 _ ?side1 ?side2 A37.out).mono ?_); (case side1 => repeat (first | exact (yc HR1_5.out HB.out) | (with_reducible refine yS ?_ _) | (with_reducible refine yT ?_ _) | (with_reducible refine yU ?_))); (case side2 => exact HC1_5.out); rintro e w43 ⟨rfl, hb⟩; refine ⟨_, rfl, ?_⟩; have n0_ := zK (yb (by (with_reducible repeat (first | apply zL | apply zM | apply zN)); exact HO_43.out) hb); have n1_ := zK (zP (g := Z8) (o := .cells #[.slice A0_0 l0_0.length c0_0, .slice A0_1 l0_1.length c0_1] 39 (0, 0)) (by (with_reducible repeat (first | refine zF ?_ _ | refine zH ?_ | refine zG ?_ _)); exact Z0.out) hb); have n2_ := zK (zP (g := Z9) (o := .cells #[.int .i64 a1_0, .int .i64 a1_1, .int .i64 a1_2, .int .i64 a1_3, .int .i64 a1_4, .slice A1_5 l1_5.length c1_5] 24 (0, 0)) (by (with_reducible repeat (first | refine zF ?_ _ | refine zH ?_ | refine zG ?_ _)); exact Z1.out) hb); have n3_ := zK (yL (by repeat (first | (with_reducible first | exact HB.out | apply zJ | apply zD | apply zE | refine zI ?_ Z2.out | refine zI ?_ Z3.out) | exact HB.out)) hb); clear HO_43 Z0 Z1 HB; have HO_43 := n0_; have Z0 := n1_; have Z1 := n2_; have HB := n3_; clear n0_ n1_ n2_ n3_; (try clear hb); (try clear hb2); (try clear hk); (try clear hi); have hcz44_0 : w43.cell? ⟨Z9, 0, none⟩ = some (.int .i64 a1_0) := (zO Z1.out 0).trans rfl; have hcz44_1 : w43.cell? ⟨Z9, 1, none⟩ = some (.int .i64 a1_1) := (zO Z1.out 1).trans rfl; have hcz44_2 : w43.cell? ⟨Z9, 2, none⟩ = some (.int .i64 a1_2) := (zO Z1.out 2).trans rfl; have hcz44_3 : w43.cell? ⟨Z9, 3, none⟩ = some (.int .i64 a1_3) := (zO Z1.out 3).trans rfl; have hcz44_4 : w43.cell? ⟨Z9, 4, none⟩ = some (.int .i64 a1_4) := (zO Z1.out 4).trans rfl; have hcz44_5 : w43.cell? ⟨Z9, 5, none⟩ = some (.slice A1_5 l1_5.length c1_5) := (zO Z1.out 5).trans rfl; have hfz44_0 := yE Z1.out 0; have hfz44_1 := yE Z1.out 1; have hfz44_2 := yE Z1.out 2; have hfz44_3 := yE Z1.out 3; have hfz44_4 := yE Z1.out 4; have hfz44_5 := yE Z1.out 5))
             go_ret
             exact ⟨by first | rfl | (simp [errW_none, errW_some] <;> rfl) | (simp [*, errW_none, errW_some] <;> rfl), by repeat (first | (with_reducible first | exact HB.out | apply zJ | apply zD | apply zE | refine zI ?_ Z2.out | refine zI ?_ Z3.out) | exact HB.out)⟩
            ·rw [if_neg c40] at H
             have c40b0 : (a1_2 == 0) = false := beq_eq_false_iff_ne.mpr c40
             have c40b1 : (a1_2 != 0) = true := bne_iff_ne.mpr c40
             obtain rfl := yY H
             have hnb45 := Z7.out
             have hnc45 := Z6.out
             have hcz46_0 : wr.cell? ⟨Z9, 0, none⟩ = some (.int .i64 a1_0) := (zO Z1.out 0).trans rfl
             have hcz46_1 : wr.cell? ⟨Z9, 1, none⟩ = some (.int .i64 a1_1) := (zO Z1.out 1).trans rfl
             have hcz46_2 : wr.cell? ⟨Z9, 2, none⟩ = some (.int .i64 a1_2) := (zO Z1.out 2).trans rfl
             have hcz46_3 : wr.cell? ⟨Z9, 3, none⟩ = some (.int .i64 a1_3) := (zO Z1.out 3).trans rfl
             have hcz46_4 : wr.cell? ⟨Z9, 4, none⟩ = some (.int .i64 a1_4) := (zO Z1.out 4).trans rfl
             have hcz46_5 : wr.cell? ⟨Z9, 5, none⟩ = some (.slice A1_5 l1_5.length c1_5) := (zO Z1.out 5).trans rfl
             have hfz46_0 := yE Z1.out 0
             have hfz46_1 := yE Z1.out 1
             have hfz46_2 := yE Z1.out 2
             have hfz46_3 := yE Z1.out 3
             have hfz46_4 := yE Z1.out 4
             have hfz46_5 := yE Z1.out 5
             go_wp2_with (first | ((with_reducible refine gate_callee (f := 17) rfl ?_); refine goesL_ (some 72) rfl rfl Try.func17 (by kernel_rfl) rfl #[.agg #[.int .i64 a1_0, .int .i64 a1_1, .int .i64 a1_2, .int .i64 a1_3, .int .i64 a1_4, .slice A1_5 l1_5.length c1_5]] rfl (by (try simp only [yH, yI, yJ]); first | done | rfl | (simp only [yG, yF]; rfl)) ?_; (with_reducible refine (dist_Total.calls k2 a1_0 a1_1 a1_2 a1_3 a1_4 _ _ l1_5 t432 _ ?side1 ?side2 A37.out).mono ?_); (case side1 => repeat (first | exact (yc HR1_5.out HB.out) | (with_reducible refine yS ?_ _) | (with_reducible refine yT ?_ _) | (with_reducible refine yU ?_))); (case side2 => exact HC1_5.out); rintro e w47 ⟨rfl, hb⟩; refine ⟨_, rfl, ?_⟩; have n0_ := zK (yb (by (with_reducible repeat (first | apply zL | apply zM | apply zN)); exact HO_43.out) hb); have n1_ := zK (zP (g := Z8) (o := .cells #[.slice A0_0 l0_0.length c0_0, .slice A0_1 l0_1.length c0_1] 39 (0, 0)) (by (with_reducible repeat (first | refine zF ?_ _ | refine zH ?_ | refine zG ?_ _)); exact Z0.out) hb); have n2_ := zK (zP (g := Z9) (o := .cells #[.int .i64 a1_0, .int .i64 a1_1, .int .i64 a1_2, .int .i64 a1_3, .int .i64 a1_4, .slice A1_5 l1_5.length c1_5] 24 (0, 0)) (by (with_reducible repeat (first | refine zF ?_ _ | refine zH ?_ | refine zG ?_ _)); exact Z1.out) hb); have n3_ := zK (yL (by repeat (first | (with_reducible first | exact HB.out | apply zJ | apply zD | apply zE | refine zI ?_ Z2.out | refine zI ?_ Z3.out) | exact HB.out)) hb); clear HO_43 Z0 Z1 HB; have HO_43 := n0_; have Z0 := n1_; have Z1 := n2_; have HB := n3_; clear n0_ n1_ n2_ n3_; (try clear hb); (try clear hb2); (try clear hk); (try clear hi); have hcz48_0 : w47.cell? ⟨Z9, 0, none⟩ = some (.int .i64 a1_0) := (zO Z1.out 0).trans rfl; have hcz48_1 : w47.cell? ⟨Z9, 1, none⟩ = some (.int .i64 a1_1) := (zO Z1.out 1).trans rfl; have hcz48_2 : w47.cell? ⟨Z9, 2, none⟩ = some (.int .i64 a1_2) := (zO Z1.out 2).trans rfl; have hcz48_3 : w47.cell? ⟨Z9, 3, none⟩ = some (.int .i64 a1_3) := (zO Z1.out 3).trans rfl; have hcz48_4 : w47.cell? ⟨Z9, 4, none⟩ = some (.int .i64 a1_4) := (zO Z1.out 4).trans rfl; have hcz48_5 : w47.cell? ⟨Z9, 5, none⟩ = some (.slice A1_5 l1_5.length c1_5) := (zO Z1.out 5).trans rfl; have hfz48_0 := yE Z1.out 0; have hfz48_1 := yE Z1.out 1; have hfz48_2 := yE Z1.out 2; have hfz48_3 := yE Z1.out 3; have hfz48_4 := yE Z1.out 4; have hfz48_5 := yE Z1.out 5))
             go_ret
             exact ⟨by first | rfl | (simp [errW_none, errW_some] <;> rfl) | (simp [*, errW_none, errW_some] <;> rfl), by repeat (first | (with_reducible first | exact HB.out | apply zJ | apply zD | apply zE | refine zI ?_ Z2.out | refine zI ?_ Z3.out) | exact HB.out)⟩
           ·rw [if_neg c39] at H
            have c39b0 : decide (0 < x8_2) = false := yD c39
            clear c39
            obtain rfl := yY H
            have hnb49 := Z7.out
            have hnc49 := Z6.out
            have hcz50_0 : wr.cell? ⟨Z9, 0, none⟩ = some (.int .i64 a1_0) := (zO Z1.out 0).trans rfl
            have hcz50_1 : wr.cell? ⟨Z9, 1, none⟩ = some (.int .i64 a1_1) := (zO Z1.out 1).trans rfl
            have hcz50_2 : wr.cell? ⟨Z9, 2, none⟩ = some (.int .i64 a1_2) := (zO Z1.out 2).trans rfl
            have hcz50_3 : wr.cell? ⟨Z9, 3, none⟩ = some (.int .i64 a1_3) := (zO Z1.out 3).trans rfl
            have hcz50_4 : wr.cell? ⟨Z9, 4, none⟩ = some (.int .i64 a1_4) := (zO Z1.out 4).trans rfl
            have hcz50_5 : wr.cell? ⟨Z9, 5, none⟩ = some (.slice A1_5 l1_5.length c1_5) := (zO Z1.out 5).trans rfl
            have hfz50_0 := yE Z1.out 0
            have hfz50_1 := yE Z1.out 1
            have hfz50_2 := yE Z1.out 2
            have hfz50_3 := yE Z1.out 3
            have hfz50_4 := yE Z1.out 4
            have hfz50_5 := yE Z1.out 5
            go_wp2_with (first | ((with_reducible refine gate_callee (f := 17) rfl ?_); refine goesL_ (some 72) rfl rfl Try.func17 (by kernel_rfl) rfl #[.agg #[.int .i64 a1_0, .int .i64 a1_1, .int .i64 a1_2, .int .i64 a1_3, .int .i64 a1_4, .slice A1_5 l1_5.length c1_5]] rfl (by (try simp only [yH, yI, yJ]); first | done | rfl | (simp only [yG, yF]; rfl)) ?_; (with_reducible refine (dist_Total.calls k2 a1_0 a1_1 a1_2 a1_3 a1_4 _ _ l1_5 t432 _ ?side1 ?side2 A37.out).mono ?_); (case side1 => repeat (first | exact (yc HR1_5.out HB.out) | (with_reducible refine yS ?_ _) | (with_reducible refine yT ?_ _) | (with_reducible refine yU ?_))); (case side2 => exact HC1_5.out); rintro e w51 ⟨rfl, hb⟩; refine ⟨_, rfl, ?_⟩; have n0_ := zK (yb (by (with_reducible repeat (first | apply zL | apply zM | apply zN)); exact HO_43.out) hb); have n1_ := zK (zP (g := Z8) (o := .cells #[.slice A0_0 l0_0.length c0_0, .slice A0_1 l0_1.length c0_1] 39 (0, 0)) (by (with_reducible repeat (first | refine zF ?_ _ | refine zH ?_ | refine zG ?_ _)); exact Z0.out) hb); have n2_ := zK (zP (g := Z9) (o := .cells #[.int .i64 a1_0, .int .i64 a1_1, .int .i64 a1_2, .int .i64 a1_3, .int .i64 a1_4, .slice A1_5 l1_5.length c1_5] 24 (0, 0)) (by (with_reducible repeat (first | refine zF ?_ _ | refine zH ?_ | refine zG ?_ _)); exact Z1.out) hb); have n3_ := zK (yL (by repeat (first | (with_reducible first | exact HB.out | apply zJ | apply zD | apply zE | refine zI ?_ Z2.out | refine zI ?_ Z3.out) | exact HB.out)) hb); clear HO_43 Z0 Z1 HB; have HO_43 := n0_; have Z0 := n1_; have Z1 := n2_; have HB := n3_; clear n0_ n1_ n2_ n3_; (try clear hb); (try clear hb2); (try clear hk); (try clear hi)))
            go_ret
            exact ⟨by first | rfl | (simp [errW_none, errW_some] <;> rfl) | (simp [*, errW_none, errW_some] <;> rfl), by repeat (first | (with_reducible first | exact HB.out | apply zJ | apply zD | apply zE | refine zI ?_ Z2.out | refine zI ?_ Z3.out) | exact HB.out)⟩
          ·rw [if_neg c38] at H
           have c38b0 : (x7_2 == t432) = false := beq_eq_false_iff_ne.mpr c38
           have c38b1 : (x7_2 != t432) = true := bne_iff_ne.mpr c38
           obtain rfl := yY H
           have hnb52 := Z7.out
           have hnc52 := Z6.out
           have hcz53_0 : wr.cell? ⟨Z9, 0, none⟩ = some (.int .i64 a1_0) := (zO Z1.out 0).trans rfl
           have hcz53_1 : wr.cell? ⟨Z9, 1, none⟩ = some (.int .i64 a1_1) := (zO Z1.out 1).trans rfl
           have hcz53_2 : wr.cell? ⟨Z9, 2, none⟩ = some (.int .i64 a1_2) := (zO Z1.out 2).trans rfl
           have hcz53_3 : wr.cell? ⟨Z9, 3, none⟩ = some (.int .i64 a1_3) := (zO Z1.out 3).trans rfl
           have hcz53_4 : wr.cell? ⟨Z9, 4, none⟩ = some (.int .i64 a1_4) := (zO Z1.out 4).trans rfl
           have hcz53_5 : wr.cell? ⟨Z9, 5, none⟩ = some (.slice A1_5 l1_5.length c1_5) := (zO Z1.out 5).trans rfl
           have hfz53_0 := yE Z1.out 0
           have hfz53_1 := yE Z1.out 1
           have hfz53_2 := yE Z1.out 2
           have hfz53_3 := yE Z1.out 3
           have hfz53_4 := yE Z1.out 4
           have hfz53_5 := yE Z1.out 5
           go_wp2_with (first | ((with_reducible refine gate_callee (f := 17) rfl ?_); refine goesL_ (some 72) rfl rfl Try.func17 (by kernel_rfl) rfl #[.agg #[.int .i64 a1_0, .int .i64 a1_1, .int .i64 a1_2, .int .i64 a1_3, .int .i64 a1_4, .slice A1_5 l1_5.length c1_5]] rfl (by (try simp only [yH, yI, yJ]); first | done | rfl | (simp only [yG, yF]; rfl)) ?_; (with_reducible refine (dist_Total.calls k2 a1_0 a1_1 a1_2 a1_3 a1_4 _ _ l1_5 t432 _ ?side1 ?side2 A37.out).mono ?_); (case side1 => repeat (first | exact (yc HR1_5.out HB.out) | (with_reducible refine yS ?_ _) | (with_reducible refine yT ?_ _) | (with_reducible refine yU ?_))); (case side2 => exact HC1_5.out); rintro e w54 ⟨rfl, hb⟩; refine ⟨_, rfl, ?_⟩; have n0_ := zK (yb (by (with_reducible repeat (first | apply zL | apply zM | apply zN)); exact HO_43.out) hb); have n1_ := zK (zP (g := Z8) (o := .cells #[.slice A0_0 l0_0.length c0_0, .slice A0_1 l0_1.length c0_1] 39 (0, 0)) (by (with_reducible repeat (first | refine zF ?_ _ | refine zH ?_ | refine zG ?_ _)); exact Z0.out) hb); have n2_ := zK (zP (g := Z9) (o := .cells #[.int .i64 a1_0, .int .i64 a1_1, .int .i64 a1_2, .int .i64 a1_3, .int .i64 a1_4, .slice A1_5 l1_5.length c1_5] 24 (0, 0)) (by (with_reducible repeat (first | refine zF ?_ _ | refine zH ?_ | refine zG ?_ _)); exact Z1.out) hb); have n3_ := zK (yL (by repeat (first | (with_reducible first | exact HB.out | apply zJ | apply zD | apply zE | refine zI ?_ Z2.out | refine zI ?_ Z3.out) | exact HB.out)) hb); clear HO_43 Z0 Z1 HB; have HO_43 := n0_; have Z0 := n1_; have Z1 := n2_; have HB := n3_; clear n0_ n1_ n2_ n3_; (try clear hb); (try clear hb2); (try clear hk); (try clear hi)))
           go_ret
           exact ⟨by first | rfl | (simp [errW_none, errW_some] <;> rfl) | (simp [*, errW_none, errW_some] <;> rfl), by repeat (first | (with_reducible first | exact HB.out | apply zJ | apply zD | apply zE | refine zI ?_ Z2.out | refine zI ?_ Z3.out) | exact HB.out)⟩
   ·replace c7 := yh.mpr c7
    subst c7
    have H1 : (if t430 = 0 then (some false) else (some ((t427.length : Int) == 0))) = some r := by rw [if_neg (show ¬ (false = true) by decide)] at H; exact H
    clear H
    have H := H1
    clear H1
    by_cases c55 : t430 = 0
    ·rw [if_pos c55] at H
     have c55b0 : (t430 == 0) = true := beq_iff_eq.mpr c55
     have c55b1 : (t430 != 0) = false := bne_eq_false_iff_eq.mpr c55
     clear c55
     obtain rfl := yY H
     go_enter Try.func5, Try.ntmps5
     go_wp2_with (first | ((with_reducible refine gate_dst (N := 2) rfl ?_); refine box_event ?hg (N := 2) ?hd (cs := #[.slice A0_0 l0_0.length c0_0, .slice A0_1 l0_1.length c0_1]) (t := 39) ?hr ?_; (case hd => rfl); (case hg => rfl); (case hr => first | (go_simp; done) | (go_simp; rfl)); intro Z8 hg w56 hbox hb; have n0_ := zK (yL (by repeat (first | (with_reducible first | exact HB.out | apply zJ | apply zD | apply zE) | exact HB.out)) hb); have n1_ := zK (hbox); have n2_ := zK ((by rw [hg]; exact (yK (by repeat (first | (with_reducible first | exact HB.out | apply zJ | apply zD | apply zE) | exact HB.out))) : w.heap.size ≤ Z8)); have n3_ := zK ((by rw [hg]; exact (yK (by repeat (first | (with_reducible first | exact HB.out | apply zJ | apply zD | apply zE) | exact HB.out))) : w.heap.size ≤ Z8)); clear HB; have HB := n0_; have Z0 := n1_; have Z4 := n2_; have Z2 := n3_; clear n0_ n1_ n2_ n3_ hb hbox hg) | ((with_reducible refine gate_dst (N := 3) rfl ?_); refine box_event ?hg (N := 3) ?hd (cs := #[.int .i64 a1_0, .int .i64 a1_1, .int .i64 a1_2, .int .i64 a1_3, .int .i64 a1_4, .slice A1_5 l1_5.length c1_5]) (t := 24) ?hr ?_; (case hd => rfl); (case hg => rfl); (case hr => first | (go_simp; done) | (go_simp; rfl)); intro Z9 hg w57 hbox hb; have n0_ := zK (zP (g := Z8) (o := .cells #[.slice A0_0 l0_0.length c0_0, .slice A0_1 l0_1.length c0_1] 39 (0, 0)) (by (with_reducible repeat (first | refine zF ?_ _ | refine zH ?_ | refine zG ?_ _)); exact Z0.out) hb); have n1_ := zK (yL (by repeat (first | (with_reducible first | exact HB.out | apply zJ | apply zD | apply zE | refine zI ?_ Z2.out) | exact HB.out)) hb); have n2_ := zK (hbox); have n3_ := zK ((by rw [hg]; exact (yK (by repeat (first | (with_reducible first | exact HB.out | apply zJ | apply zD | apply zE | refine zI ?_ Z2.out) | exact HB.out))) : w.heap.size ≤ Z9)); have n4_ := zK ((by rw [hg]; exact (yK (by repeat (first | (with_reducible first | exact HB.out | apply zJ | apply zD | apply zE | refine zI ?_ Z2.out) | exact HB.out))) : w.heap.size ≤ Z9)); have n5_ := zK ((by rw [hg]; exact ym (yo (g := Z8) (o := .cells #[.slice A0_0 l0_0.length c0_0, .slice A0_1 l0_1.length c0_1] 39 (0, 0)) (by (with_reducible repeat (first | refine zF ?_ _ | refine zH ?_ | refine zG ?_ _)); exact Z0.out)) : Z8 ≠ Z9)); have n6_ := zK ((by rw [hg]; exact yn (yo (g := Z8) (o := .cells #[.slice A0_0 l0_0.length c0_0, .slice A0_1 l0_1.length c0_1] 39 (0, 0)) (by (with_reducible repeat (first | refine zF ?_ _ | refine zH ?_ | refine zG ?_ _)); exact Z0.out)) : Z9 ≠ Z8)); clear Z0 HB; have Z0 := n0_; have HB := n1_; have Z1 := n2_; have Z5 := n3_; have Z3 := n4_; have Z6 := n5_; have Z7 := n6_; clear n0_ n1_ n2_ n3_ n4_ n5_ n6_ hb hbox hg) | ((with_reducible refine gate_callee (f := 13) rfl ?_); refine goesL_ (some 11) rfl rfl Try.func13 (by kernel_rfl) rfl #[] rfl (by (try simp only [yH, yI, yJ]); first | done | rfl | (simp only [yG, yF]; rfl)) ?_; (with_reducible refine (w22_awake.calls k  true _ A3.out).mono ?_); rintro e w58 ⟨rfl, hb⟩; refine ⟨_, rfl, ?_⟩; have n0_ := zK (zP (g := Z8) (o := .cells #[.slice A0_0 l0_0.length c0_0, .slice A0_1 l0_1.length c0_1] 39 (0, 0)) (by (with_reducible repeat (first | refine zF ?_ _ | refine zH ?_ | refine zG ?_ _)); exact Z0.out) hb); have n1_ := zK (zP (g := Z9) (o := .cells #[.int .i64 a1_0, .int .i64 a1_1, .int .i64 a1_2, .int .i64 a1_3, .int .i64 a1_4, .slice A1_5 l1_5.length c1_5] 24 (0, 0)) (by (with_reducible repeat (first | refine zF ?_ _ | refine zH ?_ | refine zG ?_ _)); exact Z1.out) hb); have n2_ := zK (yL (by repeat (first | (with_reducible first | exact HB.out | apply zJ | apply zD | apply zE | refine zI ?_ Z2.out | refine zI ?_ Z3.out) | exact HB.out)) hb); clear Z0 Z1 HB; have Z0 := n0_; have Z1 := n1_; have HB := n2_; clear n0_ n1_ n2_; (try clear hb); (try clear hb2); (try clear hk); (try clear hi); have hnb59 := Z6.out; have hnc59 := Z7.out; have hcz60_0 : w58.cell? ⟨Z8, 0, none⟩ = some (.slice A0_0 l0_0.length c0_0) := (zO Z0.out 0).trans rfl; have hcz60_1 : w58.cell? ⟨Z8, 1, none⟩ = some (.slice A0_1 l0_1.length c0_1) := (zO Z0.out 1).trans rfl; have hfz60_0 := yE Z0.out 0; have hfz60_1 := yE Z0.out 1; have hcz61_0 : w58.cell? ⟨Z9, 0, none⟩ = some (.int .i64 a1_0) := (zO Z1.out 0).trans rfl; have hcz61_1 : w58.cell? ⟨Z9, 1, none⟩ = some (.int .i64 a1_1) := (zO Z1.out 1).trans rfl; have hcz61_2 : w58.cell? ⟨Z9, 2, none⟩ = some (.int .i64 a1_2) := (zO Z1.out 2).trans rfl; have hcz61_3 : w58.cell? ⟨Z9, 3, none⟩ = some (.int .i64 a1_3) := (zO Z1.out 3).trans rfl; have hcz61_4 : w58.cell? ⟨Z9, 4, none⟩ = some (.int .i64 a1_4) := (zO Z1.out 4).trans rfl; have hcz61_5 : w58.cell? ⟨Z9, 5, none⟩ = some (.slice A1_5 l1_5.length c1_5) := (zO Z1.out 5).trans rfl; have hfz61_0 := yE Z1.out 0; have hfz61_1 := yE Z1.out 1; have hfz61_2 := yE Z1.out 2; have hfz61_3 := yE Z1.out 3; have hfz61_4 := yE Z1.out 4; have hfz61_5 := yE Z1.out 5) | ((with_reducible refine gate_callee (f := 19) rfl ?_); refine goesL_ (some 19) rfl rfl Try.func19 (by kernel_rfl) rfl #[.slice A0_0 l0_0.length c0_0, .slice A0_1 l0_1.length c0_1, .agg #[.int .i64 a1_0, .int .i64 a1_1, .int .i64 a1_2, .int .i64 a1_3, .int .i64 a1_4, .slice A1_5 l1_5.length c1_5]] rfl (by (try simp only [yH, yI, yJ]); first | done | rfl | (simp only [yG, yF]; rfl)) ?_; (with_reducible refine (dist_Weights.calls k _ _ l0_0 _ _ l0_1 a1_0 a1_1 a1_2 a1_3 a1_4 _ _ l1_5 t427 t430 _ ?side1 ?side2 ?side3 ?side4 ?side5 ?side6 A5.out).mono ?_); (case side1 => repeat (first | exact (yc HR0_0.out HB.out) | (with_reducible refine yS ?_ _) | (with_reducible refine yT ?_ _) | (with_reducible refine yU ?_))); (case side2 => exact HC0_0.out); (case side3 => repeat (first | exact (yc HR0_1.out HB.out) | (with_reducible refine yS ?_ _) | (with_reducible refine yT ?_ _) | (with_reducible refine yU ?_))); (case side4 => exact HC0_1.out); (case side5 => repeat (first | exact (yc HR1_5.out HB.out) | (with_reducible refine yS ?_ _) | (with_reducible refine yT ?_ _) | (with_reducible refine yU ?_))); (case side6 => exact HC1_5.out); rintro e w62 ⟨v428, rfl, ho0, hb⟩; refine ⟨_, rfl, ?_⟩; have n0_ := zK (Kd.R_lower ho0 (yK (by repeat (first | (with_reducible first | exact HB.out | apply zJ | apply zD | apply zE | refine zI ?_ Z2.out | refine zI ?_ Z3.out) | exact HB.out)))); have n1_ := zK (zP (g := Z8) (o := .cells #[.slice A0_0 l0_0.length c0_0, .slice A0_1 l0_1.length c0_1] 39 (0, 0)) (by (with_reducible repeat (first | refine zF ?_ _ | refine zH ?_ | refine zG ?_ _)); exact Z0.out) hb); have n2_ := zK (zP (g := Z9) (o := .cells #[.int .i64 a1_0, .int .i64 a1_1, .int .i64 a1_2, .int .i64 a1_3, .int .i64 a1_4, .slice A1_5 l1_5.length c1_5] 24 (0, 0)) (by (with_reducible repeat (first | refine zF ?_ _ | refine zH ?_ | refine zG ?_ _)); exact Z1.out) hb); have n3_ := zK (yL (by repeat (first | (with_reducible first | exact HB.out | apply zJ | apply zD | apply zE | refine zI ?_ Z2.out | refine zI ?_ Z3.out) | exact HB.out)) hb); clear Z0 Z1 HB; have HO429 := n0_; have Z0 := n1_; have Z1 := n2_; have HB := n3_; clear n0_ n1_ n2_ n3_; (try clear hb); (try clear hb2); (try clear hk); (try clear hi); (try clear ho0); have hcz63_0 : w62.cell? ⟨Z8, 0, none⟩ = some (.slice A0_0 l0_0.length c0_0) := (zO Z0.out 0).trans rfl; have hcz63_1 : w62.cell? ⟨Z8, 1, none⟩ = some (.slice A0_1 l0_1.length c0_1) := (zO Z0.out 1).trans rfl; have hfz63_0 := yE Z0.out 0; have hfz63_1 := yE Z0.out 1; have hcz64_0 : w62.cell? ⟨Z9, 0, none⟩ = some (.int .i64 a1_0) := (zO Z1.out 0).trans rfl; have hcz64_1 : w62.cell? ⟨Z9, 1, none⟩ = some (.int .i64 a1_1) := (zO Z1.out 1).trans rfl; have hcz64_2 : w62.cell? ⟨Z9, 2, none⟩ = some (.int .i64 a1_2) := (zO Z1.out 2).trans rfl; have hcz64_3 : w62.cell? ⟨Z9, 3, none⟩ = some (.int .i64 a1_3) := (zO Z1.out 3).trans rfl; have hcz64_4 : w62.cell? ⟨Z9, 4, none⟩ = some (.int .i64 a1_4) := (zO Z1.out 4).trans rfl; have hcz64_5 : w62.cell? ⟨Z9, 5, none⟩ = some (.slice A1_5 l1_5.length c1_5) := (zO Z1.out 5).trans rfl; have hfz64_0 := yE Z1.out 0; have hfz64_1 := yE Z1.out 1; have hfz64_2 := yE Z1.out 2; have hfz64_3 := yE Z1.out 3; have hfz64_4 := yE Z1.out 4; have hfz64_5 := yE Z1.out 5) | ((with_reducible refine gate_callee (f := 22) rfl ?_); refine goesL_ (some 24) rfl rfl Try.func22 (by kernel_rfl) rfl #[.agg #[.slice A0_0 l0_0.length c0_0, .slice A0_1 l0_1.length c0_1], .agg #[.int .i64 a1_0, .int .i64 a1_1, .int .i64 a1_2, .int .i64 a1_3, .int .i64 a1_4, .slice A1_5 l1_5.length c1_5]] rfl (by (try simp only [yH, yI, yJ]); first | done | rfl | (simp only [yG, yF]; rfl)) ?_; (with_reducible refine (w22_right.calls k _ _ l0_0 _ _ l0_1 a1_0 a1_1 a1_2 a1_3 a1_4 _ _ l1_5 false _ ?side1 ?side2 ?side3 ?side4 ?side5 ?side6 A6.out).mono ?_); (case side1 => repeat (first | exact (yc HR0_0.out HB.out) | (with_reducible refine yS ?_ _) | (with_reducible refine yT ?_ _) | (with_reducible refine yU ?_))); (case side2 => exact HC0_0.out); (case side3 => repeat (first | exact (yc HR0_1.out HB.out) | (with_reducible refine yS ?_ _) | (with_reducible refine yT ?_ _) | (with_reducible refine yU ?_))); (case side4 => exact HC0_1.out); (case side5 => repeat (first | exact (yc HR1_5.out HB.out) | (with_reducible refine yS ?_ _) | (with_reducible refine yT ?_ _) | (with_reducible refine yU ?_))); (case side6 => exact HC1_5.out); rintro e w65 ⟨rfl, hb⟩; refine ⟨_, rfl, ?_⟩; have n0_ := zK (yb (by (with_reducible repeat (first | apply zL | apply zM | apply zN)); exact HO429.out) hb); have n1_ := zK (zP (g := Z8) (o := .cells #[.slice A0_0 l0_0.length c0_0, .slice A0_1 l0_1.length c0_1] 39 (0, 0)) (by (with_reducible repeat (first | refine zF ?_ _ | refine zH ?_ | refine zG ?_ _)); exact Z0.out) hb); have n2_ := zK (zP (g := Z9) (o := .cells #[.int .i64 a1_0, .int .i64 a1_1, .int .i64 a1_2, .int .i64 a1_3, .int .i64 a1_4, .slice A1_5 l1_5.length c1_5] 24 (0, 0)) (by (with_reducible repeat (first | refine zF ?_ _ | refine zH ?_ | refine zG ?_ _)); exact Z1.out) hb); have n3_ := zK (yL (by repeat (first | (with_reducible first | exact HB.out | apply zJ | apply zD | apply zE | refine zI ?_ Z2.out | refine zI ?_ Z3.out) | exact HB.out)) hb); clear HO429 Z0 Z1 HB; have HO429 := n0_; have Z0 := n1_; have Z1 := n2_; have HB := n3_; clear n0_ n1_ n2_ n3_; (try clear hb); (try clear hb2); (try clear hk); (try clear hi)))
     go_ret
     exact ⟨by first | rfl | (simp [errW_none, errW_some] <;> rfl) | (simp [*, errW_none, errW_some] <;> rfl), by repeat (first | (with_reducible first | exact HB.out | apply zJ | apply zD | apply zE | refine zI ?_ Z2.out | refine zI ?_ Z3.out) | exact HB.out)⟩
    ·rw [if_neg c55] at H
     have c55b0 : (t430 == 0) = false := beq_eq_false_iff_ne.mpr c55
     have c55b1 : (t430 != 0) = true := bne_iff_ne.mpr c55
     obtain rfl := yY H
     go_enter Try.func5, Try.ntmps5
     go_wp2_with (first | ((with_reducible refine gate_dst (N := 2) rfl ?_); refine box_event ?hg (N := 2) ?hd (cs := #[.slice A0_0 l0_0.length c0_0, .slice A0_1 l0_1.length c0_1]) (t := 39) ?hr ?_; (case hd => rfl); (case hg => rfl); (case hr => first | (go_simp; done) | (go_simp; rfl)); intro Z8 hg w66 hbox hb; have n0_ := zK (yL (by repeat (first | (with_reducible first | exact HB.out | apply zJ | apply zD | apply zE) | exact HB.out)) hb); have n1_ := zK (hbox); have n2_ := zK ((by rw [hg]; exact (yK (by repeat (first | (with_reducible first | exact HB.out | apply zJ | apply zD | apply zE) | exact HB.out))) : w.heap.size ≤ Z8)); have n3_ := zK ((by rw [hg]; exact (yK (by repeat (first | (with_reducible first | exact HB.out | apply zJ | apply zD | apply zE) | exact HB.out))) : w.heap.size ≤ Z8)); clear HB; have HB := n0_; have Z0 := n1_; have Z4 := n2_; have Z2 := n3_; clear n0_ n1_ n2_ n3_ hb hbox hg) | ((with_reducible refine gate_dst (N := 3) rfl ?_); refine box_event ?hg (N := 3) ?hd (cs := #[.int .i64 a1_0, .int .i64 a1_1, .int .i64 a1_2, .int .i64 a1_3, .int .i64 a1_4, .slice A1_5 l1_5.length c1_5]) (t := 24) ?hr ?_; (case hd => rfl); (case hg => rfl); (case hr => first | (go_simp; done) | (go_simp; rfl)); intro Z9 hg w67 hbox hb; have n0_ := zK (zP (g := Z8) (o := .cells #[.slice A0_0 l0_0.length c0_0, .slice A0_1 l0_1.length c0_1] 39 (0, 0)) (by (with_reducible repeat (first | refine zF ?_ _ | refine zH ?_ | refine zG ?_ _)); exact Z0.out) hb); have n1_ := zK (yL (by repeat (first | (with_reducible first | exact HB.out | apply zJ | apply zD | apply zE | refine zI ?_ Z2.out) | exact HB.out)) hb); have n2_ := zK (hbox); have n3_ := zK ((by rw [hg]; exact (yK (by repeat (first | (with_reducible first | exact HB.out | apply zJ | apply zD | apply zE | refine zI ?_ Z2.out) | exact HB.out))) : w.heap.size ≤ Z9)); have n4_ := zK ((by rw [hg]; exact (yK (by repeat (first | (with_reducible first | exact HB.out | apply zJ | apply zD | apply zE | refine zI ?_ Z2.out) | exact HB.out))) : w.heap.size ≤ Z9)); have n5_ := zK ((by rw [hg]; exact ym (yo (g := Z8) (o := .cells #[.slice A0_0 l0_0.length c0_0, .slice A0_1 l0_1.length c0_1] 39 (0, 0)) (by (with_reducible repeat (first | refine zF ?_ _ | refine zH ?_ | refine zG ?_ _)); exact Z0.out)) : Z8 ≠ Z9)); have n6_ := zK ((by rw [hg]; exact yn (yo (g := Z8) (o := .cells #[.slice A0_0 l0_0.length c0_0, .slice A0_1 l0_1.length c0_1] 39 (0, 0)) (by (with_reducible repeat (first | refine zF ?_ _ | refine zH ?_ | refine zG ?_ _)); exact Z0.out)) : Z9 ≠ Z8)); clear Z0 HB; have Z0 := n0_; have HB := n1_; have Z1 := n2_; have Z5 := n3_; have Z3 := n4_; have Z6 := n5_; have Z7 := n6_; clear n0_ n1_ n2_ n3_ n4_ n5_ n6_ hb hbox hg) | ((with_reducible refine gate_callee (f := 13) rfl ?_); refine goesL_ (some 11) rfl rfl Try.func13 (by kernel_rfl) rfl #[] rfl (by (try simp only [yH, yI, yJ]); first | done | rfl | (simp only [yG, yF]; rfl)) ?_; (with_reducible refine (w22_awake.calls k  true _ A3.out).mono ?_); rintro e w68 ⟨rfl, hb⟩; refine ⟨_, rfl, ?_⟩; have n0_ := zK (zP (g := Z8) (o := .cells #[.slice A0_0 l0_0.length c0_0, .slice A0_1 l0_1.length c0_1] 39 (0, 0)) (by (with_reducible repeat (first | refine zF ?_ _ | refine zH ?_ | refine zG ?_ _)); exact Z0.out) hb); have n1_ := zK (zP (g := Z9) (o := .cells #[.int .i64 a1_0, .int .i64 a1_1, .int .i64 a1_2, .int .i64 a1_3, .int .i64 a1_4, .slice A1_5 l1_5.length c1_5] 24 (0, 0)) (by (with_reducible repeat (first | refine zF ?_ _ | refine zH ?_ | refine zG ?_ _)); exact Z1.out) hb); have n2_ := zK (yL (by repeat (first | (with_reducible first | exact HB.out | apply zJ | apply zD | apply zE | refine zI ?_ Z2.out | refine zI ?_ Z3.out) | exact HB.out)) hb); clear Z0 Z1 HB; have Z0 := n0_; have Z1 := n1_; have HB := n2_; clear n0_ n1_ n2_; (try clear hb); (try clear hb2); (try clear hk); (try clear hi); have hnb69 := Z6.out; have hnc69 := Z7.out; have hcz70_0 : w68.cell? ⟨Z8, 0, none⟩ = some (.slice A0_0 l0_0.length c0_0) := (zO Z0.out 0).trans rfl; have hcz70_1 : w68.cell? ⟨Z8, 1, none⟩ = some (.slice A0_1 l0_1.length c0_1) := (zO Z0.out 1).trans rfl; have hfz70_0 := yE Z0.out 0; have hfz70_1 := yE Z0.out 1; have hcz71_0 : w68.cell? ⟨Z9, 0, none⟩ = some (.int .i64 a1_0) := (zO Z1.out 0).trans rfl; have hcz71_1 : w68.cell? ⟨Z9, 1, none⟩ = some (.int .i64 a1_1) := (zO Z1.out 1).trans rfl; have hcz71_2 : w68.cell? ⟨Z9, 2, none⟩ = some (.int .i64 a1_2) := (zO Z1.out 2).trans rfl; have hcz71_3 : w68.cell? ⟨Z9, 3, none⟩ = some (.int .i64 a1_3) := (zO Z1.out 3).trans rfl; have hcz71_4 : w68.cell? ⟨Z9, 4, none⟩ = some (.int .i64 a1_4) := (zO Z1.out 4).trans rfl; have hcz71_5 : w68.cell? ⟨Z9, 5, none⟩ = some (.slice A1_5 l1_5.length c1_5) := (zO Z1.out 5).trans rfl; have hfz71_0 := yE Z1.out 0; have hfz71_1 := yE Z1.out 1; have hfz71_2 := yE Z1.out 2; have hfz71_3 := yE Z1.out 3; have hfz71_4 := yE Z1.out 4; have hfz71_5 := yE Z1.out 5) | ((with_reducible refine gate_callee (f := 19) rfl ?_); refine goesL_ (some 19) rfl rfl Try.func19 (by kernel_rfl) rfl #[.slice A0_0 l0_0.length c0_0, .slice A0_1 l0_1.length c0_1, .agg #[.int .i64 a1_0, .int .i64 a1_1, .int .i64 a1_2, .int .i64 a1_3, .int .i64 a1_4, .slice A1_5 l1_5.length c1_5]] rfl (by (try simp only [yH, yI, yJ]); first | done | rfl | (simp only [yG, yF]; rfl)) ?_; (with_reducible refine (dist_Weights.calls k _ _ l0_0 _ _ l0_1 a1_0 a1_1 a1_2 a1_3 a1_4 _ _ l1_5 t427 t430 _ ?side1 ?side2 ?side3 ?side4 ?side5 ?side6 A5.out).mono ?_); (case side1 => repeat (first | exact (yc HR0_0.out HB.out) | (with_reducible refine yS ?_ _) | (with_reducible refine yT ?_ _) | (with_reducible refine yU ?_))); (case side2 => exact HC0_0.out); (case side3 => repeat (first | exact (yc HR0_1.out HB.out) | (with_reducible refine yS ?_ _) | (with_reducible refine yT ?_ _) | (with_reducible refine yU ?_))); (case side4 => exact HC0_1.out); (case side5 => repeat (first | exact (yc HR1_5.out HB.out) | (with_reducible refine yS ?_ _) | (with_reducible refine yT ?_ _) | (with_reducible refine yU ?_))); (case side6 => exact HC1_5.out); rintro e w72 ⟨v428, rfl, ho0, hb⟩; refine ⟨_, rfl, ?_⟩; have n0_ := zK (Kd.R_lower ho0 (yK (by repeat (first | (with_reducible first | exact HB.out | apply zJ | apply zD | apply zE | refine zI ?_ Z2.out | refine zI ?_ Z3.out) | exact HB.out)))); have n1_ := zK (zP (g := Z8) (o := .cells #[.slice A0_0 l0_0.length c0_0, .slice A0_1 l0_1.length c0_1] 39 (0, 0)) (by (with_reducible repeat (first | refine zF ?_ _ | refine zH ?_ | refine zG ?_ _)); exact Z0.out) hb); have n2_ := zK (zP (g := Z9) (o := .cells #[.int .i64 a1_0, .int .i64 a1_1, .int .i64 a1_2, .int .i64 a1_3, .int .i64 a1_4, .slice A1_5 l1_5.length c1_5] 24 (0, 0)) (by (with_reducible repeat (first | refine zF ?_ _ | refine zH ?_ | refine zG ?_ _)); exact Z1.out) hb); have n3_ := zK (yL (by repeat (first | (with_reducible first | exact HB.out | apply zJ | apply zD | apply zE | refine zI ?_ Z2.out | refine zI ?_ Z3.out) | exact HB.out)) hb); clear Z0 Z1 HB; have HO429 := n0_; have Z0 := n1_; have Z1 := n2_; have HB := n3_; clear n0_ n1_ n2_ n3_; (try clear hb); (try clear hb2); (try clear hk); (try clear hi); (try clear ho0); have hcz73_0 : w72.cell? ⟨Z8, 0, none⟩ = some (.slice A0_0 l0_0.length c0_0) := (zO Z0.out 0).trans rfl; have hcz73_1 : w72.cell? ⟨Z8, 1, none⟩ = some (.slice A0_1 l0_1.length c0_1) := (zO Z0.out 1).trans rfl; have hfz73_0 := yE Z0.out 0; have hfz73_1 := yE Z0.out 1; have hcz74_0 : w72.cell? ⟨Z9, 0, none⟩ = some (.int .i64 a1_0) := (zO Z1.out 0).trans rfl; have hcz74_1 : w72.cell? ⟨Z9, 1, none⟩ = some (.int .i64 a1_1) := (zO Z1.out 1).trans rfl; have hcz74_2 : w72.cell? ⟨Z9, 2, none⟩ = some (.int .i64 a1_2) := (zO Z1.out 2).trans rfl; have hcz74_3 : w72.cell? ⟨Z9, 3, none⟩ = some (.int .i64 a1_3) := (zO Z1.out 3).trans rfl; have hcz74_4 : w72.cell? ⟨Z9, 4, none⟩ = some (.int .i64 a1_4) := (zO Z1.out 4).trans rfl; have hcz74_5 : w72.cell? ⟨Z9, 5, none⟩ = some (.slice A1_5 l1_5.length c1_5) := (zO Z1.out 5).trans rfl; have hfz74_0 := yE Z1.out 0; have hfz74_1 := yE Z1.out 1; have hfz74_2 := yE Z1.out 2; have hfz74_3 := yE Z1.out 3; have hfz74_4 := yE Z1.out 4; have hfz74_5 := yE Z1.out 5) | ((with_reducible refine gate_callee (f := 22) rfl ?_); refine goesL_ (some 24) rfl rfl Try.func22 (by kernel_rfl) rfl #[.agg #[.slice A0_0 l0_0.length c0_0, .slice A0_1 l0_1.length c0_1], .agg #[.int .i64 a1_0, .int .i64 a1_1, .int .i64 a1_2, .int .i64 a1_3, .int .i64 a1_4, .slice A1_5 l1_5.length c1_5]] rfl (by (try simp only [yH, yI, yJ]); first | done | rfl | (simp only [yG, yF]; rfl)) ?_; (with_reducible refine (w22_right.calls k _ _ l0_0 _ _ l0_1 a1_0 a1_1 a1_2 a1_3 a1_4 _ _ l1_5 false _ ?side1 ?side2 ?side3 ?side4 ?side5 ?side6 A6.out).mono ?_); (case side1 => repeat (first | exact (yc HR0_0.out HB.out) | (with_reducible refine yS ?_ _) | (with_reducible refine yT ?_ _) | (with_reducible refine yU ?_))); (case side2 => exact HC0_0.out); (case side3 => repeat (first | exact (yc HR0_1.out HB.out) | (with_reducible refine yS ?_ _) | (with_reducible refine yT ?_ _) | (with_reducible refine yU ?_))); (case side4 => exact HC0_1.out); (case side5 => repeat (first | exact (yc HR1_5.out HB.out) | (with_reducible refine yS ?_ _) | (with_reducible refine yT ?_ _) | (with_reducible refine yU ?_))); (case side6 => exact HC1_5.out); rintro e w75 ⟨rfl, hb⟩; refine ⟨_, rfl, ?_⟩; have n0_ := zK (yb (by (with_reducible repeat (first | apply zL | apply zM | apply zN)); exact HO429.out) hb); have n1_ := zK (zP (g := Z8) (o := .cells #[.slice A0_0 l0_0.length c0_0, .slice A0_1 l0_1.length c0_1] 39 (0, 0)) (by (with_reducible repeat (first | refine zF ?_ _ | refine zH ?_ | refine zG ?_ _)); exact Z0.out) hb); have n2_ := zK (zP (g := Z9) (o := .cells #[.int .i64 a1_0, .int .i64 a1_1, .int .i64 a1_2, .int .i64 a1_3, .int .i64 a1_4, .slice A1_5 l1_5.length c1_5] 24 (0, 0)) (by (with_reducible repeat (first | refine zF ?_ _ | refine zH ?_ | refine zG ?_ _)); exact Z1.out) hb); have n3_ := zK (yL (by repeat (first | (with_reducible first | exact HB.out | apply zJ | apply zD | apply zE | refine zI ?_ Z2.out | refine zI ?_ Z3.out) | exact HB.out)) hb); clear HO429 Z0 Z1 HB; have HO429 := n0_; have Z0 := n1_; have Z1 := n2_; have HB := n3_; clear n0_ n1_ n2_ n3_; (try clear hb); (try clear hb2); (try clear hk); (try clear hi); obtain ⟨Ao76, co76, eo76⟩ := Kd.R_slice HO429.out; subst eo76))
     go_ret
     exact ⟨by first | rfl | (simp [errW_none, errW_some] <;> rfl) | (simp [*, errW_none, errW_some] <;> rfl), by repeat (first | (with_reducible first | exact HB.out | apply zJ | apply zD | apply zE | refine zI ?_ Z2.out | refine zI ?_ Z3.out) | exact HB.out)⟩
  ·replace c4 := yh.mpr c4
   subst c4
   have H1 : (some false) = some r := by rw [if_neg (show ¬ (false = true) by decide)] at H; exact H
   clear H
   have H := H1
   clear H1
   obtain rfl := yY H
   go_enter Try.func5, Try.ntmps5
   go_wp2_with (first | ((with_reducible refine gate_dst (N := 2) rfl ?_); refine box_event ?hg (N := 2) ?hd (cs := #[.slice A0_0 l0_0.length c0_0, .slice A0_1 l0_1.length c0_1]) (t := 39) ?hr ?_; (case hd => rfl); (case hg => rfl); (case hr => first | (go_simp; done) | (go_simp; rfl)); intro Z8 hg w77 hbox hb; have n0_ := zK (yL (by repeat (first | (with_reducible first | exact HB.out | apply zJ | apply zD | apply zE) | exact HB.out)) hb); have n1_ := zK (hbox); have n2_ := zK ((by rw [hg]; exact (yK (by repeat (first | (with_reducible first | exact HB.out | apply zJ | apply zD | apply zE) | exact HB.out))) : w.heap.size ≤ Z8)); have n3_ := zK ((by rw [hg]; exact (yK (by repeat (first | (with_reducible first | exact HB.out | apply zJ | apply zD | apply zE) | exact HB.out))) : w.heap.size ≤ Z8)); clear HB; have HB := n0_; have Z0 := n1_; have Z4 := n2_; have Z2 := n3_; clear n0_ n1_ n2_ n3_ hb hbox hg) | ((with_reducible refine gate_dst (N := 3) rfl ?_); refine box_event ?hg (N := 3) ?hd (cs := #[.int .i64 a1_0, .int .i64 a1_1, .int .i64 a1_2, .int .i64 a1_3, .int .i64 a1_4, .slice A1_5 l1_5.length c1_5]) (t := 24) ?hr ?_; (case hd => rfl); (case hg => rfl); (case hr => first | (go_simp; done) | (go_simp; rfl)); intro Z9 hg w78 hbox hb; have n0_ := zK (zP (g := Z8) (o := .cells #[.slice A0_0 l0_0.length c0_0, .slice A0_1 l0_1.length c0_1] 39 (0, 0)) (by (with_reducible repeat (first | refine zF ?_ _ | refine zH ?_ | refine zG ?_ _)); exact Z0.out) hb); have n1_ := zK (yL (by repeat (first | (with_reducible first | exact HB.out | apply zJ | apply zD | apply zE | refine zI ?_ Z2.out) | exact HB.out)) hb); have n2_ := zK (hbox); have n3_ := zK ((by rw [hg]; exact (yK (by repeat (first | (with_reducible first | exact HB.out | apply zJ | apply zD | apply zE | refine zI ?_ Z2.out) | exact HB.out))) : w.heap.size ≤ Z9)); have n4_ := zK ((by rw [hg]; exact (yK (by repeat (first | (with_reducible first | exact HB.out | apply zJ | apply zD | apply zE | refine zI ?_ Z2.out) | exact HB.out))) : w.heap.size ≤ Z9)); have n5_ := zK ((by rw [hg]; exact ym (yo (g := Z8) (o := .cells #[.slice A0_0 l0_0.length c0_0, .slice A0_1 l0_1.length c0_1] 39 (0, 0)) (by (with_reducible repeat (first | refine zF ?_ _ | refine zH ?_ | refine zG ?_ _)); exact Z0.out)) : Z8 ≠ Z9)); have n6_ := zK ((by rw [hg]; exact yn (yo (g := Z8) (o := .cells #[.slice A0_0 l0_0.length c0_0, .slice A0_1 l0_1.length c0_1] 39 (0, 0)) (by (with_reducible repeat (first | refine zF ?_ _ | refine zH ?_ | refine zG ?_ _)); exact Z0.out)) : Z9 ≠ Z8)); clear Z0 HB; have Z0 := n0_; have HB := n1_; have Z1 := n2_; have Z5 := n3_; have Z3 := n4_; have Z6 := n5_; have Z7 := n6_; clear n0_ n1_ n2_ n3_ n4_ n5_ n6_ hb hbox hg) | ((with_reducible refine gate_callee (f := 13) rfl ?_); refine goesL_ (some 11) rfl rfl Try.func13 (by kernel_rfl) rfl #[] rfl (by (try simp only [yH, yI, yJ]); first | done | rfl | (simp only [yG, yF]; rfl)) ?_; (with_reducible refine (w22_awake.calls k  false _ A3.out).mono ?_); rintro e w79 ⟨rfl, hb⟩; refine ⟨_, rfl, ?_⟩; have n0_ := zK (zP (g := Z8) (o := .cells #[.slice A0_0 l0_0.length c0_0, .slice A0_1 l0_1.length c0_1] 39 (0, 0)) (by (with_reducible repeat (first | refine zF ?_ _ | refine zH ?_ | refine zG ?_ _)); exact Z0.out) hb); have n1_ := zK (zP (g := Z9) (o := .cells #[.int .i64 a1_0, .int .i64 a1_1, .int .i64 a1_2, .int .i64 a1_3, .int .i64 a1_4, .slice A1_5 l1_5.length c1_5] 24 (0, 0)) (by (with_reducible repeat (first | refine zF ?_ _ | refine zH ?_ | refine zG ?_ _)); exact Z1.out) hb); have n2_ := zK (yL (by repeat (first | (with_reducible first | exact HB.out | apply zJ | apply zD | apply zE | refine zI ?_ Z2.out | refine zI ?_ Z3.out) | exact HB.out)) hb); clear Z0 Z1 HB; have Z0 := n0_; have Z1 := n1_; have HB := n2_; clear n0_ n1_ n2_; (try clear hb); (try clear hb2); (try clear hk); (try clear hi)))
   go_ret
   exact ⟨by first | rfl | (simp [errW_none, errW_some] <;> rfl) | (simp [*, errW_none, errW_some] <;> rfl), by repeat (first | (with_reducible first | exact HB.out | apply zJ | apply zD | apply zE | refine zI ?_ Z2.out | refine zI ?_ Z3.out) | exact HB.out)⟩

end Go.Proofs.Ythmckhfjaleomaa.T
