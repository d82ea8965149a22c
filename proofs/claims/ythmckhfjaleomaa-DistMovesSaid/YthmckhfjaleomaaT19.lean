-- Printed by this session's own driver (wip/tools/xprint.py) over the kit's printer; given functions are this session's own.
import Derived.Test.YthmckhfjaleomaaT0
import Derived.Test.YthmckhfjaleomaaT5
import Derived.Test.YthmckhfjaleomaaT6
import Derived.Test.YthmckhfjaleomaaT14
import Derived.Test.YthmckhfjaleomaaT16
import Derived.Test.YthmckhfjaleomaaT18
namespace Go.Proofs.Ythmckhfjaleomaa.T
open Go.RowKit Go.Proofs.YthmckhfjaleomaaW.PrintWords Go.Proofs.YthmckhfjaleomaaW.PrintLast Go.Proofs.YthmckhfjaleomaaW.PrintMore
attribute [local go_sem] max2_int min2_int max_two min_two max_three min_three max_four min_four   -- for this text's walks alone
set_option linter.unusedVariables false
set_option linter.unusedSimpArgs false

/-! ### w22_DistMoves: function 6 -/
mutual
def w22_DistMoves.l0 : Nat → Int → List Int → Int → Int → List Int → List Bool → Int → Int → Int → Int → Int → List (S46) → List Int → List Bool → Option (Bool)
  | 0, _, _, _, _, _, _, _, _, _, _, _, _, _, _ => none
  | k + 1, x2, x22, x23, x24, Y0, Y1, Y2, Y3, Y4, Y5, Y6, Y7, Y8, Y9 => if x24 < x23 then (if 0 ≤ x24 then (if x24 < (x22.length : Int) then (if x2 > 2147483648 then (some true) else (if x2 < (-2147483648) then (some true) else (if Y8.length < 17592186044416 then (w22_DistMoves.l0 k x2 x22 x23 (wrap64 (x24 + 1)) Y0 Y1 Y2 Y3 Y4 Y5 Y6 Y7 (Y8 ++ [wrap64 ((rd x22 x24) + x2)]) Y9) else (none)))) else (none)) else (none)) else ((w22_right.f k Y0 Y1 Y2 Y3 Y4 Y5 Y6 Y7).bind fun t448 => (if t448 = true then ((w22_right.f k Y8 Y9 Y2 Y3 Y4 Y5 Y6 Y7).bind fun t449 => (w22_DistMoves.j1 k (!t449) Y0 Y1 Y2 Y3 Y4 Y5 Y6 Y7 Y8 Y9)) else (w22_DistMoves.j1 k true Y0 Y1 Y2 Y3 Y4 Y5 Y6 Y7 Y8 Y9)))
def w22_DistMoves.j1 : Nat → Bool → List Int → List Bool → Int → Int → Int → Int → Int → List (S46) → List Int → List Bool → Option (Bool)
  | 0, _, _, _, _, _, _, _, _, _, _, _ => none
  | k + 1, x52, Y0, Y1, Y2, Y3, Y4, Y5, Y6, Y7, Y8, Y9 => if x52 = true then (some true) else ((dist_Weights.f k Y0 Y1 Y2 Y3 Y4 Y5 Y6 Y7).bind fun bt450 => ((dist_Weights.f k Y8 Y9 Y2 Y3 Y4 Y5 Y6 Y7).bind fun bt454 => (if bt450.2 = 0 then (if bt454.2 = 0 then ((w22_same.f k bt454.1 bt450.1).bind fun t458 => (w22_DistMoves.j2 k bt450.1 (!t458) Y0 Y1 Y2 Y3 Y4 Y5 Y6 Y7)) else (w22_DistMoves.j2 k bt450.1 true Y0 Y1 Y2 Y3 Y4 Y5 Y6 Y7)) else (w22_DistMoves.j2 k bt450.1 true Y0 Y1 Y2 Y3 Y4 Y5 Y6 Y7))))
def w22_DistMoves.j2 : Nat → List Int → Bool → List Int → List Bool → Int → Int → Int → Int → Int → List (S46) → Option (Bool)
  | 0, _, _, _, _, _, _, _, _, _, _ => none
  | k + 1, x10, x82, Y0, Y1, Y2, Y3, Y4, Y5, Y6, Y7 => if x82 = true then (some false) else (w22_DistMoves.l1 k x10 (Y0.length : Int) 0 Y0 Y1 Y2 Y3 Y4 Y5 Y6 Y7 ([] : List Int) Y1)
def w22_DistMoves.l1 : Nat → List Int → Int → Int → List Int → List Bool → Int → Int → Int → Int → Int → List (S46) → List Int → List Bool → Option (Bool)
  | 0, _, _, _, _, _, _, _, _, _, _, _, _, _ => none
  | k + 1, x10, x88, x89, Y0, Y1, Y2, Y3, Y4, Y5, Y6, Y7, Y10, Y11 => if x89 < x88 then ((w22_score.f k Y0 Y1 Y2 Y3 Y4 Y5 Y6 Y7 x89).bind fun t460 => (if Y10.length < 17592186044416 then (w22_DistMoves.l1 k x10 x88 (wrap64 (x89 + 1)) Y0 Y1 Y2 Y3 Y4 Y5 Y6 Y7 (Y10 ++ [t460]) Y11) else (none))) else ((w22_right.f k Y10 Y11 Y2 Y3 Y4 Y5 Y6 ([] : List (S46))).bind fun t464 => (if t464 = true then ((dist_Weights.f k Y10 Y11 Y2 Y3 Y4 Y5 Y6 ([] : List (S46))).bind fun bt465 => (if bt465.2 = 0 then ((w22_same.f k bt465.1 x10).bind fun t469 => (some t469)) else (some false))) else (some true)))
end
def w22_DistMoves.f (k : Nat) (l0_0 : List Int) (l0_1 : List Bool) (a1_0 : Int) (a1_1 : Int) (a1_2 : Int) (a1_3 : Int) (a1_4 : Int) (l1_5 : List (S46)) (a2 : Int) : Option (Bool) := (w22_awake.f k).bind fun t442 => (if t442 = true then (w22_DistMoves.l0 k a2 l0_0 (l0_0.length : Int) 0 l0_0 l0_1 a1_0 a1_1 a1_2 a1_3 a1_4 l1_5 ([] : List Int) l0_1) else (some false))
theorem w22_DistMoves.mono_l : ∀ k, (∀ y0 y1 y2 y3 y4 y5 y6 y7 y8 y9 y10 y11 y12 y13, LeO (w22_DistMoves.l0 k y0 y1 y2 y3 y4 y5 y6 y7 y8 y9 y10 y11 y12 y13) (w22_DistMoves.l0 (k + 1) y0 y1 y2 y3 y4 y5 y6 y7 y8 y9 y10 y11 y12 y13)) ∧ (∀ y0 y1 y2 y3 y4 y5 y6 y7 y8 y9 y10, LeO (w22_DistMoves.j1 k y0 y1 y2 y3 y4 y5 y6 y7 y8 y9 y10) (w22_DistMoves.j1 (k + 1) y0 y1 y2 y3 y4 y5 y6 y7 y8 y9 y10)) ∧ (∀ y0 y1 y2 y3 y4 y5 y6 y7 y8 y9, LeO (w22_DistMoves.j2 k y0 y1 y2 y3 y4 y5 y6 y7 y8 y9) (w22_DistMoves.j2 (k + 1) y0 y1 y2 y3 y4 y5 y6 y7 y8 y9)) ∧ (∀ y0 y1 y2 y3 y4 y5 y6 y7 y8 y9 y10 y11 y12, LeO (w22_DistMoves.l1 k y0 y1 y2 y3 y4 y5 y6 y7 y8 y9 y10 y11 y12) (w22_DistMoves.l1 (k + 1) y0 y1 y2 y3 y4 y5 y6 y7 y8 y9 y10 y11 y12))
  | 0 => ⟨fun _ _ _ _ _ _ _ _ _ _ _ _ _ _ r h => by simp [w22_DistMoves.l0] at h, fun _ _ _ _ _ _ _ _ _ _ _ r h => by simp [w22_DistMoves.j1] at h, fun _ _ _ _ _ _ _ _ _ _ r h => by simp [w22_DistMoves.j2] at h, fun _ _ _ _ _ _ _ _ _ _ _ _ _ r h => by simp [w22_DistMoves.l1] at h⟩
  | k + 1 => by
    obtain ⟨ih0, ih1, ih2, ih3⟩ := w22_DistMoves.mono_l k
    refine ⟨?_, ?_, ?_, ?_⟩ <;> (intros; first | unfold w22_DistMoves.l0 | unfold w22_DistMoves.j1 | unfold w22_DistMoves.j2 | unfold w22_DistMoves.l1)
    all_goals repeat' first
      | (with_reducible exact ih0 _ _ _ _ _ _ _ _ _ _ _ _ _ _)
      | (with_reducible exact ih1 _ _ _ _ _ _ _ _ _ _ _)
      | (with_reducible exact ih2 _ _ _ _ _ _ _ _ _ _)
      | (with_reducible exact ih3 _ _ _ _ _ _ _ _ _ _ _ _ _)
      | (with_reducible exact dist_Weights.mono _ _ _ _ _ _ _ _ _)
      | (with_reducible exact w22_awake.mono _)
      | (with_reducible exact w22_right.mono _ _ _ _ _ _ _ _ _)
      | (with_reducible exact w22_same.mono _ _ _)
      | (with_reducible exact w22_score.mono _ _ _ _ _ _ _ _ _ _)
      | (with_reducible exact yR _)
      | (with_reducible exact yO _)
      | (with_reducible refine yQ ?_ ?_)
      | (with_reducible refine yP ?_ (fun _ => ?_))
      | exact ih0 _ _ _ _ _ _ _ _ _ _ _ _ _ _
      | exact ih1 _ _ _ _ _ _ _ _ _ _ _
      | exact ih2 _ _ _ _ _ _ _ _ _ _
      | exact ih3 _ _ _ _ _ _ _ _ _ _ _ _ _
      | exact dist_Weights.mono _ _ _ _ _ _ _ _ _
      | exact w22_awake.mono _
      | exact w22_right.mono _ _ _ _ _ _ _ _ _
      | exact w22_same.mono _ _ _
      | exact w22_score.mono _ _ _ _ _ _ _ _ _ _
      | exact yO _
      | refine yQ ?_ ?_
      | refine yP ?_ (fun _ => ?_)
theorem w22_DistMoves.mono : ∀ a0 a1 a2 a3 a4 a5 a6 a7 a8 k, LeO (w22_DistMoves.f k a0 a1 a2 a3 a4 a5 a6 a7 a8) (w22_DistMoves.f (k + 1) a0 a1 a2 a3 a4 a5 a6 a7 a8) := by
  intro a0 a1 a2 a3 a4 a5 a6 a7 a8 k
  obtain ⟨ih0, ih1, ih2, ih3⟩ := w22_DistMoves.mono_l k
  unfold w22_DistMoves.f
  repeat' first
      | (with_reducible exact ih0 _ _ _ _ _ _ _ _ _ _ _ _ _ _)
      | (with_reducible exact ih1 _ _ _ _ _ _ _ _ _ _ _)
      | (with_reducible exact ih2 _ _ _ _ _ _ _ _ _ _)
      | (with_reducible exact ih3 _ _ _ _ _ _ _ _ _ _ _ _ _)
      | (with_reducible exact dist_Weights.mono _ _ _ _ _ _ _ _ _)
      | (with_reducible exact w22_awake.mono _)
      | (with_reducible exact w22_right.mono _ _ _ _ _ _ _ _ _)
      | (with_reducible exact w22_same.mono _ _ _)
      | (with_reducible exact w22_score.mono _ _ _ _ _ _ _ _ _ _)
      | (with_reducible exact yR _)
      | (with_reducible exact yO _)
      | (with_reducible refine yQ ?_ ?_)
      | (with_reducible refine yP ?_ (fun _ => ?_))
      | exact ih0 _ _ _ _ _ _ _ _ _ _ _ _ _ _
      | exact ih1 _ _ _ _ _ _ _ _ _ _ _
      | exact ih2 _ _ _ _ _ _ _ _ _ _
      | exact ih3 _ _ _ _ _ _ _ _ _ _ _ _ _
      | exact dist_Weights.mono _ _ _ _ _ _ _ _ _
      | exact w22_awake.mono _
      | exact w22_right.mono _ _ _ _ _ _ _ _ _
      | exact w22_same.mono _ _ _
      | exact w22_score.mono _ _ _ _ _ _ _ _ _ _
      | exact yO _
      | refine yQ ?_ ?_
      | refine yP ?_ (fun _ => ?_)
def w22_DistMoves.T21 : Bool × List (List Nat × List Nat) := (true, [([], []), ([0], [0]), ([], []), ([], []), ([], []), ([2, 3, 4], [2, 3, 4]), ([5], [5]), ([1, 6, 5], [1, 6]), ([0, 1, 2, 3, 4, 5, 6, 7], []), ([8, 7, 7, 0, 1, 2, 3, 4, 5, 6, 7], [7, 8])])
def w22_DistMoves.B21 : List Nat := [0, 1, 0, 0, 0, 28, 60, 127, 255, 511]
theorem w22_DistMoves.tab21 : rtab .any (opsOf Try.f6 21) = w22_DistMoves.T21 := by kernel_rfl
theorem w22_DistMoves.bits21 : waitsOk w22_DistMoves.T21.2 w22_DistMoves.B21 = true := by kernel_rfl
set_option maxHeartbeats 8000000 in
set_option maxRecDepth 100000 in
theorem w22_DistMoves.calls (k : Nat) (A0_0 : Option Addr) (c0_0 : Nat) (l0_0 : List Int) (A0_1 : Option Addr) (c0_1 : Nat) (l0_1 : List Bool) (a1_0 : Int) (a1_1 : Int) (a1_2 : Int) (a1_3 : Int) (a1_4 : Int) (A1_5 : Option Addr) (c1_5 : Nat) (l1_5 : List (S46)) (a2 : Int) (r : Bool) (w : World) (hr0_0 : Kd.C (Kd.int .i64) w A0_0 l0_0.length l0_0) (hc0_0 : l0_0.length ≤ c0_0) (hr0_1 : Kd.C Kd.bool w A0_1 l0_1.length l0_1) (hc0_1 : l0_1.length ≤ c0_1) (hr1_5 : Kd.C k46 w A1_5 l1_5.length l1_5) (hc1_5 : l1_5.length ≤ c1_5) (h : w22_DistMoves.f k l0_0 l0_1 a1_0 a1_1 a1_2 a1_3 a1_4 l1_5 a2 = some r) :
    Calls Try.prog 6 #[.agg #[.slice A0_0 l0_0.length c0_0, .slice A0_1 l0_1.length c0_1], .agg #[.int .i64 a1_0, .int .i64 a1_1, .int .i64 a1_2, .int .i64 a1_3, .int .i64 a1_4, .slice A1_5 l1_5.length c1_5], .int .i64 a2] w fun e w' => e = .returned (.bool r) ∧ Below w.heap.size w w' := by
  have hu39 := Try.underlying39
  have hu24 := Try.underlying24
  have HR0_0 := zK hr0_0
  have HC0_0 := zK hc0_0
  clear hr0_0 hc0_0
  have HR0_1 := zK hr0_1
  have HC0_1 := zK hc0_1
  clear hr0_1 hc0_1
  have HR1_5 := zK hr1_5
  have HC1_5 := zK hc1_5
  clear hr1_5 hc1_5
  have HB := zK (Below.refl w.heap.size w)
  have H : ((w22_awake.f k).bind fun t442 => (if t442 = true then (w22_DistMoves.l0 k a2 l0_0 (l0_0.length : Int) 0 l0_0 l0_1 a1_0 a1_1 a1_2 a1_3 a1_4 l1_5 ([] : List Int) l0_1) else (some false))) = some r := h
  clear h
  replace H := yA.mp H
  obtain ⟨t442, A40, H⟩ := H
  replace H : (if t442 = true then (w22_DistMoves.l0 k a2 l0_0 (l0_0.length : Int) 0 l0_0 l0_1 a1_0 a1_1 a1_2 a1_3 a1_4 l1_5 ([] : List Int) l0_1) else (some false)) = some r := H
  have A4 := zK A40
  clear A40
  by_cases c5 : t442 = true
  ·subst c5
   have H1 : (w22_DistMoves.l0 k a2 l0_0 (l0_0.length : Int) 0 l0_0 l0_1 a1_0 a1_1 a1_2 a1_3 a1_4 l1_5 ([] : List Int) l0_1) = some r := by rw [if_pos rfl] at H; exact H
   clear H
   have H := H1
   clear H1
   have H' := zK H
   clear H
   go_enter Try.func6, Try.ntmps6
   go_wp2_with (first | ((with_reducible refine gate_dst (N := 3) rfl ?_); refine box_event ?hg (N := 3) ?hd (cs := #[.slice A0_0 l0_0.length c0_0, .slice A0_1 l0_1.length c0_1]) (t := 39) ?hr ?_; (case hd => rfl); (case hg => rfl); (case hr => first | (go_simp; done) | (go_simp; rfl)); intro Z24 hg w6 hbox hb; have n0_ := zK (yL (by repeat (first | (with_reducible first | exact HB.out | apply zJ | apply zD | apply zE) | exact HB.out)) hb); have n1_ := zK (hbox); have n2_ := zK ((by rw [hg]; exact (yK (by repeat (first | (with_reducible first | exact HB.out | apply zJ | apply zD | apply zE) | exact HB.out))) : w.heap.size ≤ Z24)); have n3_ := zK ((by rw [hg]; exact (yK (by repeat (first | (with_reducible first | exact HB.out | apply zJ | apply zD | apply zE) | exact HB.out))) : w.heap.size ≤ Z24)); clear HB; have HB := n0_; have Z0 := n1_; have Z8 := n2_; have Z4 := n3_; clear n0_ n1_ n2_ n3_ hb hbox hg) | ((with_reducible refine gate_dst (N := 4) rfl ?_); refine box_event ?hg (N := 4) ?hd (cs := #[.int .i64 a1_0, .int .i64 a1_1, .int .i64 a1_2, .int .i64 a1_3, .int .i64 a1_4, .slice A1_5 l1_5.length c1_5]) (t := 24) ?hr ?_; (case hd => rfl); (case hg => rfl); (case hr => first | (go_simp; done) | (go_simp; rfl)); intro Z25 hg w7 hbox hb; have n0_ := zK (zP (g := Z24) (o := .cells #[.slice A0_0 l0_0.length c0_0, .slice A0_1 l0_1.length c0_1] 39 (0, 0)) (by (with_reducible repeat (first | refine zF ?_ _ | refine zH ?_ | refine zG ?_ _)); exact Z0.out) hb); have n1_ := zK (yL (by repeat (first | (with_reducible first | exact HB.out | apply zJ | apply zD | apply zE | refine zI ?_ Z4.out) | exact HB.out)) hb); have n2_ := zK (hbox); have n3_ := zK ((by rw [hg]; exact (yK (by repeat (first | (with_reducible first | exact HB.out | apply zJ | apply zD | apply zE | refine zI ?_ Z4.out) | exact HB.out))) : w.heap.size ≤ Z25)); have n4_ := zK ((by rw [hg]; exact (yK (by repeat (first | (with_reducible first | exact HB.out | apply zJ | apply zD | apply zE | refine zI ?_ Z4.out) | exact HB.out))) : w.heap.size ≤ Z25)); have n5_ := zK ((by rw [hg]; exact ym (yo (g := Z24) (o := .cells #[.slice A0_0 l0_0.length c0_0, .slice A0_1 l0_1.length c0_1] 39 (0, 0)) (by (with_reducible repeat (first | refine zF ?_ _ | refine zH ?_ | refine zG ?_ _)); exact Z0.out)) : Z24 ≠ Z25)); have n6_ := zK ((by rw [hg]; exact yn (yo (g := Z24) (o := .cells #[.slice A0_0 l0_0.length c0_0, .slice A0_1 l0_1.length c0_1] 39 (0, 0)) (by (with_reducible repeat (first | refine zF ?_ _ | refine zH ?_ | refine zG ?_ _)); exact Z0.out)) : Z25 ≠ Z24)); clear Z0 HB; have Z0 := n0_; have HB := n1_; have Z1 := n2_; have Z9 := n3_; have Z5 := n4_; have Z12 := n5_; have Z15 := n6_; clear n0_ n1_ n2_ n3_ n4_ n5_ n6_ hb hbox hg) | ((with_reducible refine gate_callee (f := 13) rfl ?_); refine goesL_ (some 16) rfl rfl Try.func13 (by kernel_rfl) rfl #[] rfl (by (try simp only [yH, yI, yJ]); first | done | rfl | (simp only [yG, yF]; rfl)) ?_; (with_reducible refine (w22_awake.calls k  true _ A4.out).mono ?_); rintro e w8 ⟨rfl, hb⟩; refine ⟨_, rfl, ?_⟩; have n0_ := zK (zP (g := Z24) (o := .cells #[.slice A0_0 l0_0.length c0_0, .slice A0_1 l0_1.length c0_1] 39 (0, 0)) (by (with_reducible repeat (first | refine zF ?_ _ | refine zH ?_ | refine zG ?_ _)); exact Z0.out) hb); have n1_ := zK (zP (g := Z25) (o := .cells #[.int .i64 a1_0, .int .i64 a1_1, .int .i64 a1_2, .int .i64 a1_3, .int .i64 a1_4, .slice A1_5 l1_5.length c1_5] 24 (0, 0)) (by (with_reducible repeat (first | refine zF ?_ _ | refine zH ?_ | refine zG ?_ _)); exact Z1.out) hb); have n2_ := zK (yL (by repeat (first | (with_reducible first | exact HB.out | apply zJ | apply zD | apply zE | refine zI ?_ Z4.out | refine zI ?_ Z5.out) | exact HB.out)) hb); clear Z0 Z1 HB; have Z0 := n0_; have Z1 := n1_; have HB := n2_; clear n0_ n1_ n2_; (try clear hb); (try clear hb2); (try clear hk); (try clear hi); have hnb9 := Z12.out; have hnc9 := Z15.out; have hcz10_0 : w8.cell? ⟨Z24, 0, none⟩ = some (.slice A0_0 l0_0.length c0_0) := (zO Z0.out 0).trans rfl; have hcz10_1 : w8.cell? ⟨Z24, 1, none⟩ = some (.slice A0_1 l0_1.length c0_1) := (zO Z0.out 1).trans rfl; have hfz10_0 := yE Z0.out 0; have hfz10_1 := yE Z0.out 1) | ((with_reducible refine gate_dst (N := 7) rfl ?_); refine box_event ?hg (N := 7) ?hd (cs := #[.slice none 0 0, .slice none 0 0]) (t := 39) ?hr ?_; (case hd => rfl); (case hg => rfl); (case hr => first | (go_simp; done) | (go_simp; rfl)); intro Z26 hg w11 hbox hb; have n0_ := zK (zP (g := Z24) (o := .cells #[.slice A0_0 l0_0.length c0_0, .slice A0_1 l0_1.length c0_1] 39 (0, 0)) (by (with_reducible repeat (first | refine zF ?_ _ | refine zH ?_ | refine zG ?_ _)); exact Z0.out) hb); have n1_ := zK (zP (g := Z25) (o := .cells #[.int .i64 a1_0, .int .i64 a1_1, .int .i64 a1_2, .int .i64 a1_3, .int .i64 a1_4, .slice A1_5 l1_5.length c1_5] 24 (0, 0)) (by (with_reducible repeat (first | refine zF ?_ _ | refine zH ?_ | refine zG ?_ _)); exact Z1.out) hb); have n2_ := zK (yL (by repeat (first | (with_reducible first | exact HB.out | apply zJ | apply zD | apply zE | refine zI ?_ Z4.out | refine zI ?_ Z5.out) | exact HB.out)) hb); have n3_ := zK (hbox); have n4_ := zK ((by rw [hg]; exact (yK (by repeat (first | (with_reducible first | exact HB.out | apply zJ | apply zD | apply zE | refine zI ?_ Z4.out | refine zI ?_ Z5.out) | exact HB.out))) : w.heap.size ≤ Z26)); have n5_ := zK ((by rw [hg]; exact (yK (by repeat (first | (with_reducible first | exact HB.out | apply zJ | apply zD | apply zE | refine zI ?_ Z4.out | refine zI ?_ Z5.out) | exact HB.out))) : w.heap.size ≤ Z26)); have n6_ := zK ((by rw [hg]; exact ym (yo (g := Z24) (o := .cells #[.slice A0_0 l0_0.length c0_0, .slice A0_1 l0_1.length c0_1] 39 (0, 0)) (by (with_reducible repeat (first | refine zF ?_ _ | refine zH ?_ | refine zG ?_ _)); exact Z0.out)) : Z24 ≠ Z26)); have n7_ := zK ((by rw [hg]; exact yn (yo (g := Z24) (o := .cells #[.slice A0_0 l0_0.length c0_0, .slice A0_1 l0_1.length c0_1] 39 (0, 0)) (by (with_reducible repeat (first | refine zF ?_ _ | refine zH ?_ | refine zG ?_ _)); exact Z0.out)) : Z26 ≠ Z24)); have n8_ := zK ((by rw [hg]; exact ym (yo (g := Z25) (o := .cells #[.int .i64 a1_0, .int .i64 a1_1, .int .i64 a1_2, .int .i64 a1_3, .int .i64 a1_4, .slice A1_5 l1_5.length c1_5] 24 (0, 0)) (by (with_reducible repeat (first | refine zF ?_ _ | refine zH ?_ | refine zG ?_ _)); exact Z1.out)) : Z25 ≠ Z26)); have n9_ := zK ((by rw [hg]; exact yn (yo (g := Z25) (o := .cells #[.int .i64 a1_0, .int .i64 a1_1, .int .i64 a1_2, .int .i64 a1_3, .int .i64 a1_4, .slice A1_5 l1_5.length c1_5] 24 (0, 0)) (by (with_reducible repeat (first | refine zF ?_ _ | refine zH ?_ | refine zG ?_ _)); exact Z1.out)) : Z26 ≠ Z25)); clear Z0 Z1 HB; have Z0 := n0_; have Z1 := n1_; have HB := n2_; have Z2 := n3_; have Z10 := n4_; have Z6 := n5_; have Z13 := n6_; have Z18 := n7_; have Z16 := n8_; have Z19 := n9_; clear n0_ n1_ n2_ n3_ n4_ n5_ n6_ n7_ n8_ n9_ hb hbox hg; have hnb12 := Z18.out; have hnc12 := Z13.out; have hnb13 := Z19.out; have hnc13 := Z16.out; have hcz14_0 : w11.cell? ⟨Z26, 0, none⟩ = some (.slice none 0 0) := (zO Z2.out 0).trans rfl; have hcz14_1 : w11.cell? ⟨Z26, 1, none⟩ = some (.slice none 0 0) := (zO Z2.out 1).trans rfl; have hfz14_0 := yE Z2.out 0; have hfz14_1 := yE Z2.out 1; have hcz15_0 : w11.cell? ⟨Z24, 0, none⟩ = some (.slice A0_0 l0_0.length c0_0) := (zO Z0.out 0).trans rfl; have hcz15_1 : w11.cell? ⟨Z24, 1, none⟩ = some (.slice A0_1 l0_1.length c0_1) := (zO Z0.out 1).trans rfl; have hfz15_0 := yE Z0.out 0; have hfz15_1 := yE Z0.out 1))
   go_loopg [24] k (fun kq v24 w' => ∃ (x24_1 : Int) (x444000_1 : List Int) (u444000 : Value), v24 = .int .i64 x24_1 ∧ Aside0 (w22_DistMoves.l0 kq a2 l0_0 (l0_0.length : Int) x24_1 l0_0 l0_1 a1_0 a1_1 a1_2 a1_3 a1_4 l1_5 x444000_1 l0_1 = some r) ∧ Aside0 (kq ≤ k) ∧ Aside0 (Kd.R (Kd.int .i64) 2 w' w.heap.size (fun _ => True) u444000 x444000_1) ∧ Aside0 (w'.heap[Z24]? = some (.cells #[(.slice A0_0 l0_0.length c0_0), (.slice A0_1 l0_1.length c0_1)] 39 (0, 0))) ∧ Aside0 (w'.heap[Z25]? = some (.cells #[.int .i64 a1_0, .int .i64 a1_1, .int .i64 a1_2, .int .i64 a1_3, .int .i64 a1_4, (.slice A1_5 l1_5.length c1_5)] 24 (0, 0))) ∧ Aside0 (w'.heap[Z26]? = some (.cells #[u444000, (.slice A0_1 l0_1.length c0_1)] 39 (0, 0))) ∧ Aside0 (Below w.heap.size w w'))
   case atStart => exact ⟨(0), (([] : List Int)), (.slice none 0 0), (by first | rfl | (simp; done) | (simp [*]; done)), H', ⟨yN _⟩, ⟨by first | exact Kd.R_nil _ _ _ _ _ | exact Kd.N_nil _ _ _ _ _ | exact Kd.V_nil _ _ _ _ _ | exact Kd.Q_nil _ _ _ _ _ | exact Kd.S_nil _ _ _ _ _⟩, ⟨by (with_reducible repeat (first | refine zF ?_ _ | refine zH ?_ | refine zG ?_ _)); refine blk_far ?_ Z13.out _; (with_reducible repeat (first | refine zF ?_ _ | refine zH ?_ | refine zG ?_ _)); refine blk_far ?_ Z13.out _; (with_reducible repeat (first | refine zF ?_ _ | refine zH ?_ | refine zG ?_ _)); exact Z0.out⟩, ⟨by (with_reducible repeat (first | refine zF ?_ _ | refine zH ?_ | refine zG ?_ _)); refine blk_far ?_ Z16.out _; (with_reducible repeat (first | refine zF ?_ _ | refine zH ?_ | refine zG ?_ _)); refine blk_far ?_ Z16.out _; (with_reducible repeat (first | refine zF ?_ _ | refine zH ?_ | refine zG ?_ _)); exact Z1.out⟩, ⟨by (with_reducible repeat (first | refine zF ?_ _ | refine zH ?_ | refine zG ?_ _)); refine blk_put (cs := #[.slice none 0 0, .slice none 0 0]) ?_ 1 _ rfl; (with_reducible repeat (first | refine zF ?_ _ | refine zH ?_ | refine zG ?_ _)); refine blk_put (cs := #[.slice none 0 0, .slice none 0 0]) ?_ 0 _ rfl; (with_reducible repeat (first | refine zF ?_ _ | refine zH ?_ | refine zG ?_ _)); exact Z2.out⟩, ⟨by repeat (first | (with_reducible first | exact HB.out | apply zJ | apply zD | apply zE | refine zI ?_ Z4.out | refine zI ?_ Z5.out | refine zI ?_ Z6.out) | exact HB.out)⟩⟩
   case round =>
    clear H'
    try clear c1
    try clear p2
    try clear c5
    try clear c6
    try clear c9
    try clear c12
    try clear c13
    try clear hcz10_0
    try clear hcz10_1
    try clear hcz14_0
    try clear hcz14_1
    try clear hcz15_0
    try clear hcz15_1
    try clear hfz10_0
    try clear hfz10_1
    try clear hfz14_0
    try clear hfz14_1
    try clear hfz15_0
    try clear hfz15_1
    obtain ⟨x24_1, x444000_1, u444000, rfl, HA, HK1, HO_444000, Z0, Z1, Z2, HB⟩ := hrel
    cases gk with
    | zero => exact absurd HA.out (by simp [w22_DistMoves.l0])
    | succ k1 =>
     have H := HA.out
     clear HA
     simp only [w22_DistMoves.l0] at H
     by_cases c16 : x24_1 < (l0_0.length : Int)
     ·rw [if_pos c16] at H
      have c16b0 : decide (x24_1 < (l0_0.length : Int)) = true := yC c16
      clear c16
      by_cases c17 : 0 ≤ x24_1
      ·rw [if_pos c17] at H
       have c17b0 : decide (0 ≤ x24_1) = true := yC c17
       clear c17
       by_cases c18 : x24_1 < (l0_0.length : Int)
       ·rw [if_pos c18] at H
        have c18b0 : decide (x24_1 < (l0_0.length : Int)) = true := yC c18
        clear c18
        by_cases c19 : a2 > 2147483648
        ·rw [if_pos c19] at H
         have c19b0 : decide (2147483648 < a2) = true := yC c19
         clear c19
         obtain rfl := yY H
         have p444 : 0 ≤ (x24_1 : Int) := yB (by first | (with_reducible assumption) | assumption)
         have q444 : x24_1 < (l0_0.length : Int) := yB (by first | (with_reducible assumption) | assumption)
         obtain ⟨ad444, e444, hx444_0⟩ := Kd.at_int HR0_0.out x24_1 p444 q444
         cases e444
         replace hx444_0 := (HB.out.cell (World.block_lt_of_cell? w _ hx444_0)).trans hx444_0
         replace p444 := yg p444
         replace q444 := yg q444
         go_wp2
         go_ret
         exact ⟨by first | rfl | (simp [errW_none, errW_some] <;> rfl) | (simp [*, errW_none, errW_some] <;> rfl), by repeat (first | (with_reducible first | exact HB.out | apply zJ | apply zD | apply zE | refine zI ?_ Z4.out | refine zI ?_ Z5.out | refine zI ?_ Z6.out) | exact HB.out)⟩
        ·rw [if_neg c19] at H
         have c19b0 : decide (2147483648 < a2) = false := yD c19
         clear c19
         by_cases c20 : a2 < (-2147483648)
         ·rw [if_pos c20] at H
          have c20b0 : decide (a2 < (-2147483648)) = true := yC c20
          clear c20
          obtain rfl := yY H
          have p444 : 0 ≤ (x24_1 : Int) := yB (by first | (with_reducible assumption) | assumption)
          have q444 : x24_1 < (l0_0.length : Int) := yB (by first | (with_reducible assumption) | assumption)
          obtain ⟨ad444, e444, hx444_0⟩ := Kd.at_int HR0_0.out x24_1 p444 q444
          cases e444
          replace hx444_0 := (HB.out.cell (World.block_lt_of_cell? w _ hx444_0)).trans hx444_0
          replace p444 := yg p444
          replace q444 := yg q444
          go_wp2
          go_ret
          exact ⟨by first | rfl | (simp [errW_none, errW_some] <;> rfl) | (simp [*, errW_none, errW_some] <;> rfl), by repeat (first | (with_reducible first | exact HB.out | apply zJ | apply zD | apply zE | refine zI ?_ Z4.out | refine zI ?_ Z5.out | refine zI ?_ Z6.out) | exact HB.out)⟩
         ·rw [if_neg c20] at H
          have c20b0 : decide (a2 < (-2147483648)) = false := yD c20
          clear c20
          by_cases c21 : x444000_1.length < 17592186044416
          ·rw [if_pos c21] at H
           have LMc21 := zK c21
           clear c21
           obtain ⟨y445, hy445⟩ : ∃ y_ : List Int, y_ = (x444000_1 ++ [wrap64 ((rd l0_0 x24_1) + a2)]) := ⟨_, rfl⟩
           replace H : (w22_DistMoves.l0 k1 a2 l0_0 (l0_0.length : Int) (wrap64 (x24_1 + 1)) l0_0 l0_1 a1_0 a1_1 a1_2 a1_3 a1_4 l1_5 y445 l0_1) = some r := by first | (rw [hy445]; with_reducible exact H) | (have H2_ := (yV _ _).symm.trans H; rw [hy445]; with_reducible exact H2_) | (have H2_ := (yV _ _).symm.trans H; with_reducible exact H2_) | with_reducible exact H | (rw [hy445]; exact H) | exact H
           have Ny445 := zK hy445
           clear hy445
           have H' := zK H
           clear H
           have p444 : 0 ≤ (x24_1 : Int) := yB (by first | (with_reducible assumption) | assumption)
           have q444 : x24_1 < (l0_0.length : Int) := yB (by first | (with_reducible assumption) | assumption)
           obtain ⟨ad444, e444, hx444_0⟩ := Kd.at_int HR0_0.out x24_1 p444 q444
           cases e444
           replace hx444_0 := (HB.out.cell (World.block_lt_of_cell? w _ hx444_0)).trans hx444_0
           replace p444 := yg p444
           replace q444 := yg q444
           have hnb22 := Z18.out
           have hnc22 := Z13.out
           have hnb23 := Z19.out
           have hnc23 := Z16.out
           have hcz24_0 : wr.cell? ⟨Z26, 0, none⟩ = some (u444000) := (zO Z2.out 0).trans rfl
           have hcz24_1 : wr.cell? ⟨Z26, 1, none⟩ = some (.slice A0_1 l0_1.length c0_1) := (zO Z2.out 1).trans rfl
           have hfz24_0 := yE Z2.out 0
           have hfz24_1 := yE Z2.out 1
           go_wp2_with (first | ((with_reducible refine gate_builtin (b := .append) (xs := #[.tmp 35, .tmp 39]) rfl ?_); at_builtin; refine Kd.R_append (Kd.int .i64) (w0 := w) w.heap.size rfl (.tmp 35) (.tmp 39) 36 2 (.int .i64 0) 8 rfl Try.underlying36 info2 rfl (by decide) (by omega) u444000 x444000_1 (wrap64 ((rd l0_0 x24_1) + a2)) [.int .i64 (wrap64 ((rd l0_0 x24_1) + a2))] (fun _ => True) (fun _ => False) rfl rfl ?aP (fun _ hk => hk.elim) ?aF ?aO ?aB ?aS ?aL ?_; (case aP => exact rfl); (case aB => exact (by repeat (first | (with_reducible first | exact HB.out | apply zJ | apply zD | apply zE | refine zI ?_ Z4.out | refine zI ?_ Z5.out | refine zI ?_ Z6.out) | exact HB.out))); (case aF => exact (fun _ _ => trivial)); (case aO => exact (by (with_reducible repeat (first | apply zL | apply zM | apply zN)); exact HO_444000.out)); (case aS => exact (yK (by repeat (first | (with_reducible first | exact HB.out | apply zJ | apply zD | apply zE | refine zI ?_ Z4.out | refine zI ?_ Z5.out | refine zI ?_ Z6.out) | exact HB.out)))); (case aL => have := LMc21.out; omega); intro v446 w25 ho hb hg hat; rw [← Ny445.out] at ho; have n0_ := zK (blk_grown (g := Z24) (o := .cells #[.slice (some ad444) l0_0.length c0_0, .slice A0_1 l0_1.length c0_1] 39 (0, 0)) (by (with_reducible repeat (first | refine zF ?_ _ | refine zH ?_ | refine zG ?_ _)); exact Z0.out) hg (Kd.R_ne HO_444000.out Z0.out (by decide))); have n1_ := zK (blk_grown (g := Z25) (o := .cells #[.int .i64 a1_0, .int .i64 a1_1, .int .i64 a1_2, .int .i64 a1_3, .int .i64 a1_4, .slice A1_5 l1_5.length c1_5] 24 (0, 0)) (by (with_reducible repeat (first | refine zF ?_ _ | refine zH ?_ | refine zG ?_ _)); exact Z1.out) hg (Kd.R_ne HO_444000.out Z1.out (by decide))); have n2_ := zK (blk_grown (g := Z26) (o := .cells #[u444000, .slice A0_1 l0_1.length c0_1] 39 (0, 0)) (by (with_reducible repeat (first | refine zF ?_ _ | refine zH ?_ | refine zG ?_ _)); exact Z2.out) hg (Kd.R_ne HO_444000.out Z2.out (by decide))); have n3_ := zK (hb); have n4_ := zK (ho); clear Z0 Z1 Z2 HB HO_444000; have Z0 := n0_; have Z1 := n1_; have Z2 := n2_; have HB := n3_; have HO447 := n4_; clear n0_ n1_ n2_ n3_ n4_ ho hb hg hat; obtain ⟨Ao26, co26, eo26⟩ := Kd.R_slice HO447.out; subst eo26; have hcz27_0 : w25.cell? ⟨Z26, 0, none⟩ = some (u444000) := (zO Z2.out 0).trans rfl; have hcz27_1 : w25.cell? ⟨Z26, 1, none⟩ = some (.slice A0_1 l0_1.length c0_1) := (zO Z2.out 1).trans rfl; have hfz27_0 := yE Z2.out 0; have hfz27_1 := yE Z2.out 1))
           go_roundg k1
           case measure => have := HK1.out; omega
           case rel => exact ⟨(wrap64 (x24_1 + 1)), (y445), (.slice Ao26 y445.length co26), (by first | rfl | (simp; done) | (simp [*]; done)), H', ⟨by have := HK1.out; omega⟩, ⟨by (with_reducible repeat (first | apply zL | apply zM | apply zN)); exact yd (Kd.R_far (p := ⟨Z26, 0, none⟩) (Kd.R_types HO447.out Z2.out (by decide)) (fun _ hk => hk.2) (.slice Ao26 y445.length co26)) (fun _ hk => trivial)⟩, ⟨by (with_reducible repeat (first | refine zF ?_ _ | refine zH ?_ | refine zG ?_ _)); refine blk_far ?_ Z13.out _; (with_reducible repeat (first | refine zF ?_ _ | refine zH ?_ | refine zG ?_ _)); exact Z0.out⟩, ⟨by (with_reducible repeat (first | refine zF ?_ _ | refine zH ?_ | refine zG ?_ _)); refine blk_far ?_ Z16.out _; (with_reducible repeat (first | refine zF ?_ _ | refine zH ?_ | refine zG ?_ _)); exact Z1.out⟩, ⟨by (with_reducible repeat (first | refine zF ?_ _ | refine zH ?_ | refine zG ?_ _)); refine blk_put (cs := #[u444000, .slice A0_1 l0_1.length c0_1]) ?_ 0 _ rfl; (with_reducible repeat (first | refine zF ?_ _ | refine zH ?_ | refine zG ?_ _)); exact Z2.out⟩, ⟨by repeat (first | (with_reducible first | exact HB.out | apply zJ | apply zD | apply zE | refine zI ?_ Z4.out | refine zI ?_ Z5.out | refine zI ?_ Z6.out) | exact HB.out)⟩⟩
          ·rw [if_neg c21] at H
           exact absurd H (by simp)
       ·rw [if_neg c18] at H
        exact absurd H (by simp)
      ·rw [if_neg c17] at H
       exact absurd H (by simp)
     ·rw [if_neg c16] at H
      have c16b0 : decide (x24_1 < (l0_0.length : Int)) = false := yD c16
      clear c16
      have HC28 := zK H
      clear H
      go_upto_region 11 with (fail)
      go_cut [52] (fun v52 wc => ∃ (kq : Nat) (x52_27 : Bool), v52 = .bool x52_27 ∧ Aside0 (w22_DistMoves.j1 kq x52_27 l0_0 l0_1 a1_0 a1_1 a1_2 a1_3 a1_4 l1_5 x444000_1 l0_1 = some r) ∧ Aside0 (kq ≤ k1) ∧ Aside0 (Kd.R (Kd.int .i64) 2 wc w.heap.size (fun _ => True) u444000 x444000_1) ∧ Aside0 (wc.heap[Z24]? = some (.cells #[(.slice A0_0 l0_0.length c0_0), (.slice A0_1 l0_1.length c0_1)] 39 (0, 0))) ∧ Aside0 (wc.heap[Z25]? = some (.cells #[.int .i64 a1_0, .int .i64 a1_1, .int .i64 a1_2, .int .i64 a1_3, .int .i64 a1_4, (.slice A1_5 l1_5.length c1_5)] 24 (0, 0))) ∧ Aside0 (wc.heap[Z26]? = some (.cells #[u444000, (.slice A0_1 l0_1.length c0_1)] 39 (0, 0))) ∧ Aside0 (Below w.heap.size w wc))
      case first =>
       have H := HC28.out
       clear HC28
       replace H := yA.mp H
       obtain ⟨t448, A290, H⟩ := H
       replace H : (if t448 = true then ((w22_right.f k1 x444000_1 l0_1 a1_0 a1_1 a1_2 a1_3 a1_4 l1_5).bind fun t449 => (w22_DistMoves.j1 k1 (!t449) l0_0 l0_1 a1_0 a1_1 a1_2 a1_3 a1_4 l1_5 x444000_1 l0_1)) else (w22_DistMoves.j1 k1 true l0_0 l0_1 a1_0 a1_1 a1_2 a1_3 a1_4 l1_5 x444000_1 l0_1)) = some r := H
       have A29 := zK A290
       clear A290
       by_cases c30 : t448 = true
       ·subst c30
        have H1 : ((w22_right.f k1 x444000_1 l0_1 a1_0 a1_1 a1_2 a1_3 a1_4 l1_5).bind fun t449 => (w22_DistMoves.j1 k1 (!t449) l0_0 l0_1 a1_0 a1_1 a1_2 a1_3 a1_4 l1_5 x444000_1 l0_1)) = some r := by rw [if_pos rfl] at H; exact H
        clear H
        have H := H1
        clear H1
        replace H := yA.mp H
        obtain ⟨t449, A310, H⟩ := H
        replace H : (w22_DistMoves.j1 k1 (!t449) l0_0 l0_1 a1_0 a1_1 a1_2 a1_3 a1_4 l1_5 x444000_1 l0_1) = some r := H
        have A31 := zK A310
        clear A310
        have H' := zK H
        clear H
        have hnb32 := Z12.out
        have hnc32 := Z15.out
        have hnb33 := Z13.out
        have hnc33 := Z18.out
        have hcz34_0 : wr.cell? ⟨Z24, 0, none⟩ = some (.slice A0_0 l0_0.length c0_0) := (zO Z0.out 0).trans rfl
        have hcz34_1 : wr.cell? ⟨Z24, 1, none⟩ = some (.slice A0_1 l0_1.length c0_1) := (zO Z0.out 1).trans rfl
        have hfz34_0 := yE Z0.out 0
        have hfz34_1 := yE Z0.out 1
        have hnb35 := Z16.out
        have hnc35 := Z19.out
        have hcz36_0 : wr.cell? ⟨Z25, 0, none⟩ = some (.int .i64 a1_0) := (zO Z1.out 0).trans rfl
        have hcz36_1 : wr.cell? ⟨Z25, 1, none⟩ = some (.int .i64 a1_1) := (zO Z1.out 1).trans rfl
        have hcz36_2 : wr.cell? ⟨Z25, 2, none⟩ = some (.int .i64 a1_2) := (zO Z1.out 2).trans rfl
        have hcz36_3 : wr.cell? ⟨Z25, 3, none⟩ = some (.int .i64 a1_3) := (zO Z1.out 3).trans rfl
        have hcz36_4 : wr.cell? ⟨Z25, 4, none⟩ = some (.int .i64 a1_4) := (zO Z1.out 4).trans rfl
        have hcz36_5 : wr.cell? ⟨Z25, 5, none⟩ = some (.slice A1_5 l1_5.length c1_5) := (zO Z1.out 5).trans rfl
        have hfz36_0 := yE Z1.out 0
        have hfz36_1 := yE Z1.out 1
        have hfz36_2 := yE Z1.out 2
        have hfz36_3 := yE Z1.out 3
        have hfz36_4 := yE Z1.out 4
        have hfz36_5 := yE Z1.out 5
        go_wp2_with (first | ((with_reducible refine gate_callee (f := 22) rfl ?_); refine goesL_ (some 45) rfl rfl Try.func22 (by kernel_rfl) rfl #[.agg #[.slice A0_0 l0_0.length c0_0, .slice A0_1 l0_1.length c0_1], .agg #[.int .i64 a1_0, .int .i64 a1_1, .int .i64 a1_2, .int .i64 a1_3, .int .i64 a1_4, .slice A1_5 l1_5.length c1_5]] rfl (by (try simp only [yH, yI, yJ]); first | done | rfl | (simp only [yG, yF]; rfl)) ?_; (with_reducible refine (w22_right.calls k1 _ _ l0_0 _ _ l0_1 a1_0 a1_1 a1_2 a1_3 a1_4 _ _ l1_5 true _ ?side1 ?side2 ?side3 ?side4 ?side5 ?side6 A29.out).mono ?_); (case side1 => repeat (first | exact (yc HR0_0.out HB.out) | (with_reducible refine yS ?_ _) | (with_reducible refine yT ?_ _) | (with_reducible refine yU ?_))); (case side2 => exact HC0_0.out); (case side3 => repeat (first | exact (yc HR0_1.out HB.out) | (with_reducible refine yS ?_ _) | (with_reducible refine yT ?_ _) | (with_reducible refine yU ?_))); (case side4 => exact HC0_1.out); (case side5 => repeat (first | exact (yc HR1_5.out HB.out) | (with_reducible refine yS ?_ _) | (with_reducible refine yT ?_ _) | (with_reducible refine yU ?_))); (case side6 => exact HC1_5.out); rintro e w37 ⟨rfl, hb⟩; refine ⟨_, rfl, ?_⟩; have n0_ := zK (yb (by (with_reducible repeat (first | apply zL | apply zM | apply zN)); exact HO_444000.out) hb); have n1_ := zK (zP (g := Z24) (o := .cells #[.slice A0_0 l0_0.length c0_0, .slice A0_1 l0_1.length c0_1] 39 (0, 0)) (by (with_reducible repeat (first | refine zF ?_ _ | refine zH ?_ | refine zG ?_ _)); exact Z0.out) hb); have n2_ := zK (zP (g := Z25) (o := .cells #[.int .i64 a1_0, .int .i64 a1_1, .int .i64 a1_2, .int .i64 a1_3, .int .i64 a1_4, .slice A1_5 l1_5.length c1_5] 24 (0, 0)) (by (with_reducible repeat (first | refine zF ?_ _ | refine zH ?_ | refine zG ?_ _)); exact Z1.out) hb); have n3_ := zK (zP (g := Z26) (o := .cells #[u444000, .slice A0_1 l0_1.length c0_1] 39 (0, 0)) (by (with_reducible repeat (first | refine zF ?_ _ | refine zH ?_ | refine zG ?_ _)); exact Z2.out) hb); have n4_ := zK (yL (by repeat (first | (with_reducible first | exact HB.out | apply zJ | apply zD | apply zE | refine zI ?_ Z4.out | refine zI ?_ Z5.out | refine zI ?_ Z6.out) | exact HB.out)) hb); clear HO_444000 Z0 Z1 Z2 HB; have HO_444000 := n0_; have Z0 := n1_; have Z1 := n2_; have Z2 := n3_; have HB := n4_; clear n0_ n1_ n2_ n3_ n4_; (try clear hb); (try clear hb2); (try clear hk); (try clear hi); have hcz38_0 : w37.cell? ⟨Z26, 0, none⟩ = some (u444000) := (zO Z2.out 0).trans rfl; have hcz38_1 : w37.cell? ⟨Z26, 1, none⟩ = some (.slice A0_1 l0_1.length c0_1) := (zO Z2.out 1).trans rfl; have hfz38_0 := yE Z2.out 0; have hfz38_1 := yE Z2.out 1; have hcz39_0 : w37.cell? ⟨Z25, 0, none⟩ = some (.int .i64 a1_0) := (zO Z1.out 0).trans rfl; have hcz39_1 : w37.cell? ⟨Z25, 1, none⟩ = some (.int .i64 a1_1) := (zO Z1.out 1).trans rfl; have hcz39_2 : w37.cell? ⟨Z25, 2, none⟩ = some (.int .i64 a1_2) := (zO Z1.out 2).trans rfl; have hcz39_3 : w37.cell? ⟨Z25, 3, none⟩ = some (.int .i64 a1_3) := (zO Z1.out 3).trans rfl; have hcz39_4 : w37.cell? ⟨Z25, 4, none⟩ = some (.int .i64 a1_4) := (zO Z1.out 4).trans rfl; have hcz39_5 : w37.cell? ⟨Z25, 5, none⟩ = some (.slice A1_5 l1_5.length c1_5) := (zO Z1.out 5).trans rfl; have hfz39_0 := yE Z1.out 0; have hfz39_1 := yE Z1.out 1; have hfz39_2 := yE Z1.out 2; have hfz39_3 := yE Z1.out 3; have hfz39_4 := yE Z1.out 4; have hfz39_5 := yE Z1.out 5; obtain ⟨Ao40, co40, eo40⟩ := Kd.R_slice HO_444000.out; subst eo40) | (go_at_call 22; (with_reducible refine (w22_right.calls k1 _ _ x444000_1 _ _ l0_1 a1_0 a1_1 a1_2 a1_3 a1_4 _ _ l1_5 t449 _ ?side1 ?side2 ?side3 ?side4 ?side5 ?side6 A31.out).mono ?_); (case side1 => repeat (first | exact (yM HO_444000.out).2.2 | (with_reducible refine yS ?_ _) | (with_reducible refine yT ?_ _) | (with_reducible refine yU ?_))); (case side2 => exact (yM HO_444000.out).2.1); (case side3 => repeat (first | exact (yc HR0_1.out HB.out) | (with_reducible refine yS ?_ _) | (with_reducible refine yT ?_ _) | (with_reducible refine yU ?_))); (case side4 => exact HC0_1.out); (case side5 => repeat (first | exact (yc HR1_5.out HB.out) | (with_reducible refine yS ?_ _) | (with_reducible refine yT ?_ _) | (with_reducible refine yU ?_))); (case side6 => exact HC1_5.out); rintro e w41 ⟨rfl, hb⟩; have n0_ := zK (yb (by (with_reducible repeat (first | apply zL | apply zM | apply zN)); exact HO_444000.out) hb); have n1_ := zK (zP (g := Z24) (o := .cells #[.slice A0_0 l0_0.length c0_0, .slice A0_1 l0_1.length c0_1] 39 (0, 0)) (by (with_reducible repeat (first | refine zF ?_ _ | refine zH ?_ | refine zG ?_ _)); exact Z0.out) hb); have n2_ := zK (zP (g := Z25) (o := .cells #[.int .i64 a1_0, .int .i64 a1_1, .int .i64 a1_2, .int .i64 a1_3, .int .i64 a1_4, .slice A1_5 l1_5.length c1_5] 24 (0, 0)) (by (with_reducible repeat (first | refine zF ?_ _ | refine zH ?_ | refine zG ?_ _)); exact Z1.out) hb); have n3_ := zK (zP (g := Z26) (o := .cells #[.slice Ao40 x444000_1.length co40, .slice A0_1 l0_1.length c0_1] 39 (0, 0)) (by (with_reducible repeat (first | refine zF ?_ _ | refine zH ?_ | refine zG ?_ _)); exact Z2.out) hb); have n4_ := zK (yL (by repeat (first | (with_reducible first | exact HB.out | apply zJ | apply zD | apply zE | refine zI ?_ Z4.out | refine zI ?_ Z5.out | refine zI ?_ Z6.out) | exact HB.out)) hb); clear HO_444000 Z0 Z1 Z2 HB; have HO_444000 := n0_; have Z0 := n1_; have Z1 := n2_; have Z2 := n3_; have HB := n4_; clear n0_ n1_ n2_ n3_ n4_; (try clear hb); (try clear hb2); (try clear hk); (try clear hi)))
        go_meet
        case rel => exact ⟨_, (!t449), (by first | rfl | (simp; done) | (simp [*]; done)), H', ⟨by have := HK1.out; first | omega | exact yN _⟩, ⟨by (with_reducible repeat (first | apply zL | apply zM | apply zN)); exact HO_444000.out⟩, ⟨by (with_reducible repeat (first | refine zF ?_ _ | refine zH ?_ | refine zG ?_ _)); exact Z0.out⟩, ⟨by (with_reducible repeat (first | refine zF ?_ _ | refine zH ?_ | refine zG ?_ _)); exact Z1.out⟩, ⟨by (with_reducible repeat (first | refine zF ?_ _ | refine zH ?_ | refine zG ?_ _)); exact Z2.out⟩, ⟨by repeat (first | (with_reducible first | exact HB.out | apply zJ | apply zD | apply zE | refine zI ?_ Z4.out | refine zI ?_ Z5.out | refine zI ?_ Z6.out) | exact HB.out)⟩⟩
       ·replace c30 := yh.mpr c30
        subst c30
        have H1 : (w22_DistMoves.j1 k1 true l0_0 l0_1 a1_0 a1_1 a1_2 a1_3 a1_4 l1_5 x444000_1 l0_1) = some r := by rw [if_neg (show ¬ (false = true) by decide)] at H; exact H
        clear H
        have H := H1
        clear H1
        have H' := zK H
        clear H
        have hnb42 := Z12.out
        have hnc42 := Z15.out
        have hnb43 := Z13.out
        have hnc43 := Z18.out
        have hcz44_0 : wr.cell? ⟨Z24, 0, none⟩ = some (.slice A0_0 l0_0.length c0_0) := (zO Z0.out 0).trans rfl
        have hcz44_1 : wr.cell? ⟨Z24, 1, none⟩ = some (.slice A0_1 l0_1.length c0_1) := (zO Z0.out 1).trans rfl
        have hfz44_0 := yE Z0.out 0
        have hfz44_1 := yE Z0.out 1
        have hnb45 := Z16.out
        have hnc45 := Z19.out
        have hcz46_0 : wr.cell? ⟨Z25, 0, none⟩ = some (.int .i64 a1_0) := (zO Z1.out 0).trans rfl
        have hcz46_1 : wr.cell? ⟨Z25, 1, none⟩ = some (.int .i64 a1_1) := (zO Z1.out 1).trans rfl
        have hcz46_2 : wr.cell? ⟨Z25, 2, none⟩ = some (.int .i64 a1_2) := (zO Z1.out 2).trans rfl
        have hcz46_3 : wr.cell? ⟨Z25, 3, none⟩ = some (.int .i64 a1_3) := (zO Z1.out 3).trans rfl
        have hcz46_4 : wr.cell? ⟨Z25, 4, none⟩ = some (.int .i64 a1_4) := (zO Z1.out 4).trans rfl
        have hcz46_5 : wr.cell? ⟨Z25, 5, none⟩ = some (.slice A1_5 l1_5.length c1_5) := (zO Z1.out 5).trans rfl
        have hfz46_0 := yE Z1.out 0
        have hfz46_1 := yE Z1.out 1
        have hfz46_2 := yE Z1.out 2
        have hfz46_3 := yE Z1.out 3
        have hfz46_4 := yE Z1.out 4
        have hfz46_5 := yE Z1.out 5
        go_wp2_with (first | ((with_reducible refine gate_callee (f := 22) rfl ?_); refine goesL_ (some 45) rfl rfl Try.func22 (by kernel_rfl) rfl #[.agg #[.slice A0_0 l0_0.length c0_0, .slice A0_1 l0_1.length c0_1], .agg #[.int .i64 a1_0, .int .i64 a1_1, .int .i64 a1_2, .int .i64 a1_3, .int .i64 a1_4, .slice A1_5 l1_5.length c1_5]] rfl (by (try simp only [yH, yI, yJ]); first | done | rfl | (simp only [yG, yF]; rfl)) ?_; (with_reducible refine (w22_right.calls k1 _ _ l0_0 _ _ l0_1 a1_0 a1_1 a1_2 a1_3 a1_4 _ _ l1_5 false _ ?side1 ?side2 ?side3 ?side4 ?side5 ?side6 A29.out).mono ?_); (case side1 => repeat (first | exact (yc HR0_0.out HB.out) | (with_reducible refine yS ?_ _) | (with_reducible refine yT ?_ _) | (with_reducible refine yU ?_))); (case side2 => exact HC0_0.out); (case side3 => repeat (first | exact (yc HR0_1.out HB.out) | (with_reducible refine yS ?_ _) | (with_reducible refine yT ?_ _) | (with_reducible refine yU ?_))); (case side4 => exact HC0_1.out); (case side5 => repeat (first | exact (yc HR1_5.out HB.out) | (with_reducible refine yS ?_ _) | (with_reducible refine yT ?_ _) | (with_reducible refine yU ?_))); (case side6 => exact HC1_5.out); rintro e w47 ⟨rfl, hb⟩; refine ⟨_, rfl, ?_⟩; have n0_ := zK (yb (by (with_reducible repeat (first | apply zL | apply zM | apply zN)); exact HO_444000.out) hb); have n1_ := zK (zP (g := Z24) (o := .cells #[.slice A0_0 l0_0.length c0_0, .slice A0_1 l0_1.length c0_1] 39 (0, 0)) (by (with_reducible repeat (first | refine zF ?_ _ | refine zH ?_ | refine zG ?_ _)); exact Z0.out) hb); have n2_ := zK (zP (g := Z25) (o := .cells #[.int .i64 a1_0, .int .i64 a1_1, .int .i64 a1_2, .int .i64 a1_3, .int .i64 a1_4, .slice A1_5 l1_5.length c1_5] 24 (0, 0)) (by (with_reducible repeat (first | refine zF ?_ _ | refine zH ?_ | refine zG ?_ _)); exact Z1.out) hb); have n3_ := zK (zP (g := Z26) (o := .cells #[u444000, .slice A0_1 l0_1.length c0_1] 39 (0, 0)) (by (with_reducible repeat (first | refine zF ?_ _ | refine zH ?_ | refine zG ?_ _)); exact Z2.out) hb); have n4_ := zK (yL (by repeat (first | (with_reducible first | exact HB.out | apply zJ | apply zD | apply zE | refine zI ?_ Z4.out | refine zI ?_ Z5.out | refine zI ?_ Z6.out) | exact HB.out)) hb); clear HO_444000 Z0 Z1 Z2 HB; have HO_444000 := n0_; have Z0 := n1_; have Z1 := n2_; have Z2 := n3_; have HB := n4_; clear n0_ n1_ n2_ n3_ n4_; (try clear hb); (try clear hb2); (try clear hk); (try clear hi)))
        go_meet
        case rel => exact ⟨_, (true), (by first | rfl | (simp; done) | (simp [*]; done)), H', ⟨by have := HK1.out; first | omega | exact yN _⟩, ⟨by (with_reducible repeat (first | apply zL | apply zM | apply zN)); exact HO_444000.out⟩, ⟨by (with_reducible repeat (first | refine zF ?_ _ | refine zH ?_ | refine zG ?_ _)); exact Z0.out⟩, ⟨by (with_reducible repeat (first | refine zF ?_ _ | refine zH ?_ | refine zG ?_ _)); exact Z1.out⟩, ⟨by (with_reducible repeat (first | refine zF ?_ _ | refine zH ?_ | refine zG ?_ _)); exact Z2.out⟩, ⟨by repeat (first | (with_reducible first | exact HB.out | apply zJ | apply zD | apply zE | refine zI ?_ Z4.out | refine zI ?_ Z5.out | refine zI ?_ Z6.out) | exact HB.out)⟩⟩
      case rest =>
       clear HC28
       try clear c1
       try clear c2
       try clear p2
       try clear c3
       try clear c4
       try clear p4
       try clear q4
       try clear hx4
       try clear c5
       try clear c6
       try clear p6
       try clear c9
       try clear c12
       try clear c13
       try clear c16
       try clear c16b0
       try clear c17
       try clear c17b0
       try clear c18
       try clear c18b0
       try clear c19
       try clear c19b0
       try clear c20
       try clear c20b0
       try clear c21
       try clear c22
       try clear c23
       try clear c30
       try clear c32
       try clear c33
       try clear c35
       try clear c42
       try clear c43
       try clear p44
       try clear q44
       try clear hx44
       try clear c45
       try clear hcz10_0
       try clear hcz10_1
       try clear hcz14_0
       try clear hcz14_1
       try clear hcz15_0
       try clear hcz15_1
       try clear hcz24_0
       try clear hcz24_1
       try clear hcz27_0
       try clear hcz27_1
       try clear hcz34_0
       try clear hcz34_1
       try clear hcz36_0
       try clear hcz36_1
       try clear hcz36_2
       try clear hcz36_3
       try clear hcz36_4
       try clear hcz36_5
       try clear hcz38_0
       try clear hcz38_1
       try clear hcz39_0
       try clear hcz39_1
       try clear hcz39_2
       try clear hcz39_3
       try clear hcz39_4
       try clear hcz39_5
       try clear hcz44_0
       try clear hcz44_1
       try clear hcz46_0
       try clear hcz46_1
       try clear hcz46_2
       try clear hcz46_3
       try clear hcz46_4
       try clear hcz46_5
       try clear hfz10_0
       try clear hfz10_1
       try clear hfz14_0
       try clear hfz14_1
       try clear hfz15_0
       try clear hfz15_1
       try clear hfz24_0
       try clear hfz24_1
       try clear hfz27_0
       try clear hfz27_1
       try clear hfz34_0
       try clear hfz34_1
       try clear hfz36_0
       try clear hfz36_1
       try clear hfz36_2
       try clear hfz36_3
       try clear hfz36_4
       try clear hfz36_5
       try clear hfz38_0
       try clear hfz38_1
       try clear hfz39_0
       try clear hfz39_1
       try clear hfz39_2
       try clear hfz39_3
       try clear hfz39_4
       try clear hfz39_5
       try clear hfz44_0
       try clear hfz44_1
       try clear hfz46_0
       try clear hfz46_1
       try clear hfz46_2
       try clear hfz46_3
       try clear hfz46_4
       try clear hfz46_5
       try clear hx444_0
       try clear p2
       try clear p444
       try clear q444
       obtain ⟨kq, x52_27, rfl, HA, HJ27, HO_444000, Z0, Z1, Z2, HB⟩ := hcut
       cases kq with
       | zero => exact absurd HA.out (by simp [w22_DistMoves.j1])
       | succ kj27 =>
        have H := HA.out
        clear HA
        simp only [w22_DistMoves.j1] at H
        by_cases c48 : x52_27 = true
        ·subst c48
         have H1 : (some true) = some r := by rw [if_pos rfl] at H; exact H
         clear H
         have H := H1
         clear H1
         obtain rfl := yY H
         go_wp2
         go_ret
         exact ⟨by first | rfl | (simp [errW_none, errW_some] <;> rfl) | (simp [*, errW_none, errW_some] <;> rfl), by repeat (first | (with_reducible first | exact HB.out | apply zJ | apply zD | apply zE | refine zI ?_ Z4.out | refine zI ?_ Z5.out | refine zI ?_ Z6.out) | exact HB.out)⟩
        ·replace c48 := yh.mpr c48
         subst c48
         have H1 : ((dist_Weights.f kj27 l0_0 l0_1 a1_0 a1_1 a1_2 a1_3 a1_4 l1_5).bind fun bt450 => ((dist_Weights.f kj27 x444000_1 l0_1 a1_0 a1_1 a1_2 a1_3 a1_4 l1_5).bind fun bt454 => (if bt450.2 = 0 then (if bt454.2 = 0 then ((w22_same.f kj27 bt454.1 bt450.1).bind fun t458 => (w22_DistMoves.j2 kj27 bt450.1 (!t458) l0_0 l0_1 a1_0 a1_1 a1_2 a1_3 a1_4 l1_5)) else (w22_DistMoves.j2 kj27 bt450.1 true l0_0 l0_1 a1_0 a1_1 a1_2 a1_3 a1_4 l1_5)) else (w22_DistMoves.j2 kj27 bt450.1 true l0_0 l0_1 a1_0 a1_1 a1_2 a1_3 a1_4 l1_5)))) = some r := by rw [if_neg (show ¬ (false = true) by decide)] at H; exact H
         clear H
         have H := H1
         clear H1
         replace H := yA.mp H
         obtain ⟨⟨t450, t453⟩, A490, H⟩ := H
         replace H : ((dist_Weights.f kj27 x444000_1 l0_1 a1_0 a1_1 a1_2 a1_3 a1_4 l1_5).bind fun bt454 => (if t453 = 0 then (if bt454.2 = 0 then ((w22_same.f kj27 bt454.1 t450).bind fun t458 => (w22_DistMoves.j2 kj27 t450 (!t458) l0_0 l0_1 a1_0 a1_1 a1_2 a1_3 a1_4 l1_5)) else (w22_DistMoves.j2 kj27 t450 true l0_0 l0_1 a1_0 a1_1 a1_2 a1_3 a1_4 l1_5)) else (w22_DistMoves.j2 kj27 t450 true l0_0 l0_1 a1_0 a1_1 a1_2 a1_3 a1_4 l1_5))) = some r := H
         have A49 := zK A490
         clear A490
         replace H := yA.mp H
         obtain ⟨⟨t454, t457⟩, A500, H⟩ := H
         replace H : (if t453 = 0 then (if t457 = 0 then ((w22_same.f kj27 t454 t450).bind fun t458 => (w22_DistMoves.j2 kj27 t450 (!t458) l0_0 l0_1 a1_0 a1_1 a1_2 a1_3 a1_4 l1_5)) else (w22_DistMoves.j2 kj27 t450 true l0_0 l0_1 a1_0 a1_1 a1_2 a1_3 a1_4 l1_5)) else (w22_DistMoves.j2 kj27 t450 true l0_0 l0_1 a1_0 a1_1 a1_2 a1_3 a1_4 l1_5)) = some r := H
         have A50 := zK A500
         clear A500
         have HC51 := zK H
         clear H
         have hnb52 := Z12.out
         have hnc52 := Z15.out
         have hnb53 := Z13.out
         have hnc53 := Z18.out
         have hcz54_0 : wc.cell? ⟨Z24, 0, none⟩ = some (.slice A0_0 l0_0.length c0_0) := (zO Z0.out 0).trans rfl
         have hcz54_1 : wc.cell? ⟨Z24, 1, none⟩ = some (.slice A0_1 l0_1.length c0_1) := (zO Z0.out 1).trans rfl
         have hfz54_0 := yE Z0.out 0
         have hfz54_1 := yE Z0.out 1
         have hnb55 := Z16.out
         have hnc55 := Z19.out
         have hcz56_0 : wc.cell? ⟨Z25, 0, none⟩ = some (.int .i64 a1_0) := (zO Z1.out 0).trans rfl
         have hcz56_1 : wc.cell? ⟨Z25, 1, none⟩ = some (.int .i64 a1_1) := (zO Z1.out 1).trans rfl
         have hcz56_2 : wc.cell? ⟨Z25, 2, none⟩ = some (.int .i64 a1_2) := (zO Z1.out 2).trans rfl
         have hcz56_3 : wc.cell? ⟨Z25, 3, none⟩ = some (.int .i64 a1_3) := (zO Z1.out 3).trans rfl
         have hcz56_4 : wc.cell? ⟨Z25, 4, none⟩ = some (.int .i64 a1_4) := (zO Z1.out 4).trans rfl
         have hcz56_5 : wc.cell? ⟨Z25, 5, none⟩ = some (.slice A1_5 l1_5.length c1_5) := (zO Z1.out 5).trans rfl
         have hfz56_0 := yE Z1.out 0
         have hfz56_1 := yE Z1.out 1
         have hfz56_2 := yE Z1.out 2
         have hfz56_3 := yE Z1.out 3
         have hfz56_4 := yE Z1.out 4
         have hfz56_5 := yE Z1.out 5
         go_upto_region 15 with (first | ((with_reducible refine gate_callee (f := 19) rfl ?_); refine goesL_ (some 59) rfl rfl Try.func19 (by kernel_rfl) rfl #[.slice A0_0 l0_0.length c0_0, .slice A0_1 l0_1.length c0_1, .agg #[.int .i64 a1_0, .int .i64 a1_1, .int .i64 a1_2, .int .i64 a1_3, .int .i64 a1_4, .slice A1_5 l1_5.length c1_5]] rfl (by (try simp only [yH, yI, yJ]); first | done | rfl | (simp only [yG, yF]; rfl)) ?_; (with_reducible refine (dist_Weights.calls kj27 _ _ l0_0 _ _ l0_1 a1_0 a1_1 a1_2 a1_3 a1_4 _ _ l1_5 t450 t453 _ ?side1 ?side2 ?side3 ?side4 ?side5 ?side6 A49.out).mono ?_); (case side1 => repeat (first | exact (yc HR0_0.out HB.out) | (with_reducible refine yS ?_ _) | (with_reducible refine yT ?_ _) | (with_reducible refine yU ?_))); (case side2 => exact HC0_0.out); (case side3 => repeat (first | exact (yc HR0_1.out HB.out) | (with_reducible refine yS ?_ _) | (with_reducible refine yT ?_ _) | (with_reducible refine yU ?_))); (case side4 => exact HC0_1.out); (case side5 => repeat (first | exact (yc HR1_5.out HB.out) | (with_reducible refine yS ?_ _) | (with_reducible refine yT ?_ _) | (with_reducible refine yU ?_))); (case side6 => exact HC1_5.out); rintro e w57 ⟨v451, rfl, ho0, hb⟩; refine ⟨_, rfl, ?_⟩; have n0_ := zK (Kd.R_elder' (by (with_reducible repeat (first | apply zL | apply zM | apply zN)); exact HO_444000.out) (Kd.R_base ho0) hb); have n1_ := zK (Kd.R_lower (Kd.R_new' ho0 (Kd.R_lt (by (with_reducible repeat (first | apply zL | apply zM | apply zN)); exact HO_444000.out))) (yK (by repeat (first | (with_reducible first | exact HB.out | apply zJ | apply zD | apply zE | refine zI ?_ Z4.out | refine zI ?_ Z5.out | refine zI ?_ Z6.out) | exact HB.out)))); have n2_ := zK (zP (g := Z24) (o := .cells #[.slice A0_0 l0_0.length c0_0, .slice A0_1 l0_1.length c0_1] 39 (0, 0)) (by (with_reducible repeat (first | refine zF ?_ _ | refine zH ?_ | refine zG ?_ _)); exact Z0.out) hb); have n3_ := zK (zP (g := Z25) (o := .cells #[.int .i64 a1_0, .int .i64 a1_1, .int .i64 a1_2, .int .i64 a1_3, .int .i64 a1_4, .slice A1_5 l1_5.length c1_5] 24 (0, 0)) (by (with_reducible repeat (first | refine zF ?_ _ | refine zH ?_ | refine zG ?_ _)); exact Z1.out) hb); have n4_ := zK (zP (g := Z26) (o := .cells #[u444000, .slice A0_1 l0_1.length c0_1] 39 (0, 0)) (by (with_reducible repeat (first | refine zF ?_ _ | refine zH ?_ | refine zG ?_ _)); exact Z2.out) hb); have n5_ := zK (yL (by repeat (first | (with_reducible first | exact HB.out | apply zJ | apply zD | apply zE | refine zI ?_ Z4.out | refine zI ?_ Z5.out | refine zI ?_ Z6.out) | exact HB.out)) hb); clear HO_444000 Z0 Z1 Z2 HB; have HO_444000 := n0_; have HO452 := n1_; have Z0 := n2_; have Z1 := n3_; have Z2 := n4_; have HB := n5_; clear n0_ n1_ n2_ n3_ n4_ n5_; (try clear hb); (try clear hb2); (try clear hk); (try clear hi); (try clear ho0); have hcz58_0 : w57.cell? ⟨Z26, 0, none⟩ = some (u444000) := (zO Z2.out 0).trans rfl; have hcz58_1 : w57.cell? ⟨Z26, 1, none⟩ = some (.slice A0_1 l0_1.length c0_1) := (zO Z2.out 1).trans rfl; have hfz58_0 := yE Z2.out 0; have hfz58_1 := yE Z2.out 1; have hcz59_0 : w57.cell? ⟨Z25, 0, none⟩ = some (.int .i64 a1_0) := (zO Z1.out 0).trans rfl; have hcz59_1 : w57.cell? ⟨Z25, 1, none⟩ = some (.int .i64 a1_1) := (zO Z1.out 1).trans rfl; have hcz59_2 : w57.cell? ⟨Z25, 2, none⟩ = some (.int .i64 a1_2) := (zO Z1.out 2).trans rfl; have hcz59_3 : w57.cell? ⟨Z25, 3, none⟩ = some (.int .i64 a1_3) := (zO Z1.out 3).trans rfl; have hcz59_4 : w57.cell? ⟨Z25, 4, none⟩ = some (.int .i64 a1_4) := (zO Z1.out 4).trans rfl; have hcz59_5 : w57.cell? ⟨Z25, 5, none⟩ = some (.slice A1_5 l1_5.length c1_5) := (zO Z1.out 5).trans rfl; have hfz59_0 := yE Z1.out 0; have hfz59_1 := yE Z1.out 1; have hfz59_2 := yE Z1.out 2; have hfz59_3 := yE Z1.out 3; have hfz59_4 := yE Z1.out 4; have hfz59_5 := yE Z1.out 5; obtain ⟨Ao60, co60, eo60⟩ := Kd.R_slice HO_444000.out; subst eo60) | ((with_reducible refine gate_callee (f := 19) rfl ?_); refine goesL_ (some 68) rfl rfl Try.func19 (by kernel_rfl) rfl #[.slice Ao60 x444000_1.length co60, .slice A0_1 l0_1.length c0_1, .agg #[.int .i64 a1_0, .int .i64 a1_1, .int .i64 a1_2, .int .i64 a1_3, .int .i64 a1_4, .slice A1_5 l1_5.length c1_5]] rfl (by (try simp only [yH, yI, yJ]); first | done | rfl | (simp only [yG, yF]; rfl)) ?_; (with_reducible refine (dist_Weights.calls kj27 _ _ x444000_1 _ _ l0_1 a1_0 a1_1 a1_2 a1_3 a1_4 _ _ l1_5 t454 t457 _ ?side1 ?side2 ?side3 ?side4 ?side5 ?side6 A50.out).mono ?_); (case side1 => repeat (first | exact (yM HO_444000.out).2.2 | (with_reducible refine yS ?_ _) | (with_reducible refine yT ?_ _) | (with_reducible refine yU ?_))); (case side2 => exact (yM HO_444000.out).2.1); (case side3 => repeat (first | exact (yc HR0_1.out HB.out) | (with_reducible refine yS ?_ _) | (with_reducible refine yT ?_ _) | (with_reducible refine yU ?_))); (case side4 => exact HC0_1.out); (case side5 => repeat (first | exact (yc HR1_5.out HB.out) | (with_reducible refine yS ?_ _) | (with_reducible refine yT ?_ _) | (with_reducible refine yU ?_))); (case side6 => exact HC1_5.out); rintro e w61 ⟨v455, rfl, ho0, hb⟩; refine ⟨_, rfl, ?_⟩; have n0_ := zK (Kd.R_elder' (by (with_reducible repeat (first | apply zL | apply zM | apply zN)); exact HO_444000.out) (Kd.R_base ho0) hb); have n1_ := zK (Kd.R_elder' (by (with_reducible repeat (first | apply zL | apply zM | apply zN)); exact HO452.out) (Kd.R_base ho0) hb); have n2_ := zK (Kd.R_lower (Kd.R_new' (Kd.R_new' ho0 (Kd.R_lt (by (with_reducible repeat (first | apply zL | apply zM | apply zN)); exact HO_444000.out))) (Kd.R_lt (by (with_reducible repeat (first | apply zL | apply zM | apply zN)); exact HO452.out))) (yK (by repeat (first | (with_reducible first | exact HB.out | apply zJ | apply zD | apply zE | refine zI ?_ Z4.out | refine zI ?_ Z5.out | refine zI ?_ Z6.out) | exact HB.out)))); have n3_ := zK (zP (g := Z24) (o := .cells #[.slice A0_0 l0_0.length c0_0, .slice A0_1 l0_1.length c0_1] 39 (0, 0)) (by (with_reducible repeat (first | refine zF ?_ _ | refine zH ?_ | refine zG ?_ _)); exact Z0.out) hb); have n4_ := zK (zP (g := Z25) (o := .cells #[.int .i64 a1_0, .int .i64 a1_1, .int .i64 a1_2, .int .i64 a1_3, .int .i64 a1_4, .slice A1_5 l1_5.length c1_5] 24 (0, 0)) (by (with_reducible repeat (first | refine zF ?_ _ | refine zH ?_ | refine zG ?_ _)); exact Z1.out) hb); have n5_ := zK (zP (g := Z26) (o := .cells #[.slice Ao60 x444000_1.length co60, .slice A0_1 l0_1.length c0_1] 39 (0, 0)) (by (with_reducible repeat (first | refine zF ?_ _ | refine zH ?_ | refine zG ?_ _)); exact Z2.out) hb); have n6_ := zK (yL (by repeat (first | (with_reducible first | exact HB.out | apply zJ | apply zD | apply zE | refine zI ?_ Z4.out | refine zI ?_ Z5.out | refine zI ?_ Z6.out) | exact HB.out)) hb); clear HO_444000 HO452 Z0 Z1 Z2 HB; have HO_444000 := n0_; have HO452 := n1_; have HO456 := n2_; have Z0 := n3_; have Z1 := n4_; have Z2 := n5_; have HB := n6_; clear n0_ n1_ n2_ n3_ n4_ n5_ n6_; (try clear hb); (try clear hb2); (try clear hk); (try clear hi); (try clear ho0)))
         (try simp only [Act.put, zA, zB, zC])
         go_cut [82] (fun v82 wc => ∃ (kq : Nat) (x82_50 : Bool), v82 = .bool x82_50 ∧ Aside0 (w22_DistMoves.j2 kq t450 x82_50 l0_0 l0_1 a1_0 a1_1 a1_2 a1_3 a1_4 l1_5 = some r) ∧ Aside0 (kq ≤ kj27) ∧ Aside0 (Kd.R (Kd.int .i64) 2 wc w.heap.size (fun k_ => some k_ ≠ ((.slice Ao60 x444000_1.length co60) : Value).ownBlock) v451 t450) ∧ Aside0 (Kd.R (Kd.int .i64) 2 wc w.heap.size (fun k_ => some k_ ≠ (v451 : Value).ownBlock) (.slice Ao60 x444000_1.length co60) x444000_1) ∧ Aside0 (wc.heap[Z24]? = some (.cells #[(.slice A0_0 l0_0.length c0_0), (.slice A0_1 l0_1.length c0_1)] 39 (0, 0))) ∧ Aside0 (wc.heap[Z25]? = some (.cells #[.int .i64 a1_0, .int .i64 a1_1, .int .i64 a1_2, .int .i64 a1_3, .int .i64 a1_4, (.slice A1_5 l1_5.length c1_5)] 24 (0, 0))) ∧ Aside0 (wc.heap[Z26]? = some (.cells #[(.slice Ao60 x444000_1.length co60), (.slice A0_1 l0_1.length c0_1)] 39 (0, 0))) ∧ Aside0 (Below w.heap.size w wc))
         case first =>
          have H := HC51.out
          clear HC51
          by_cases c62 : t453 = 0
          ·rw [if_pos c62] at H
           have c62b0 : (t453 == 0) = true := beq_iff_eq.mpr c62
           have c62b1 : (t453 != 0) = false := bne_eq_false_iff_eq.mpr c62
           clear c62
           (first | rw [c62b0] | (simp only [i64_w, i32_w]; rw [c62b0]) | skip)
           by_cases c63 : t457 = 0
           ·rw [if_pos c63] at H
            have c63b0 : (t457 == 0) = true := beq_iff_eq.mpr c63
            have c63b1 : (t457 != 0) = false := bne_eq_false_iff_eq.mpr c63
            clear c63
            replace H := yA.mp H
            obtain ⟨t458, A640, H⟩ := H
            replace H : (w22_DistMoves.j2 kj27 t450 (!t458) l0_0 l0_1 a1_0 a1_1 a1_2 a1_3 a1_4 l1_5) = some r := H
            have A64 := zK A640
            clear A640
            have H' := zK H
            clear H
            obtain ⟨Ao65, co65, eo65⟩ := Kd.R_slice HO456.out
            subst eo65
            obtain ⟨Ao66, co66, eo66⟩ := Kd.R_slice HO452.out
            subst eo66
            go_wp2_with (first | (go_at_call 21; (with_reducible refine (w22_same.calls kj27 _ _ t454 _ _ t450 t458 _ ?side1 ?side2 ?side3 ?side4 A64.out).mono ?_); (case side1 => repeat (first | exact (yM HO456.out).2.2 | (with_reducible refine yS ?_ _) | (with_reducible refine yT ?_ _) | (with_reducible refine yU ?_))); (case side2 => exact (yM HO456.out).2.1); (case side3 => repeat (first | exact (yM HO452.out).2.2 | (with_reducible refine yS ?_ _) | (with_reducible refine yT ?_ _) | (with_reducible refine yU ?_))); (case side4 => exact (yM HO452.out).2.1); rintro e w' ⟨rfl, ⟨nd, rfl⟩⟩))
            go_meet
            case rel => exact ⟨_, (!t458), (by first | rfl | (simp; done) | (simp [*]; done)), H', ⟨by have := HK1.out; have := HJ27.out; first | omega | exact yN _⟩, ⟨by (with_reducible repeat (first | apply zL | apply zM | apply zN)); exact yd HO452.out (fun _ hk => hk.1.2)⟩, ⟨by (with_reducible repeat (first | apply zL | apply zM | apply zN)); exact yd HO_444000.out (fun _ hk => hk.1.2)⟩, ⟨by (with_reducible repeat (first | refine zF ?_ _ | refine zH ?_ | refine zG ?_ _)); exact Z0.out⟩, ⟨by (with_reducible repeat (first | refine zF ?_ _ | refine zH ?_ | refine zG ?_ _)); exact Z1.out⟩, ⟨by (with_reducible repeat (first | refine zF ?_ _ | refine zH ?_ | refine zG ?_ _)); exact Z2.out⟩, ⟨by repeat (first | (with_reducible first | exact HB.out | apply zJ | apply zD | apply zE | refine zI ?_ Z4.out | refine zI ?_ Z5.out | refine zI ?_ Z6.out) | exact HB.out)⟩⟩
           ·rw [if_neg c63] at H
            have c63b0 : (t457 == 0) = false := beq_eq_false_iff_ne.mpr c63
            have c63b1 : (t457 != 0) = true := bne_iff_ne.mpr c63
            have H' := zK H
            clear H
            go_wp2
            go_meet
            case rel => exact ⟨_, (true), (by first | rfl | (simp; done) | (simp [*]; done)), H', ⟨by have := HK1.out; have := HJ27.out; first | omega | exact yN _⟩, ⟨by (with_reducible repeat (first | apply zL | apply zM | apply zN)); exact yd HO452.out (fun _ hk => hk.1.2)⟩, ⟨by (with_reducible repeat (first | apply zL | apply zM | apply zN)); exact yd HO_444000.out (fun _ hk => hk.1.2)⟩, ⟨by (with_reducible repeat (first | refine zF ?_ _ | refine zH ?_ | refine zG ?_ _)); exact Z0.out⟩, ⟨by (with_reducible repeat (first | refine zF ?_ _ | refine zH ?_ | refine zG ?_ _)); exact Z1.out⟩, ⟨by (with_reducible repeat (first | refine zF ?_ _ | refine zH ?_ | refine zG ?_ _)); exact Z2.out⟩, ⟨by repeat (first | (with_reducible first | exact HB.out | apply zJ | apply zD | apply zE | refine zI ?_ Z4.out | refine zI ?_ Z5.out | refine zI ?_ Z6.out) | exact HB.out)⟩⟩
          ·rw [if_neg c62] at H
           have c62b0 : (t453 == 0) = false := beq_eq_false_iff_ne.mpr c62
           have c62b1 : (t453 != 0) = true := bne_iff_ne.mpr c62
           (first | rw [c62b0] | (simp only [i64_w, i32_w]; rw [c62b0]) | skip)
           have H' := zK H
           clear H
           go_wp2
           go_meet
           case rel => exact ⟨_, (true), (by first | rfl | (simp; done) | (simp [*]; done)), H', ⟨by have := HK1.out; have := HJ27.out; first | omega | exact yN _⟩, ⟨by (with_reducible repeat (first | apply zL | apply zM | apply zN)); exact yd HO452.out (fun _ hk => hk.1.2)⟩, ⟨by (with_reducible repeat (first | apply zL | apply zM | apply zN)); exact yd HO_444000.out (fun _ hk => hk.1.2)⟩, ⟨by (with_reducible repeat (first | refine zF ?_ _ | refine zH ?_ | refine zG ?_ _)); exact Z0.out⟩, ⟨by (with_reducible repeat (first | refine zF ?_ _ | refine zH ?_ | refine zG ?_ _)); exact Z1.out⟩, ⟨by (with_reducible repeat (first | refine zF ?_ _ | refine zH ?_ | refine zG ?_ _)); exact Z2.out⟩, ⟨by repeat (first | (with_reducible first | exact HB.out | apply zJ | apply zD | apply zE | refine zI ?_ Z4.out | refine zI ?_ Z5.out | refine zI ?_ Z6.out) | exact HB.out)⟩⟩
         case rest =>
          clear HC51
          try clear c1
          try clear c2
          try clear p2
          try clear c3
          try clear c4
          try clear p4
          try clear q4
          try clear hx4
          try clear c5
          try clear c6
          try clear p6
          try clear c9
          try clear c12
          try clear c13
          try clear c16
          try clear c16b0
          try clear c17
          try clear c17b0
          try clear c18
          try clear c18b0
          try clear c19
          try clear c19b0
          try clear c20
          try clear c20b0
          try clear c21
          try clear c22
          try clear c23
          try clear c30
          try clear c32
          try clear c33
          try clear c35
          try clear c42
          try clear c43
          try clear p44
          try clear q44
          try clear hx44
          try clear c45
          try clear c48
          try clear c52
          try clear c53
          try clear c55
          try clear c62
          try clear c62b0
          try clear c62b1
          try clear c63
          try clear c63b0
          try clear c63b1
          try clear p64
          try clear hcz10_0
          try clear hcz10_1
          try clear hcz14_0
          try clear hcz14_1
          try clear hcz15_0
          try clear hcz15_1
          try clear hcz24_0
          try clear hcz24_1
          try clear hcz27_0
          try clear hcz27_1
          try clear hcz34_0
          try clear hcz34_1
          try clear hcz36_0
          try clear hcz36_1
          try clear hcz36_2
          try clear hcz36_3
          try clear hcz36_4
          try clear hcz36_5
          try clear hcz38_0
          try clear hcz38_1
          try clear hcz39_0
          try clear hcz39_1
          try clear hcz39_2
          try clear hcz39_3
          try clear hcz39_4
          try clear hcz39_5
          try clear hcz44_0
          try clear hcz44_1
          try clear hcz46_0
          try clear hcz46_1
          try clear hcz46_2
          try clear hcz46_3
          try clear hcz46_4
          try clear hcz46_5
          try clear hcz54_0
          try clear hcz54_1
          try clear hcz56_0
          try clear hcz56_1
          try clear hcz56_2
          try clear hcz56_3
          try clear hcz56_4
          try clear hcz56_5
          try clear hcz58_0
          try clear hcz58_1
          try clear hcz59_0
          try clear hcz59_1
          try clear hcz59_2
          try clear hcz59_3
          try clear hcz59_4
          try clear hcz59_5
          try clear hfz10_0
          try clear hfz10_1
          try clear hfz14_0
          try clear hfz14_1
          try clear hfz15_0
          try clear hfz15_1
          try clear hfz24_0
          try clear hfz24_1
          try clear hfz27_0
          try clear hfz27_1
          try clear hfz34_0
          try clear hfz34_1
          try clear hfz36_0
          try clear hfz36_1
          try clear hfz36_2
          try clear hfz36_3
          try clear hfz36_4
          try clear hfz36_5
          try clear hfz38_0
          try clear hfz38_1
          try clear hfz39_0
          try clear hfz39_1
          try clear hfz39_2
          try clear hfz39_3
          try clear hfz39_4
          try clear hfz39_5
          try clear hfz44_0
          try clear hfz44_1
          try clear hfz46_0
          try clear hfz46_1
          try clear hfz46_2
          try clear hfz46_3
          try clear hfz46_4
          try clear hfz46_5
          try clear hfz54_0
          try clear hfz54_1
          try clear hfz56_0
          try clear hfz56_1
          try clear hfz56_2
          try clear hfz56_3
          try clear hfz56_4
          try clear hfz56_5
          try clear hfz58_0
          try clear hfz58_1
          try clear hfz59_0
          try clear hfz59_1
          try clear hfz59_2
          try clear hfz59_3
          try clear hfz59_4
          try clear hfz59_5
          try clear hx444_0
          try clear p2
          try clear p4
          try clear p44
          try clear p444
          try clear p6
          try clear q4
          try clear q44
          try clear q444
          obtain ⟨kq, x82_50, rfl, HA, HJ50, HO_10, HO_444000, Z0, Z1, Z2, HB⟩ := hcut
          cases kq with
          | zero => exact absurd HA.out (by simp [w22_DistMoves.j2])
          | succ kj50 =>
           have H := HA.out
           clear HA
           simp only [w22_DistMoves.j2] at H
           by_cases c67 : x82_50 = true
           ·subst c67
            have H1 : (some false) = some r := by rw [if_pos rfl] at H; exact H
            clear H
            have H := H1
            clear H1
            obtain rfl := yY H
            go_wp2
            go_ret
            exact ⟨by first | rfl | (simp [errW_none, errW_some] <;> rfl) | (simp [*, errW_none, errW_some] <;> rfl), by repeat (first | (with_reducible first | exact HB.out | apply zJ | apply zD | apply zE | refine zI ?_ Z4.out | refine zI ?_ Z5.out | refine zI ?_ Z6.out) | exact HB.out)⟩
           ·replace c67 := yh.mpr c67
            subst c67
            have H1 : (w22_DistMoves.l1 kj50 t450 (l0_0.length : Int) 0 l0_0 l0_1 a1_0 a1_1 a1_2 a1_3 a1_4 l1_5 ([] : List Int) l0_1) = some r := by rw [if_neg (show ¬ (false = true) by decide)] at H; exact H
            clear H
            have H := H1
            clear H1
            have H' := zK H
            clear H
            have hnb68 := Z12.out
            have hnc68 := Z15.out
            have hnb69 := Z13.out
            have hnc69 := Z18.out
            have hcz70_0 : wc.cell? ⟨Z24, 0, none⟩ = some (.slice A0_0 l0_0.length c0_0) := (zO Z0.out 0).trans rfl
            have hcz70_1 : wc.cell? ⟨Z24, 1, none⟩ = some (.slice A0_1 l0_1.length c0_1) := (zO Z0.out 1).trans rfl
            have hfz70_0 := yE Z0.out 0
            have hfz70_1 := yE Z0.out 1
            go_wp2_with (first | ((with_reducible refine gate_dst (N := 14) rfl ?_); refine box_event ?hg (N := 14) ?hd (cs := #[.slice none 0 0, .slice none 0 0]) (t := 39) ?hr ?_; (case hd => rfl); (case hg => rfl); (case hr => first | (go_simp; done) | (go_simp; rfl)); intro Z27 hg w71 hbox hb; have n0_ := zK (yb (by (with_reducible repeat (first | apply zL | apply zM | apply zN)); exact HO_10.out) hb); have n1_ := zK (yb (by (with_reducible repeat (first | apply zL | apply zM | apply zN)); exact HO_444000.out) hb); have n2_ := zK (zP (g := Z24) (o := .cells #[.slice A0_0 l0_0.length c0_0, .slice A0_1 l0_1.length c0_1] 39 (0, 0)) (by (with_reducible repeat (first | refine zF ?_ _ | refine zH ?_ | refine zG ?_ _)); exact Z0.out) hb); have n3_ := zK (zP (g := Z25) (o := .cells #[.int .i64 a1_0, .int .i64 a1_1, .int .i64 a1_2, .int .i64 a1_3, .int .i64 a1_4, .slice A1_5 l1_5.length c1_5] 24 (0, 0)) (by (with_reducible repeat (first | refine zF ?_ _ | refine zH ?_ | refine zG ?_ _)); exact Z1.out) hb); have n4_ := zK (zP (g := Z26) (o := .cells #[.slice Ao60 x444000_1.length co60, .slice A0_1 l0_1.length c0_1] 39 (0, 0)) (by (with_reducible repeat (first | refine zF ?_ _ | refine zH ?_ | refine zG ?_ _)); exact Z2.out) hb); have n5_ := zK (yL (by repeat (first | (with_reducible first | exact HB.out | apply zJ | apply zD | apply zE | refine zI ?_ Z4.out | refine zI ?_ Z5.out | refine zI ?_ Z6.out) | exact HB.out)) hb); have n6_ := zK (hbox); have n7_ := zK ((by rw [hg]; exact (yK (by repeat (first | (with_reducible first | exact HB.out | apply zJ | apply zD | apply zE | refine zI ?_ Z4.out | refine zI ?_ Z5.out | refine zI ?_ Z6.out) | exact HB.out))) : w.heap.size ≤ Z27)); have n8_ := zK ((by rw [hg]; exact (yK (by repeat (first | (with_reducible first | exact HB.out | apply zJ | apply zD | apply zE | refine zI ?_ Z4.out | refine zI ?_ Z5.out | refine zI ?_ Z6.out) | exact HB.out))) : w.heap.size ≤ Z27)); have n9_ := zK ((by rw [hg]; exact ym (yo (g := Z24) (o := .cells #[.slice A0_0 l0_0.length c0_0, .slice A0_1 l0_1.length c0_1] 39 (0, 0)) (by (with_reducible repeat (first | refine zF ?_ _ | refine zH ?_ | refine zG ?_ _)); exact Z0.out)) : Z24 ≠ Z27)); have n10_ := zK ((by rw [hg]; exact yn (yo (g := Z24) (o := .cells #[.slice A0_0 l0_0.length c0_0, .slice A0_1 l0_1.length c0_1] 39 (0, 0)) (by (with_reducible repeat (first | refine zF ?_ _ | refine zH ?_ | refine zG ?_ _)); exact Z0.out)) : Z27 ≠ Z24)); have n11_ := zK ((by rw [hg]; exact ym (yo (g := Z25) (o := .cells #[.int .i64 a1_0, .int .i64 a1_1, .int .i64 a1_2, .int .i64 a1_3, .int .i64 a1_4, .slice A1_5 l1_5.length c1_5] 24 (0, 0)) (by (with_reducible repeat (first | refine zF ?_ _ | refine zH ?_ | refine zG ?_ _)); exact Z1.out)) : Z25 ≠ Z27)); have n12_ := zK ((by rw [hg]; exact yn (yo (g := Z25) (o := .cells #[.int .i64 a1_0, .int .i64 a1_1, .int .i64 a1_2, .int .i64 a1_3, .int .i64 a1_4, .slice A1_5 l1_5.length c1_5] 24 (0, 0)) (by (with_reducible repeat (first | refine zF ?_ _ | refine zH ?_ | refine zG ?_ _)); exact Z1.out)) : Z27 ≠ Z25)); have n13_ := zK ((by rw [hg]; exact ym (yo (g := Z26) (o := .cells #[.slice Ao60 x444000_1.length co60, .slice A0_1 l0_1.length c0_1] 39 (0, 0)) (by (with_reducible repeat (first | refine zF ?_ _ | refine zH ?_ | refine zG ?_ _)); exact Z2.out)) : Z26 ≠ Z27)); have n14_ := zK ((by rw [hg]; exact yn (yo (g := Z26) (o := .cells #[.slice Ao60 x444000_1.length co60, .slice A0_1 l0_1.length c0_1] 39 (0, 0)) (by (with_reducible repeat (first | refine zF ?_ _ | refine zH ?_ | refine zG ?_ _)); exact Z2.out)) : Z27 ≠ Z26)); clear HO_10 HO_444000 Z0 Z1 Z2 HB; have HO_10 := n0_; have HO_444000 := n1_; have Z0 := n2_; have Z1 := n3_; have Z2 := n4_; have HB := n5_; have Z3 := n6_; have Z11 := n7_; have Z7 := n8_; have Z14 := n9_; have Z21 := n10_; have Z17 := n11_; have Z22 := n12_; have Z20 := n13_; have Z23 := n14_; clear n0_ n1_ n2_ n3_ n4_ n5_ n6_ n7_ n8_ n9_ n10_ n11_ n12_ n13_ n14_ hb hbox hg; have hnb72 := Z21.out; have hnc72 := Z14.out; have hnb73 := Z22.out; have hnc73 := Z17.out; have hnb74 := Z23.out; have hnc74 := Z20.out; have hcz75_0 : w71.cell? ⟨Z27, 0, none⟩ = some (.slice none 0 0) := (zO Z3.out 0).trans rfl; have hcz75_1 : w71.cell? ⟨Z27, 1, none⟩ = some (.slice none 0 0) := (zO Z3.out 1).trans rfl; have hfz75_0 := yE Z3.out 0; have hfz75_1 := yE Z3.out 1; have hcz76_0 : w71.cell? ⟨Z24, 0, none⟩ = some (.slice A0_0 l0_0.length c0_0) := (zO Z0.out 0).trans rfl; have hcz76_1 : w71.cell? ⟨Z24, 1, none⟩ = some (.slice A0_1 l0_1.length c0_1) := (zO Z0.out 1).trans rfl; have hfz76_0 := yE Z0.out 0; have hfz76_1 := yE Z0.out 1))
            go_loopg [89] kj50 (fun kq v89 w' => ∃ (x89_4 : Int) (x460000_4 : List Int) (u460000 : Value), v89 = .int .i64 x89_4 ∧ Aside0 (w22_DistMoves.l1 kq t450 (l0_0.length : Int) x89_4 l0_0 l0_1 a1_0 a1_1 a1_2 a1_3 a1_4 l1_5 x460000_4 l0_1 = some r) ∧ Aside0 (kq ≤ kj50) ∧ Aside0 (Kd.R (Kd.int .i64) 2 w' w.heap.size (fun k_ => some k_ ≠ ((.slice Ao60 x444000_1.length co60) : Value).ownBlock ∧ some k_ ≠ (u460000 : Value).ownBlock) v451 t450) ∧ Aside0 (Kd.R (Kd.int .i64) 2 w' w.heap.size (fun k_ => some k_ ≠ (v451 : Value).ownBlock ∧ some k_ ≠ (u460000 : Value).ownBlock) (.slice Ao60 x444000_1.length co60) x444000_1) ∧ Aside0 (Kd.R (Kd.int .i64) 2 w' w.heap.size (fun k_ => some k_ ≠ (v451 : Value).ownBlock ∧ some k_ ≠ ((.slice Ao60 x444000_1.length co60) : Value).ownBlock) u460000 x460000_4) ∧ Aside0 (w'.heap[Z24]? = some (.cells #[(.slice A0_0 l0_0.length c0_0), (.slice A0_1 l0_1.length c0_1)] 39 (0, 0))) ∧ Aside0 (w'.heap[Z25]? = some (.cells #[.int .i64 a1_0, .int .i64 a1_1, .int .i64 a1_2, .int .i64 a1_3, .int .i64 a1_4, (.slice A1_5 l1_5.length c1_5)] 24 (0, 0))) ∧ Aside0 (w'.heap[Z26]? = some (.cells #[(.slice Ao60 x444000_1.length co60), (.slice A0_1 l0_1.length c0_1)] 39 (0, 0))) ∧ Aside0 (w'.heap[Z27]? = some (.cells #[u460000, (.slice A0_1 l0_1.length c0_1)] 39 (0, 0))) ∧ Aside0 (Below w.heap.size w w'))
            case atStart => exact ⟨(0), (([] : List Int)), (.slice none 0 0), (by first | rfl | (simp; done) | (simp [*]; done)), H', ⟨yN _⟩, ⟨by (with_reducible repeat (first | apply zL | apply zM | apply zN)); exact yd (Kd.R_far (p := ⟨Z27, 1, none⟩) (Kd.R_far (p := ⟨Z27, 0, none⟩) (Kd.R_types HO_10.out Z3.out (by decide)) (fun _ hk => hk.2) (.slice none 0 0)) (fun _ hk => hk.2) (.slice A0_1 l0_1.length c0_1)) (fun _ hk => ⟨hk.1, (by simp [Value.ownBlock])⟩)⟩, ⟨by (with_reducible repeat (first | apply zL | apply zM | apply zN)); exact yd (Kd.R_far (p := ⟨Z27, 1, none⟩) (Kd.R_far (p := ⟨Z27, 0, none⟩) (Kd.R_types HO_444000.out Z3.out (by decide)) (fun _ hk => hk.2) (.slice none 0 0)) (fun _ hk => hk.2) (.slice A0_1 l0_1.length c0_1)) (fun _ hk => ⟨hk.1, (by simp [Value.ownBlock])⟩)⟩, ⟨by first | exact Kd.R_nil _ _ _ _ _ | exact Kd.N_nil _ _ _ _ _ | exact Kd.V_nil _ _ _ _ _ | exact Kd.Q_nil _ _ _ _ _ | exact Kd.S_nil _ _ _ _ _⟩, ⟨by (with_reducible repeat (first | refine zF ?_ _ | refine zH ?_ | refine zG ?_ _)); refine blk_far ?_ Z14.out _; (with_reducible repeat (first | refine zF ?_ _ | refine zH ?_ | refine zG ?_ _)); refine blk_far ?_ Z14.out _; (with_reducible repeat (first | refine zF ?_ _ | refine zH ?_ | refine zG ?_ _)); exact Z0.out⟩, ⟨by (with_reducible repeat (first | refine zF ?_ _ | refine zH ?_ | refine zG ?_ _)); refine blk_far ?_ Z17.out _; (with_reducible repeat (first | refine zF ?_ _ | refine zH ?_ | refine zG ?_ _)); refine blk_far ?_ Z17.out _; (with_reducible repeat (first | refine zF ?_ _ | refine zH ?_ | refine zG ?_ _)); exact Z1.out⟩, ⟨by (with_reducible repeat (first | refine zF ?_ _ | refine zH ?_ | refine zG ?_ _)); refine blk_far ?_ Z20.out _; (with_reducible repeat (first | refine zF ?_ _ | refine zH ?_ | refine zG ?_ _)); refine blk_far ?_ Z20.out _; (with_reducible repeat (first | refine zF ?_ _ | refine zH ?_ | refine zG ?_ _)); exact Z2.out⟩, ⟨by (with_reducible repeat (first | refine zF ?_ _ | refine zH ?_ | refine zG ?_ _)); refine blk_put (cs := #[.slice none 0 0, .slice none 0 0]) ?_ 1 _ rfl; (with_reducible repeat (first | refine zF ?_ _ | refine zH ?_ | refine zG ?_ _)); refine blk_put (cs := #[.slice none 0 0, .slice none 0 0]) ?_ 0 _ rfl; (with_reducible repeat (first | refine zF ?_ _ | refine zH ?_ | refine zG ?_ _)); exact Z3.out⟩, ⟨by repeat (first | (with_reducible first | exact HB.out | apply zJ | apply zD | apply zE | refine zI ?_ Z4.out | refine zI ?_ Z5.out | refine zI ?_ Z6.out | refine zI ?_ Z7.out) | exact HB.out)⟩⟩
            case round =>
             clear H'
             try clear c1
             try clear c2
             try clear p2
             try clear c3
             try clear c4
             try clear p4
             try clear q4
             try clear hx4
             try clear c5
             try clear c6
             try clear p6
             try clear c7
             try clear c9
             try clear c12
             try clear c13
             try clear c16
             try clear c16b0
             try clear c17
             try clear c17b0
             try clear c18
             try clear c18b0
             try clear c19
             try clear c19b0
             try clear c20
             try clear c20b0
             try clear c21
             try clear c22
             try clear c23
             try clear c30
             try clear c32
             try clear c33
             try clear c35
             try clear c42
             try clear c43
             try clear p44
             try clear q44
             try clear hx44
             try clear c45
             try clear c48
             try clear c52
             try clear c53
             try clear c55
             try clear c62
             try clear c62b0
             try clear c62b1
             try clear c63
             try clear c63b0
             try clear c63b1
             try clear p64
             try clear c67
             try clear c68
             try clear c69
             try clear c72
             try clear c73
             try clear c74
             try clear hcz10_0
             try clear hcz10_1
             try clear hcz14_0
             try clear hcz14_1
             try clear hcz15_0
             try clear hcz15_1
             try clear hcz24_0
             try clear hcz24_1
             try clear hcz27_0
             try clear hcz27_1
             try clear hcz34_0
             try clear hcz34_1
             try clear hcz36_0
             try clear hcz36_1
             try clear hcz36_2
             try clear hcz36_3
             try clear hcz36_4
             try clear hcz36_5
             try clear hcz38_0
             try clear hcz38_1
             try clear hcz39_0
             try clear hcz39_1
             try clear hcz39_2
             try clear hcz39_3
             try clear hcz39_4
             try clear hcz39_5
             try clear hcz44_0
             try clear hcz44_1
             try clear hcz46_0
             try clear hcz46_1
             try clear hcz46_2
             try clear hcz46_3
             try clear hcz46_4
             try clear hcz46_5
             try clear hcz54_0
             try clear hcz54_1
             try clear hcz56_0
             try clear hcz56_1
             try clear hcz56_2
             try clear hcz56_3
             try clear hcz56_4
             try clear hcz56_5
             try clear hcz58_0
             try clear hcz58_1
             try clear hcz59_0
             try clear hcz59_1
             try clear hcz59_2
             try clear hcz59_3
             try clear hcz59_4
             try clear hcz59_5
             try clear hcz70_0
             try clear hcz70_1
             try clear hcz75_0
             try clear hcz75_1
             try clear hcz76_0
             try clear hcz76_1
             try clear hfz10_0
             try clear hfz10_1
             try clear hfz14_0
             try clear hfz14_1
             try clear hfz15_0
             try clear hfz15_1
             try clear hfz24_0
             try clear hfz24_1
             try clear hfz27_0
             try clear hfz27_1
             try clear hfz34_0
             try clear hfz34_1
             try clear hfz36_0
             try clear hfz36_1
             try clear hfz36_2
             try clear hfz36_3
             try clear hfz36_4
             try clear hfz36_5
             try clear hfz38_0
             try clear hfz38_1
             try clear hfz39_0
             try clear hfz39_1
             try clear hfz39_2
             try clear hfz39_3
             try clear hfz39_4
             try clear hfz39_5
             try clear hfz44_0
             try clear hfz44_1
             try clear hfz46_0
             try clear hfz46_1
             try clear hfz46_2
             try clear hfz46_3
             try clear hfz46_4
             try clear hfz46_5
             try clear hfz54_0
             try clear hfz54_1
             try clear hfz56_0
             try clear hfz56_1
             try clear hfz56_2
             try clear hfz56_3
             try clear hfz56_4
             try clear hfz56_5
             try clear hfz58_0
             try clear hfz58_1
             try clear hfz59_0
             try clear hfz59_1
             try clear hfz59_2
             try clear hfz59_3
             try clear hfz59_4
             try clear hfz59_5
             try clear hfz70_0
             try clear hfz70_1
             try clear hfz75_0
             try clear hfz75_1
             try clear hfz76_0
             try clear hfz76_1
             try clear hx444_0
             try clear p2
             try clear p4
             try clear p44
             try clear p444
             try clear p6
             try clear p64
             try clear q4
             try clear q44
             try clear q444
             obtain ⟨x89_4, x460000_4, u460000, rfl, HA, HK4, HO_10, HO_444000, HO_460000, Z0, Z1, Z2, Z3, HB⟩ := hrel
             cases gk with
             | zero => exact absurd HA.out (by simp [w22_DistMoves.l1])
             | succ k4 =>
              have H := HA.out
              clear HA
              simp only [w22_DistMoves.l1] at H
              by_cases c77 : x89_4 < (l0_0.length : Int)
              ·rw [if_pos c77] at H
               have c77b0 : decide (x89_4 < (l0_0.length : Int)) = true := yC c77
               clear c77
               replace H := yA.mp H
               obtain ⟨t460, A780, H⟩ := H
               replace H : (if x460000_4.length < 17592186044416 then (w22_DistMoves.l1 k4 t450 (l0_0.length : Int) (wrap64 (x89_4 + 1)) l0_0 l0_1 a1_0 a1_1 a1_2 a1_3 a1_4 l1_5 (x460000_4 ++ [t460]) l0_1) else (none)) = some r := H
               have A78 := zK A780
               clear A780
               by_cases c79 : x460000_4.length < 17592186044416
               ·rw [if_pos c79] at H
                have LMc79 := zK c79
                clear c79
                obtain ⟨y461, hy461⟩ : ∃ y_ : List Int, y_ = (x460000_4 ++ [t460]) := ⟨_, rfl⟩
                replace H : (w22_DistMoves.l1 k4 t450 (l0_0.length : Int) (wrap64 (x89_4 + 1)) l0_0 l0_1 a1_0 a1_1 a1_2 a1_3 a1_4 l1_5 y461 l0_1) = some r := by first | (rw [hy461]; with_reducible exact H) | (have H2_ := (yV _ _).symm.trans H; rw [hy461]; with_reducible exact H2_) | (have H2_ := (yV _ _).symm.trans H; with_reducible exact H2_) | with_reducible exact H | (rw [hy461]; exact H) | exact H
                have Ny461 := zK hy461
                clear hy461
                have H' := zK H
                clear H
                try go_wp2
                have n0_ := zK (zN HO_10.out)
                have n1_ := zK (zN HO_444000.out)
                have n2_ := zK (zN HO_460000.out)
                have n3_ := zK (zH Z0.out)
                have n4_ := zK (zH Z1.out)
                have n5_ := zK (zH Z2.out)
                have n6_ := zK (zH Z3.out)
                have n7_ := zK (zE HB.out)
                clear HO_10 HO_444000 HO_460000 Z0 Z1 Z2 Z3 HB
                have HO_10 := n0_; have HO_444000 := n1_; have HO_460000 := n2_; have Z0 := n3_; have Z1 := n4_; have Z2 := n5_; have Z3 := n6_; have HB := n7_
                clear n0_ n1_ n2_ n3_ n4_ n5_ n6_ n7_
                refine start_ (n := 10) (S := fun w' => w'.cell? ⟨Z27, 0, none⟩ = some (u460000) ∧ w'.cell? ⟨Z27, 1, none⟩ = some (.slice A0_1 l0_1.length c0_1) ∧ w'.cell? ⟨Z24, 0, none⟩ = some (.slice A0_0 l0_0.length c0_0) ∧ w'.cell? ⟨Z24, 1, none⟩ = some (.slice A0_1 l0_1.length c0_1) ∧ w'.cell? ⟨Z25, 0, none⟩ = some (.int .i64 a1_0) ∧ w'.cell? ⟨Z25, 1, none⟩ = some (.int .i64 a1_1) ∧ w'.cell? ⟨Z25, 2, none⟩ = some (.int .i64 a1_2) ∧ w'.cell? ⟨Z25, 3, none⟩ = some (.int .i64 a1_3) ∧ w'.cell? ⟨Z25, 4, none⟩ = some (.int .i64 a1_4) ∧ w'.cell? ⟨Z25, 5, none⟩ = some (.slice A1_5 l1_5.length c1_5)) (ds := [9]) #[false, false, false, false, false, false, false, false, false, false] (by kernel_rfl) rfl rfl ⟨(zO Z3.out 0).trans rfl, (zO Z3.out 1).trans rfl, (zO Z0.out 0).trans rfl, (zO Z0.out 1).trans rfl, (zO Z1.out 0).trans rfl, (zO Z1.out 1).trans rfl, (zO Z1.out 2).trans rfl, (zO Z1.out 3).trans rfl, (zO Z1.out 4).trans rfl, (zO Z1.out 5).trans rfl⟩ (fun hHeld => ?_); refine with_tabW w22_DistMoves.tab21 w22_DistMoves.bits21 (fun HT_ HW_ => ?_)
                generalize wr.drew = w80 at HO_10 HO_444000 HO_460000 Z0 Z1 Z2 Z3 HB hHeld ⊢
                refine pure_ (i := 0) (N := some 92) (v := ?_) (a' := ?_) #[true, false, false, false, false, false, false, false, false, false] rfl rfl (any_of HT_.out (by kernel_rfl)) (fun _ _ _ h => h) (Or.inl ⟨by rfl, ?_⟩) ?_ ?_
                rotate_left
                ·intro w'
                 go_simp
                 with_reducible rfl
                rotate_left
                ·simp only [Act.put, zA, zB, zC, i64_w, i32_w]
                 rfl
                refine pure_ (i := 4) (N := some 96) (v := ?_) (a' := ?_) #[true, false, false, false, true, false, false, false, false, false] rfl rfl (any_of HT_.out (by kernel_rfl)) (fun _ _ _ h => h) (Or.inl ⟨by rfl, ?_⟩) ?_ ?_
                rotate_left
                ·intro w'
                 go_simp
                 with_reducible rfl
                rotate_left
                ·simp only [Act.put, zA, zB, zC, i64_w, i32_w]
                 rfl
                refine take_ (i := 1) (N := some 93) (v := ?_) (a' := ?_) #[true, true, false, false, true, false, false, false, false, false] rfl rfl (take_ofW HT_.out HW_.out (by kernel_rfl)) (fun _ _ _ h => h) (Or.inl ⟨by rfl, ?_⟩) hHeld ?_ ?_
                rotate_left
                ·rintro w' ⟨s0, s1, s2, s3, s4, s5, s6, s7, s8, s9⟩
                 go_simp
                 with_reducible rfl
                rotate_left
                ·simp only [Act.put, zA, zB, zC, i64_w, i32_w]
                 rfl
                refine take_ (i := 2) (N := some 94) (v := ?_) (a' := ?_) #[true, true, true, false, true, false, false, false, false, false] rfl rfl (take_ofW HT_.out HW_.out (by kernel_rfl)) (fun _ _ _ h => h) (Or.inl ⟨by rfl, ?_⟩) hHeld ?_ ?_
                rotate_left
                ·rintro w' ⟨s0, s1, s2, s3, s4, s5, s6, s7, s8, s9⟩
                 go_simp
                 with_reducible rfl
                rotate_left
                ·simp only [Act.put, zA, zB, zC, i64_w, i32_w]
                 rfl
                refine take_ (i := 3) (N := some 95) (v := ?_) (a' := ?_) #[true, true, true, true, true, false, false, false, false, false] rfl rfl (take_ofW HT_.out HW_.out (by kernel_rfl)) (fun _ _ _ h => h) (Or.inl ⟨by rfl, ?_⟩) hHeld ?_ ?_
                rotate_left
                ·rintro w' ⟨s0, s1, s2, s3, s4, s5, s6, s7, s8, s9⟩
                 go_simp
                 with_reducible rfl
                rotate_left
                ·simp only [Act.put, zA, zB, zC, i64_w, i32_w]
                 rfl
                refine one_ (i := 5) (N := some 97) #[true, true, true, true, true, true, false, false, false, false] rfl rfl (one_of HT_.out (by kernel_rfl)) (by decide) (fun K hK => ?_)
                refine goes_ Try.func24 (by kernel_rfl) rfl #[.agg #[.slice A0_0 l0_0.length c0_0, .slice A0_1 l0_1.length c0_1], .agg #[.int .i64 a1_0, .int .i64 a1_1, .int .i64 a1_2, .int .i64 a1_3, .int .i64 a1_4, .slice A1_5 l1_5.length c1_5], .int .i64 x89_4] (by rfl) rfl rfl (by (try simp only [yH, yI, yJ]); first | done | rfl | (simp only [yG, yF]; rfl)) ?_
                with_reducible refine (w22_score.calls k4 _ _ l0_0 _ _ l0_1 a1_0 a1_1 a1_2 a1_3 a1_4 _ _ l1_5 x89_4 t460 _ ?side1 ?side2 ?side3 ?side4 ?side5 ?side6 A78.out).mono ?_
                (case side1 => repeat (first | exact (yc HR0_0.out HB.out) | (with_reducible refine yS ?_ _) | (with_reducible refine yT ?_ _) | (with_reducible refine yU ?_)))
                (case side2 => exact HC0_0.out)
                (case side3 => repeat (first | exact (yc HR0_1.out HB.out) | (with_reducible refine yS ?_ _) | (with_reducible refine yT ?_ _) | (with_reducible refine yU ?_)))
                (case side4 => exact HC0_1.out)
                (case side5 => repeat (first | exact (yc HR1_5.out HB.out) | (with_reducible refine yS ?_ _) | (with_reducible refine yT ?_ _) | (with_reducible refine yU ?_)))
                (case side6 => exact HC1_5.out)
                rintro e w81 ⟨rfl, hb⟩
                refine ⟨_, rfl, ?_⟩
                have n0_ := zK (yb (by (with_reducible repeat (first | apply zL | apply zM | apply zN)); exact HO_10.out) hb)
                have n1_ := zK (yb (by (with_reducible repeat (first | apply zL | apply zM | apply zN)); exact HO_444000.out) hb)
                have n2_ := zK (yb (by (with_reducible repeat (first | apply zL | apply zM | apply zN)); exact HO_460000.out) hb)
                have n3_ := zK (zP (g := Z24) (o := .cells #[.slice A0_0 l0_0.length c0_0, .slice A0_1 l0_1.length c0_1] 39 (0, 0)) (by (with_reducible repeat (first | refine zF ?_ _ | refine zH ?_ | refine zG ?_ _)); exact Z0.out) hb)
                have n4_ := zK (zP (g := Z25) (o := .cells #[.int .i64 a1_0, .int .i64 a1_1, .int .i64 a1_2, .int .i64 a1_3, .int .i64 a1_4, .slice A1_5 l1_5.length c1_5] 24 (0, 0)) (by (with_reducible repeat (first | refine zF ?_ _ | refine zH ?_ | refine zG ?_ _)); exact Z1.out) hb)
                have n5_ := zK (zP (g := Z26) (o := .cells #[.slice Ao60 x444000_1.length co60, .slice A0_1 l0_1.length c0_1] 39 (0, 0)) (by (with_reducible repeat (first | refine zF ?_ _ | refine zH ?_ | refine zG ?_ _)); exact Z2.out) hb)
                have n6_ := zK (zP (g := Z27) (o := .cells #[u460000, .slice A0_1 l0_1.length c0_1] 39 (0, 0)) (by (with_reducible repeat (first | refine zF ?_ _ | refine zH ?_ | refine zG ?_ _)); exact Z3.out) hb)
                have n7_ := zK (yL (by repeat (first | (with_reducible first | exact HB.out | apply zJ | apply zD | apply zE | refine zI ?_ Z4.out | refine zI ?_ Z5.out | refine zI ?_ Z6.out | refine zI ?_ Z7.out) | exact HB.out)) hb)
                clear HO_10 HO_444000 HO_460000 Z0 Z1 Z2 Z3 HB
                have HO_10 := n0_; have HO_444000 := n1_; have HO_460000 := n2_; have Z0 := n3_; have Z1 := n4_; have Z2 := n5_; have Z3 := n6_; have HB := n7_
                clear n0_ n1_ n2_ n3_ n4_ n5_ n6_ n7_
                (try clear hb)
                (try clear hb2)
                (try clear hk)
                (try clear hi)
                refine hK.out _ _ ⟨(zO Z3.out 0).trans rfl, (zO Z3.out 1).trans rfl, (zO Z0.out 0).trans rfl, (zO Z0.out 1).trans rfl, (zO Z1.out 0).trans rfl, (zO Z1.out 1).trans rfl, (zO Z1.out 2).trans rfl, (zO Z1.out 3).trans rfl, (zO Z1.out 4).trans rfl, (zO Z1.out 5).trans rfl⟩ (fun hHeld => ?_)
                clear hK K
                refine norm_ (a' := ?_) ?_ ?_
                rotate_left
                ·show Act.put _ (some 97) _ = _
                 simp only [Act.put, zA, zB, zC, i64_w, i32_w]
                 rfl
                refine one_ (i := 6) (N := some 98) #[true, true, true, true, true, true, true, false, false, false] rfl rfl (one_of HT_.out (by kernel_rfl)) (by decide) (fun K hK => ?_)
                refine value_ (w1 := ?_) (v := ?_) (by rfl) rfl ?_ ?_
                rotate_left 2
                ·go_simp
                 constructor
                 ·rfl
                 ·rfl
                refine hK.out _ _ ⟨(zO (zG Z3.out _) 0).trans rfl, (zO (zG Z3.out _) 1).trans rfl, (zO (zG Z0.out _) 0).trans rfl, (zO (zG Z0.out _) 1).trans rfl, (zO (zG Z1.out _) 0).trans rfl, (zO (zG Z1.out _) 1).trans rfl, (zO (zG Z1.out _) 2).trans rfl, (zO (zG Z1.out _) 3).trans rfl, (zO (zG Z1.out _) 4).trans rfl, (zO (zG Z1.out _) 5).trans rfl⟩ (fun hHeld => ?_)
                clear hK K
                refine norm_ (a' := ?_) ?_ ?_
                rotate_left
                ·show Act.put _ (some 98) _ = _
                 simp only [Act.put, zA, zB, zC, i64_w, i32_w]
                 rfl
                refine one_ (i := 7) (N := some 99) #[true, true, true, true, true, true, true, true, false, false] rfl rfl (one_of HT_.out (by kernel_rfl)) (by decide) (fun K hK => ?_)
                refine Kd.R_append_step (Kd.int .i64) (w0 := w) w.heap.size (by rfl) (.tmp 93) (.tmp 98) 36 2 (.int .i64 0) 8 rfl Try.underlying36 info2 rfl (by decide) (by omega) u460000 x460000_4 t460 [.int .i64 t460] (fun k_ => some k_ ≠ (v451 : Value).ownBlock ∧ some k_ ≠ (.slice Ao60 x444000_1.length co60 : Value).ownBlock) (fun _ => False) rfl rfl ?aP (fun _ hk => hk.elim) ?aF ?aO ?aB ?aS ?aL ?_
                (case aP => exact rfl)
                (case aB => exact (by repeat (first | (with_reducible first | exact HB.out | apply zJ | apply zD | apply zE | refine zI ?_ Z4.out | refine zI ?_ Z5.out | refine zI ?_ Z6.out | refine zI ?_ Z7.out) | exact HB.out)))
                (case aF => exact (fun k_ hk => ⟨Kd.fresh' (Kd.R_lt (by (with_reducible repeat (first | apply zL | apply zM | apply zN)); exact HO_10.out)) k_ hk, Kd.fresh' (Kd.R_lt (by (with_reducible repeat (first | apply zL | apply zM | apply zN)); exact HO_444000.out)) k_ hk⟩))
                (case aO => exact (by (with_reducible repeat (first | apply zL | apply zM | apply zN)); exact HO_460000.out))
                (case aS => exact (yK (by repeat (first | (with_reducible first | exact HB.out | apply zJ | apply zD | apply zE | refine zI ?_ Z4.out | refine zI ?_ Z5.out | refine zI ?_ Z6.out | refine zI ?_ Z7.out) | exact HB.out))))
                (case aL => have := LMc79.out; omega)
                intro v462 w82 ho hb hg hat
                rw [← Ny461.out] at ho
                have n0_ := zK (Kd.R_after (ok := (fun k_ => some k_ ≠ (.slice Ao60 x444000_1.length co60 : Value).ownBlock)) (by (with_reducible repeat (first | apply zL | apply zM | apply zN)); exact HO_10.out) hg hat)
                have n1_ := zK (Kd.R_after (ok := (fun k_ => some k_ ≠ (v451 : Value).ownBlock)) (by (with_reducible repeat (first | apply zL | apply zM | apply zN)); exact HO_444000.out) hg hat)
                have n2_ := zK (blk_grown (g := Z24) (o := .cells #[.slice A0_0 l0_0.length c0_0, .slice A0_1 l0_1.length c0_1] 39 (0, 0)) (by (with_reducible repeat (first | refine zF ?_ _ | refine zH ?_ | refine zG ?_ _)); exact Z0.out) hg (Kd.R_ne HO_460000.out Z0.out (by decide)))
                have n3_ := zK (blk_grown (g := Z25) (o := .cells #[.int .i64 a1_0, .int .i64 a1_1, .int .i64 a1_2, .int .i64 a1_3, .int .i64 a1_4, .slice A1_5 l1_5.length c1_5] 24 (0, 0)) (by (with_reducible repeat (first | refine zF ?_ _ | refine zH ?_ | refine zG ?_ _)); exact Z1.out) hg (Kd.R_ne HO_460000.out Z1.out (by decide)))
                have n4_ := zK (blk_grown (g := Z26) (o := .cells #[.slice Ao60 x444000_1.length co60, .slice A0_1 l0_1.length c0_1] 39 (0, 0)) (by (with_reducible repeat (first | refine zF ?_ _ | refine zH ?_ | refine zG ?_ _)); exact Z2.out) hg (Kd.R_ne HO_460000.out Z2.out (by decide)))
                have n5_ := zK (blk_grown (g := Z27) (o := .cells #[u460000, .slice A0_1 l0_1.length c0_1] 39 (0, 0)) (by (with_reducible repeat (first | refine zF ?_ _ | refine zH ?_ | refine zG ?_ _)); exact Z3.out) hg (Kd.R_ne HO_460000.out Z3.out (by decide)))
                have n6_ := zK (hb)
                have n7_ := zK (ho)
                clear HO_10 HO_444000 Z0 Z1 Z2 Z3 HB HO_460000
                have HO_10 := n0_; have HO_444000 := n1_; have Z0 := n2_; have Z1 := n3_; have Z2 := n4_; have Z3 := n5_; have HB := n6_; have HO463 := n7_
                clear n0_ n1_ n2_ n3_ n4_ n5_ n6_ n7_ ho hb hg hat
                obtain ⟨Ao83, co83, eo83⟩ := Kd.R_slice HO463.out
                (first | subst eo83 | (injection eo83 with f1_ f2_ f3_; have f4_ := f1_.symm; have f5_ := f3_.symm; clear f1_ f2_ f3_; subst f4_; subst f5_))
                refine hK.out _ _ ⟨(zO Z3.out 0).trans rfl, (zO Z3.out 1).trans rfl, (zO Z0.out 0).trans rfl, (zO Z0.out 1).trans rfl, (zO Z1.out 0).trans rfl, (zO Z1.out 1).trans rfl, (zO Z1.out 2).trans rfl, (zO Z1.out 3).trans rfl, (zO Z1.out 4).trans rfl, (zO Z1.out 5).trans rfl⟩ (fun hHeld => ?_)
                clear hK K
                refine norm_ (a' := ?_) ?_ ?_
                rotate_left
                ·show Act.put _ (some 99) _ = _
                 simp only [Act.put, zA, zB, zC, i64_w, i32_w]
                 rfl
                refine pure_ (i := 8) (N := some 100) (v := ?_) (a' := ?_) #[true, true, true, true, true, true, true, true, true, false] rfl rfl (any_of HT_.out (by kernel_rfl)) (fun _ _ _ h => h) (Or.inl ⟨by rfl, ?_⟩) ?_ ?_
                rotate_left
                ·intro w'
                 go_simp
                 with_reducible rfl
                rotate_left
                ·simp only [Act.put, zA, zB, zC, i64_w, i32_w]
                 rfl
                refine last_ (i := 9) (N := none) #[true, true, true, true, true, true, true, true, true, true] rfl rfl (one_of HT_.out (by kernel_rfl)) (by decide) (fun K hK => ?_)
                have hs84 : w82.cell? ⟨Z27, 0, none⟩ = some (u460000) := (zO Z3.out 0).trans rfl
                have hfs84 := yE Z3.out 0
                have hns84_0 := Z14.out
                have hns84_1 := Z17.out
                have hns84_2 := Z20.out
                have hms84_0 := Z21.out
                have hms84_1 := Z22.out
                have hms84_2 := Z23.out
                refine skip_ (w1 := ?_) (by rfl) rfl ?_ ?_
                rotate_left
                ·go_simp
                 rfl
                refine hK.out _ _ ?_
                clear hK K
                refine done_ (done_of HT_.out (by kernel_rfl)) ?_
                try go_wp2
                go_roundg k4
                case measure => have := HK1.out; have := HJ27.out; have := HJ50.out; have := HK4.out; omega
                case rel => exact ⟨(wrap64 (x89_4 + 1)), (y461), (.slice Ao83 y461.length co83), (by first | rfl | (simp; done) | (simp [*]; done)), H', ⟨by have := HK1.out; have := HJ27.out; have := HJ50.out; have := HK4.out; omega⟩, ⟨by (with_reducible repeat (first | apply zL | apply zM | apply zN)); exact yd (Kd.R_far (p := ⟨Z27, 0, none⟩) (Kd.R_types HO_10.out Z3.out (by decide)) (fun _ hk => hk.2) (.slice Ao83 y461.length co83)) (fun _ hk => ⟨hk.1.1, hk.1.2⟩)⟩, ⟨by (with_reducible repeat (first | apply zL | apply zM | apply zN)); exact yd (Kd.R_far (p := ⟨Z27, 0, none⟩) (Kd.R_types HO_444000.out Z3.out (by decide)) (fun _ hk => hk.2) (.slice Ao83 y461.length co83)) (fun _ hk => ⟨hk.1.1, hk.1.2⟩)⟩, ⟨by (with_reducible repeat (first | apply zL | apply zM | apply zN)); exact yd (Kd.R_far (p := ⟨Z27, 0, none⟩) (Kd.R_types HO463.out Z3.out (by decide)) (fun _ hk => hk.2) (.slice Ao83 y461.length co83)) (fun _ hk => ⟨hk.1.1, hk.1.2⟩)⟩, ⟨by (with_reducible repeat (first | refine zF ?_ _ | refine zH ?_ | refine zG ?_ _)); refine blk_far ?_ Z14.out _; (with_reducible repeat (first | refine zF ?_ _ | refine zH ?_ | refine zG ?_ _)); exact Z0.out⟩, ⟨by (with_reducible repeat (first | refine zF ?_ _ | refine zH ?_ | refine zG ?_ _)); refine blk_far ?_ Z17.out _; (with_reducible repeat (first | refine zF ?_ _ | refine zH ?_ | refine zG ?_ _)); exact Z1.out⟩, ⟨by (with_reducible repeat (first | refine zF ?_ _ | refine zH ?_ | refine zG ?_ _)); refine blk_far ?_ Z20.out _; (with_reducible repeat (first | refine zF ?_ _ | refine zH ?_ | refine zG ?_ _)); exact Z2.out⟩, ⟨by (with_reducible repeat (first | refine zF ?_ _ | refine zH ?_ | refine zG ?_ _)); refine blk_put (cs := #[u460000, .slice A0_1 l0_1.length c0_1]) ?_ 0 _ rfl; (with_reducible repeat (first | refine zF ?_ _ | refine zH ?_ | refine zG ?_ _)); exact Z3.out⟩, ⟨by repeat (first | (with_reducible first | exact HB.out | apply zJ | apply zD | apply zE | refine zI ?_ Z4.out | refine zI ?_ Z5.out | refine zI ?_ Z6.out | refine zI ?_ Z7.out) | exact HB.out)⟩⟩
               ·rw [if_neg c79] at H
                exact absurd H (by simp)
              ·rw [if_neg c77] at H
               have c77b0 : decide (x89_4 < (l0_0.length : Int)) = false := yD c77
               clear c77
               replace H := yA.mp H
               obtain ⟨t464, A850, H⟩ := H
               replace H : (if t464 = true then ((dist_Weights.f k4 x460000_4 l0_1 a1_0 a1_1 a1_2 a1_3 a1_4 ([] : List (S46))).bind fun bt465 => (if bt465.2 = 0 then ((w22_same.f k4 bt465.1 t450).bind fun t469 => (some t469)) else (some false))) else (some true)) = some r := H
               have A85 := zK A850
               clear A850
               by_cases c86 : t464 = true
               ·subst c86
                have H1 : ((dist_Weights.f k4 x460000_4 l0_1 a1_0 a1_1 a1_2 a1_3 a1_4 ([] : List (S46))).bind fun bt465 => (if bt465.2 = 0 then ((w22_same.f k4 bt465.1 t450).bind fun t469 => (some t469)) else (some false))) = some r := by rw [if_pos rfl] at H; exact H
                clear H
                have H := H1
                clear H1
                replace H := yA.mp H
                obtain ⟨⟨t465, t468⟩, A870, H⟩ := H
                replace H : (if t468 = 0 then ((w22_same.f k4 t465 t450).bind fun t469 => (some t469)) else (some false)) = some r := H
                have A87 := zK A870
                clear A870
                by_cases c88 : t468 = 0
                ·rw [if_pos c88] at H
                 have c88b0 : (t468 == 0) = true := beq_iff_eq.mpr c88
                 have c88b1 : (t468 != 0) = false := bne_eq_false_iff_eq.mpr c88
                 clear c88
                 replace H := yA.mp H
                 obtain ⟨t469, A890, H⟩ := H
                 replace H : (some t469) = some r := H
                 have A89 := zK A890
                 clear A890
                 obtain rfl := yY H
                 have hnb90 := Z15.out
                 have hnc90 := Z12.out
                 have hnb91 := Z16.out
                 have hnc91 := Z19.out
                 have hnb92 := Z17.out
                 have hnc92 := Z22.out
                 have hcz93_0 : wr.cell? ⟨Z25, 0, none⟩ = some (.int .i64 a1_0) := (zO Z1.out 0).trans rfl
                 have hcz93_1 : wr.cell? ⟨Z25, 1, none⟩ = some (.int .i64 a1_1) := (zO Z1.out 1).trans rfl
                 have hcz93_2 : wr.cell? ⟨Z25, 2, none⟩ = some (.int .i64 a1_2) := (zO Z1.out 2).trans rfl
                 have hcz93_3 : wr.cell? ⟨Z25, 3, none⟩ = some (.int .i64 a1_3) := (zO Z1.out 3).trans rfl
                 have hcz93_4 : wr.cell? ⟨Z25, 4, none⟩ = some (.int .i64 a1_4) := (zO Z1.out 4).trans rfl
                 have hcz93_5 : wr.cell? ⟨Z25, 5, none⟩ = some (.slice A1_5 l1_5.length c1_5) := (zO Z1.out 5).trans rfl
                 have hfz93_0 := yE Z1.out 0
                 have hfz93_1 := yE Z1.out 1
                 have hfz93_2 := yE Z1.out 2
                 have hfz93_3 := yE Z1.out 3
                 have hfz93_4 := yE Z1.out 4
                 have hfz93_5 := yE Z1.out 5
                 have hnb94 := Z21.out
                 have hnc94 := Z14.out
                 have hnb95 := Z23.out
                 have hnc95 := Z20.out
                 have hcz96_0 : wr.cell? ⟨Z27, 0, none⟩ = some (u460000) := (zO Z3.out 0).trans rfl
                 have hcz96_1 : wr.cell? ⟨Z27, 1, none⟩ = some (.slice A0_1 l0_1.length c0_1) := (zO Z3.out 1).trans rfl
                 have hfz96_0 := yE Z3.out 0
                 have hfz96_1 := yE Z3.out 1
                 obtain ⟨Ao97, co97, eo97⟩ := Kd.R_slice HO_460000.out
                 subst eo97
                 go_wp2_with (first | ((with_reducible refine gate_callee (f := 22) rfl ?_); refine goesL_ (some 105) rfl rfl Try.func22 (by kernel_rfl) rfl #[.agg #[.slice Ao97 x460000_4.length co97, .slice A0_1 l0_1.length c0_1], .agg #[.int .i64 a1_0, .int .i64 a1_1, .int .i64 a1_2, .int .i64 a1_3, .int .i64 a1_4, .slice none 0 0]] rfl (by (try simp only [yH, yI, yJ]); first | done | rfl | (simp only [yG, yF]; rfl)) ?_; (refine (w22_right.calls k4 _ _ x460000_4 _ _ l0_1 a1_0 a1_1 a1_2 a1_3 a1_4 _ _ ([] : List (S46)) true _ ?side1 ?side2 ?side3 ?side4 ?side5 ?side6 A85.out).mono ?_); (case side1 => refine (yM (e := 2) (base := w.heap.size) (ok := fun k_ => (some k_ ≠ (v451 : Value).ownBlock ∧ some k_ ≠ (.slice Ao60 x444000_1.length co60 : Value).ownBlock)) (n := x460000_4.length) (c := co97) ?_).2.2; exact (by (with_reducible repeat (first | apply zL | apply zM | apply zN)); exact (yd (Kd.R_far (p := ⟨Z25, 5, none⟩) (Kd.R_types HO_460000.out Z1.out (by decide)) (fun _ hk => hk.2) (.slice none 0 0)) (fun _ h_ => h_.1)))); (case side2 => exact (yM HO_460000.out).2.1); (case side3 => exact yc HR0_1.out (by repeat (first | (with_reducible first | exact HB.out | apply zJ | apply zD | apply zE | refine zI ?_ Z4.out | refine zI ?_ Z5.out | refine zI ?_ Z6.out | refine zI ?_ Z7.out) | exact HB.out))); (case side4 => exact HC0_1.out); (case side5 => exact Kd.C_nil _ _); (case side6 => exact yN _); rintro e w98 ⟨rfl, hb⟩; refine ⟨_, rfl, ?_⟩; have n0_ := zK (yb (by (with_reducible repeat (first | apply zL | apply zM | apply zN)); exact (yd (Kd.R_far (p := ⟨Z25, 5, none⟩) (Kd.R_types HO_10.out Z1.out (by decide)) (fun _ hk => hk.2) (.slice none 0 0)) (fun _ h_ => h_.1))) hb); have n1_ := zK (yb (by (with_reducible repeat (first | apply zL | apply zM | apply zN)); exact (yd (Kd.R_far (p := ⟨Z25, 5, none⟩) (Kd.R_types HO_444000.out Z1.out (by decide)) (fun _ hk => hk.2) (.slice none 0 0)) (fun _ h_ => h_.1))) hb); have n2_ := zK (yb (by (with_reducible repeat (first | apply zL | apply zM | apply zN)); exact (yd (Kd.R_far (p := ⟨Z25, 5, none⟩) (Kd.R_types HO_460000.out Z1.out (by decide)) (fun _ hk => hk.2) (.slice none 0 0)) (fun _ h_ => h_.1))) hb); have n3_ := zK (zP (g := Z24) (o := .cells #[.slice A0_0 l0_0.length c0_0, .slice A0_1 l0_1.length c0_1] 39 (0, 0)) (by (with_reducible repeat (first | refine zF ?_ _ | refine zH ?_ | refine zG ?_ _)); refine blk_far ?_ Z12.out _; (with_reducible repeat (first | refine zF ?_ _ | refine zH ?_ | refine zG ?_ _)); exact Z0.out) hb); have n4_ := zK (zP (g := Z25) (o := .cells #[.int .i64 a1_0, .int .i64 a1_1, .int .i64 a1_2, .int .i64 a1_3, .int .i64 a1_4, .slice none 0 0] 24 (0, 0)) (by (with_reducible repeat (first | refine zF ?_ _ | refine zH ?_ | refine zG ?_ _)); refine blk_put (cs := #[.int .i64 a1_0, .int .i64 a1_1, .int .i64 a1_2, .int .i64 a1_3, .int .i64 a1_4, .slice A1_5 l1_5.length c1_5]) ?_ 5 _ rfl; (with_reducible repeat (first | refine zF ?_ _ | refine zH ?_ | refine zG ?_ _)); exact Z1.out) hb); have n5_ := zK (zP (g := Z26) (o := .cells #[.slice Ao60 x444000_1.length co60, .slice A0_1 l0_1.length c0_1] 39 (0, 0)) (by (with_reducible repeat (first | refine zF ?_ _ | refine zH ?_ | refine zG ?_ _)); refine blk_far ?_ Z19.out _; (with_reducible repeat (first | refine zF ?_ _ | refine zH ?_ | refine zG ?_ _)); exact Z2.out) hb); have n6_ := zK (zP (g := Z27) (o := .cells #[.slice Ao97 x460000_4.length co97, .slice A0_1 l0_1.length c0_1] 39 (0, 0)) (by (with_reducible repeat (first | refine zF ?_ _ | refine zH ?_ | refine zG ?_ _)); refine blk_far ?_ Z22.out _; (with_reducible repeat (first | refine zF ?_ _ | refine zH ?_ | refine zG ?_ _)); exact Z3.out) hb); have n7_ := zK (yL (by repeat (first | (with_reducible first | exact HB.out | apply zJ | apply zD | apply zE | refine zI ?_ Z4.out | refine zI ?_ Z5.out | refine zI ?_ Z6.out | refine zI ?_ Z7.out) | exact HB.out)) hb); clear HO_10 HO_444000 HO_460000 Z0 Z1 Z2 Z3 HB; have HO_10 := n0_; have HO_444000 := n1_; have HO_460000 := n2_; have Z0 := n3_; have Z1 := n4_; have Z2 := n5_; have Z3 := n6_; have HB := n7_; clear n0_ n1_ n2_ n3_ n4_ n5_ n6_ n7_; (try clear hb); (try clear hb2); (try clear hk); (try clear hi); have hcz99_0 : w98.cell? ⟨Z27, 0, none⟩ = some (.slice Ao97 x460000_4.length co97) := (zO Z3.out 0).trans rfl; have hcz99_1 : w98.cell? ⟨Z27, 1, none⟩ = some (.slice A0_1 l0_1.length c0_1) := (zO Z3.out 1).trans rfl; have hfz99_0 := yE Z3.out 0; have hfz99_1 := yE Z3.out 1; have hcz100_0 : w98.cell? ⟨Z25, 0, none⟩ = some (.int .i64 a1_0) := (zO Z1.out 0).trans rfl; have hcz100_1 : w98.cell? ⟨Z25, 1, none⟩ = some (.int .i64 a1_1) := (zO Z1.out 1).trans rfl; have hcz100_2 : w98.cell? ⟨Z25, 2, none⟩ = some (.int .i64 a1_2) := (zO Z1.out 2).trans rfl; have hcz100_3 : w98.cell? ⟨Z25, 3, none⟩ = some (.int .i64 a1_3) := (zO Z1.out 3).trans rfl; have hcz100_4 : w98.cell? ⟨Z25, 4, none⟩ = some (.int .i64 a1_4) := (zO Z1.out 4).trans rfl; have hcz100_5 : w98.cell? ⟨Z25, 5, none⟩ = some (.slice none 0 0) := (zO Z1.out 5).trans rfl; have hfz100_0 := yE Z1.out 0; have hfz100_1 := yE Z1.out 1; have hfz100_2 := yE Z1.out 2; have hfz100_3 := yE Z1.out 3; have hfz100_4 := yE Z1.out 4; have hfz100_5 := yE Z1.out 5) | ((with_reducible refine gate_callee (f := 19) rfl ?_); refine goesL_ (some 113) rfl rfl Try.func19 (by kernel_rfl) rfl #[.slice Ao97 x460000_4.length co97, .slice A0_1 l0_1.length c0_1, .agg #[.int .i64 a1_0, .int .i64 a1_1, .int .i64 a1_2, .int .i64 a1_3, .int .i64 a1_4, .slice none 0 0]] rfl (by (try simp only [yH, yI, yJ]); first | done | rfl | (simp only [yG, yF]; rfl)) ?_; (refine (dist_Weights.calls k4 _ _ x460000_4 _ _ l0_1 a1_0 a1_1 a1_2 a1_3 a1_4 _ _ ([] : List (S46)) t465 t468 _ ?side1 ?side2 ?side3 ?side4 ?side5 ?side6 A87.out).mono ?_); (case side1 => repeat (first | exact (yM HO_460000.out).2.2 | (with_reducible refine yS ?_ _) | (with_reducible refine yT ?_ _) | (with_reducible refine yU ?_))); (case side2 => exact (yM HO_460000.out).2.1); (case side3 => repeat (first | exact (yc HR0_1.out HB.out) | (with_reducible refine yS ?_ _) | (with_reducible refine yT ?_ _) | (with_reducible refine yU ?_))); (case side4 => exact HC0_1.out); (case side5 => exact Kd.C_nil _ _); (case side6 => exact yN _); rintro e w101 ⟨v466, rfl, ho0, hb⟩; refine ⟨_, rfl, ?_⟩; have n0_ := zK (Kd.R_elder' (by (with_reducible repeat (first | apply zL | apply zM | apply zN)); exact HO_10.out) (Kd.R_base ho0) hb); have n1_ := zK (Kd.R_elder' (by (with_reducible repeat (first | apply zL | apply zM | apply zN)); exact HO_444000.out) (Kd.R_base ho0) hb); have n2_ := zK (Kd.R_elder' (by (with_reducible repeat (first | apply zL | apply zM | apply zN)); exact HO_460000.out) (Kd.R_base ho0) hb); have n3_ := zK (Kd.R_lower (Kd.R_new' (Kd.R_new' (Kd.R_new' ho0 (Kd.R_lt (by (with_reducible repeat (first | apply zL | apply zM | apply zN)); exact HO_10.out))) (Kd.R_lt (by (with_reducible repeat (first | apply zL | apply zM | apply zN)); exact HO_444000.out))) (Kd.R_lt (by (with_reducible repeat (first | apply zL | apply zM | apply zN)); exact HO_460000.out))) (yK (by repeat (first | (with_reducible first | exact HB.out | apply zJ | apply zD | apply zE | refine zI ?_ Z4.out | refine zI ?_ Z5.out | refine zI ?_ Z6.out | refine zI ?_ Z7.out) | exact HB.out)))); have n4_ := zK (zP (g := Z24) (o := .cells #[.slice A0_0 l0_0.length c0_0, .slice A0_1 l0_1.length c0_1] 39 (0, 0)) (by (with_reducible repeat (first | refine zF ?_ _ | refine zH ?_ | refine zG ?_ _)); exact Z0.out) hb); have n5_ := zK (zP (g := Z25) (o := .cells #[.int .i64 a1_0, .int .i64 a1_1, .int .i64 a1_2, .int .i64 a1_3, .int .i64 a1_4, .slice none 0 0] 24 (0, 0)) (by (with_reducible repeat (first | refine zF ?_ _ | refine zH ?_ | refine zG ?_ _)); exact Z1.out) hb); have n6_ := zK (zP (g := Z26) (o := .cells #[.slice Ao60 x444000_1.length co60, .slice A0_1 l0_1.length c0_1] 39 (0, 0)) (by (with_reducible repeat (first | refine zF ?_ _ | refine zH ?_ | refine zG ?_ _)); exact Z2.out) hb); have n7_ := zK (zP (g := Z27) (o := .cells #[.slice Ao97 x460000_4.length co97, .slice A0_1 l0_1.length c0_1] 39 (0, 0)) (by (with_reducible repeat (first | refine zF ?_ _ | refine zH ?_ | refine zG ?_ _)); exact Z3.out) hb); have n8_ := zK (yL (by repeat (first | (with_reducible first | exact HB.out | apply zJ | apply zD | apply zE | refine zI ?_ Z4.out | refine zI ?_ Z5.out | refine zI ?_ Z6.out | refine zI ?_ Z7.out) | exact HB.out)) hb); clear HO_10 HO_444000 HO_460000 Z0 Z1 Z2 Z3 HB; have HO_10 := n0_; have HO_444000 := n1_; have HO_460000 := n2_; have HO467 := n3_; have Z0 := n4_; have Z1 := n5_; have Z2 := n6_; have Z3 := n7_; have HB := n8_; clear n0_ n1_ n2_ n3_ n4_ n5_ n6_ n7_ n8_; (try clear hb); (try clear hb2); (try clear hk); (try clear hi); (try clear ho0); obtain ⟨Ao102, co102, eo102⟩ := Kd.R_slice HO467.out; subst eo102; obtain ⟨Ao103, co103, eo103⟩ := Kd.R_slice HO_10.out; subst eo103) | (go_at_call 21; (with_reducible refine (w22_same.calls k4 _ _ t465 _ _ t450 t469 _ ?side1 ?side2 ?side3 ?side4 A89.out).mono ?_); (case side1 => repeat (first | exact (yM HO467.out).2.2 | (with_reducible refine yS ?_ _) | (with_reducible refine yT ?_ _) | (with_reducible refine yU ?_))); (case side2 => exact (yM HO467.out).2.1); (case side3 => repeat (first | exact (yM HO_10.out).2.2 | (with_reducible refine yS ?_ _) | (with_reducible refine yT ?_ _) | (with_reducible refine yU ?_))); (case side4 => exact (yM HO_10.out).2.1); rintro e w' ⟨rfl, ⟨nd, rfl⟩⟩))
                 go_ret
                 exact ⟨by first | rfl | (simp [errW_none, errW_some] <;> rfl) | (simp [*, errW_none, errW_some] <;> rfl), by repeat (first | (with_reducible first | exact HB.out | apply zJ | apply zD | apply zE | refine zI ?_ Z4.out | refine zI ?_ Z5.out | refine zI ?_ Z6.out | refine zI ?_ Z7.out) | exact HB.out)⟩
                ·rw [if_neg c88] at H
                 have c88b0 : (t468 == 0) = false := beq_eq_false_iff_ne.mpr c88
                 have c88b1 : (t468 != 0) = true := bne_iff_ne.mpr c88
                 obtain rfl := yY H
                 have hnb104 := Z15.out
                 have hnc104 := Z12.out
                 have hnb105 := Z16.out
                 have hnc105 := Z19.out
                 have hnb106 := Z17.out
                 have hnc106 := Z22.out
                 have hcz107_0 : wr.cell? ⟨Z25, 0, none⟩ = some (.int .i64 a1_0) := (zO Z1.out 0).trans rfl
                 have hcz107_1 : wr.cell? ⟨Z25, 1, none⟩ = some (.int .i64 a1_1) := (zO Z1.out 1).trans rfl
                 have hcz107_2 : wr.cell? ⟨Z25, 2, none⟩ = some (.int .i64 a1_2) := (zO Z1.out 2).trans rfl
                 have hcz107_3 : wr.cell? ⟨Z25, 3, none⟩ = some (.int .i64 a1_3) := (zO Z1.out 3).trans rfl
                 have hcz107_4 : wr.cell? ⟨Z25, 4, none⟩ = some (.int .i64 a1_4) := (zO Z1.out 4).trans rfl
                 have hcz107_5 : wr.cell? ⟨Z25, 5, none⟩ = some (.slice A1_5 l1_5.length c1_5) := (zO Z1.out 5).trans rfl
                 have hfz107_0 := yE Z1.out 0
                 have hfz107_1 := yE Z1.out 1
                 have hfz107_2 := yE Z1.out 2
                 have hfz107_3 := yE Z1.out 3
                 have hfz107_4 := yE Z1.out 4
                 have hfz107_5 := yE Z1.out 5
                 have hnb108 := Z21.out
                 have hnc108 := Z14.out
                 have hnb109 := Z23.out
                 have hnc109 := Z20.out
                 have hcz110_0 : wr.cell? ⟨Z27, 0, none⟩ = some (u460000) := (zO Z3.out 0).trans rfl
                 have hcz110_1 : wr.cell? ⟨Z27, 1, none⟩ = some (.slice A0_1 l0_1.length c0_1) := (zO Z3.out 1).trans rfl
                 have hfz110_0 := yE Z3.out 0
                 have hfz110_1 := yE Z3.out 1
                 obtain ⟨Ao111, co111, eo111⟩ := Kd.R_slice HO_460000.out
                 subst eo111
                 go_wp2_with (first | ((with_reducible refine gate_callee (f := 22) rfl ?_); refine goesL_ (some 105) rfl rfl Try.func22 (by kernel_rfl) rfl #[.agg #[.slice Ao111 x460000_4.length co111, .slice A0_1 l0_1.length c0_1], .agg #[.int .i64 a1_0, .int .i64 a1_1, .int .i64 a1_2, .int .i64 a1_3, .int .i64 a1_4, .slice none 0 0]] rfl (by (try simp only [yH, yI, yJ]); first | done | rfl | (simp only [yG, yF]; rfl)) ?_; (refine (w22_right.calls k4 _ _ x460000_4 _ _ l0_1 a1_0 a1_1 a1_2 a1_3 a1_4 _ _ ([] : List (S46)) true _ ?side1 ?side2 ?side3 ?side4 ?side5 ?side6 A85.out).mono ?_); (case side1 => refine (yM (e := 2) (base := w.heap.size) (ok := fun k_ => (some k_ ≠ (v451 : Value).ownBlock ∧ some k_ ≠ (.slice Ao60 x444000_1.length co60 : Value).ownBlock)) (n := x460000_4.length) (c := co111) ?_).2.2; exact (by (with_reducible repeat (first | apply zL | apply zM | apply zN)); exact (yd (Kd.R_far (p := ⟨Z25, 5, none⟩) (Kd.R_types HO_460000.out Z1.out (by decide)) (fun _ hk => hk.2) (.slice none 0 0)) (fun _ h_ => h_.1)))); (case side2 => exact (yM HO_460000.out).2.1); (case side3 => exact yc HR0_1.out (by repeat (first | (with_reducible first | exact HB.out | apply zJ | apply zD | apply zE | refine zI ?_ Z4.out | refine zI ?_ Z5.out | refine zI ?_ Z6.out | refine zI ?_ Z7.out) | exact HB.out))); (case side4 => exact HC0_1.out); (case side5 => exact Kd.C_nil _ _); (case side6 => exact yN _); rintro e w112 ⟨rfl, hb⟩; refine ⟨_, rfl, ?_⟩; have n0_ := zK (yb (by (with_reducible repeat (first | apply zL | apply zM | apply zN)); exact (yd (Kd.R_far (p := ⟨Z25, 5, none⟩) (Kd.R_types HO_10.out Z1.out (by decide)) (fun _ hk => hk.2) (.slice none 0 0)) (fun _ h_ => h_.1))) hb); have n1_ := zK (yb (by (with_reducible repeat (first | apply zL | apply zM | apply zN)); exact (yd (Kd.R_far (p := ⟨Z25, 5, none⟩) (Kd.R_types HO_444000.out Z1.out (by decide)) (fun _ hk => hk.2) (.slice none 0 0)) (fun _ h_ => h_.1))) hb); have n2_ := zK (yb (by (with_reducible repeat (first | apply zL | apply zM | apply zN)); exact (yd (Kd.R_far (p := ⟨Z25, 5, none⟩) (Kd.R_types HO_460000.out Z1.out (by decide)) (fun _ hk => hk.2) (.slice none 0 0)) (fun _ h_ => h_.1))) hb); have n3_ := zK (zP (g := Z24) (o := .cells #[.slice A0_0 l0_0.length c0_0, .slice A0_1 l0_1.length c0_1] 39 (0, 0)) (by (with_reducible repeat (first | refine zF ?_ _ | refine zH ?_ | refine zG ?_ _)); refine blk_far ?_ Z12.out _; (with_reducible repeat (first | refine zF ?_ _ | refine zH ?_ | refine zG ?_ _)); exact Z0.out) hb); have n4_ := zK (zP (g := Z25) (o := .cells #[.int .i64 a1_0, .int .i64 a1_1, .int .i64 a1_2, .int .i64 a1_3, .int .i64 a1_4, .slice none 0 0] 24 (0, 0)) (by (with_reducible repeat (first | refine zF ?_ _ | refine zH ?_ | refine zG ?_ _)); refine blk_put (cs := #[.int .i64 a1_0, .int .i64 a1_1, .int .i64 a1_2, .int .i64 a1_3, .int .i64 a1_4, .slice A1_5 l1_5.length c1_5]) ?_ 5 _ rfl; (with_reducible repeat (first | refine zF ?_ _ | refine zH ?_ | refine zG ?_ _)); exact Z1.out) hb); have n5_ := zK (zP (g := Z26) (o := .cells #[.slice Ao60 x444000_1.length co60, .slice A0_1 l0_1.length c0_1] 39 (0, 0)) (by (with_reducible repeat (first | refine zF ?_ _ | refine zH ?_ | refine zG ?_ _)); refine blk_far ?_ Z19.out _; (with_reducible repeat (first | refine zF ?_ _ | refine zH ?_ | refine zG ?_ _)); exact Z2.out) hb); have n6_ := zK (zP (g := Z27) (o := .cells #[.slice Ao111 x460000_4.length co111, .slice A0_1 l0_1.length c0_1] 39 (0, 0)) (by (with_reducible repeat (first | refine zF ?_ _ | refine zH ?_ | refine zG ?_ _)); refine blk_far ?_ Z22.out _; (with_reducible repeat (first | refine zF ?_ _ | refine zH ?_ | refine zG ?_ _)); exact Z3.out) hb); have n7_ := zK (yL (by repeat (first | (with_reducible first | exact HB.out | apply zJ | apply zD | apply zE | refine zI ?_ Z4.out | refine zI ?_ Z5.out | refine zI ?_ Z6.out | refine zI ?_ Z7.out) | exact HB.out)) hb); clear HO_10 HO_444000 HO_460000 Z0 Z1 Z2 Z3 HB; have HO_10 := n0_; have HO_444000 := n1_; have HO_460000 := n2_; have Z0 := n3_; have Z1 := n4_; have Z2 := n5_; have Z3 := n6_; have HB := n7_; clear n0_ n1_ n2_ n3_ n4_ n5_ n6_ n7_; (try clear hb); (try clear hb2); (try clear hk); (try clear hi); have hcz113_0 : w112.cell? ⟨Z27, 0, none⟩ = some (.slice Ao111 x460000_4.length co111) := (zO Z3.out 0).trans rfl; have hcz113_1 : w112.cell? ⟨Z27, 1, none⟩ = some (.slice A0_1 l0_1.length c0_1) := (zO Z3.out 1).trans rfl; have hfz113_0 := yE Z3.out 0; have hfz113_1 := yE Z3.out 1; have hcz114_0 : w112.cell? ⟨Z25, 0, none⟩ = some (.int .i64 a1_0) := (zO Z1.out 0).trans rfl; have hcz114_1 : w112.cell? ⟨Z25, 1, none⟩ = some (.int .i64 a1_1) := (zO Z1.out 1).trans rfl; have hcz114_2 : w112.cell? ⟨Z25, 2, none⟩ = some (.int .i64 a1_2) := (zO Z1.out 2).trans rfl; have hcz114_3 : w112.cell? ⟨Z25, 3, none⟩ = some (.int .i64 a1_3) := (zO Z1.out 3).trans rfl; have hcz114_4 : w112.cell? ⟨Z25, 4, none⟩ = some (.int .i64 a1_4) := (zO Z1.out 4).trans rfl; have hcz114_5 : w112.cell? ⟨Z25, 5, none⟩ = some (.slice none 0 0) := (zO Z1.out 5).trans rfl; have hfz114_0 := yE Z1.out 0; have hfz114_1 := yE Z1.out 1; have hfz114_2 := yE Z1.out 2; have hfz114_3 := yE Z1.out 3; have hfz114_4 := yE Z1.out 4; have hfz114_5 := yE Z1.out 5) | ((with_reducible refine gate_callee (f := 19) rfl ?_); refine goesL_ (some 113) rfl rfl Try.func19 (by kernel_rfl) rfl #[.slice Ao111 x460000_4.length co111, .slice A0_1 l0_1.length c0_1, .agg #[.int .i64 a1_0, .int .i64 a1_1, .int .i64 a1_2, .int .i64 a1_3, .int .i64 a1_4, .slice none 0 0]] rfl (by (try simp only [yH, yI, yJ]); first | done | rfl | (simp only [yG, yF]; rfl)) ?_; (refine (dist_Weights.calls k4 _ _ x460000_4 _ _ l0_1 a1_0 a1_1 a1_2 a1_3 a1_4 _ _ ([] : List (S46)) t465 t468 _ ?side1 ?side2 ?side3 ?side4 ?side5 ?side6 A87.out).mono ?_); (case side1 => repeat (first | exact (yM HO_460000.out).2.2 | (with_reducible refine yS ?_ _) | (with_reducible refine yT ?_ _) | (with_reducible refine yU ?_))); (case side2 => exact (yM HO_460000.out).2.1); (case side3 => repeat (first | exact (yc HR0_1.out HB.out) | (with_reducible refine yS ?_ _) | (with_reducible refine yT ?_ _) | (with_reducible refine yU ?_))); (case side4 => exact HC0_1.out); (case side5 => exact Kd.C_nil _ _); (case side6 => exact yN _); rintro e w115 ⟨v466, rfl, ho0, hb⟩; refine ⟨_, rfl, ?_⟩; have n0_ := zK (Kd.R_elder' (by (with_reducible repeat (first | apply zL | apply zM | apply zN)); exact HO_10.out) (Kd.R_base ho0) hb); have n1_ := zK (Kd.R_elder' (by (with_reducible repeat (first | apply zL | apply zM | apply zN)); exact HO_444000.out) (Kd.R_base ho0) hb); have n2_ := zK (Kd.R_elder' (by (with_reducible repeat (first | apply zL | apply zM | apply zN)); exact HO_460000.out) (Kd.R_base ho0) hb); have n3_ := zK (Kd.R_lower (Kd.R_new' (Kd.R_new' (Kd.R_new' ho0 (Kd.R_lt (by (with_reducible repeat (first | apply zL | apply zM | apply zN)); exact HO_10.out))) (Kd.R_lt (by (with_reducible repeat (first | apply zL | apply zM | apply zN)); exact HO_444000.out))) (Kd.R_lt (by (with_reducible repeat (first | apply zL | apply zM | apply zN)); exact HO_460000.out))) (yK (by repeat (first | (with_reducible first | exact HB.out | apply zJ | apply zD | apply zE | refine zI ?_ Z4.out | refine zI ?_ Z5.out | refine zI ?_ Z6.out | refine zI ?_ Z7.out) | exact HB.out)))); have n4_ := zK (zP (g := Z24) (o := .cells #[.slice A0_0 l0_0.length c0_0, .slice A0_1 l0_1.length c0_1] 39 (0, 0)) (by (with_reducible repeat (first | refine zF ?_ _ | refine zH ?_ | refine zG ?_ _)); exact Z0.out) hb); have n5_ := zK (zP (g := Z25) (o := .cells #[.int .i64 a1_0, .int .i64 a1_1, .int .i64 a1_2, .int .i64 a1_3, .int .i64 a1_4, .slice none 0 0] 24 (0, 0)) (by (with_reducible repeat (first | refine zF ?_ _ | refine zH ?_ | refine zG ?_ _)); exact Z1.out) hb); have n6_ := zK (zP (g := Z26) (o := .cells #[.slice Ao60 x444000_1.length co60, .slice A0_1 l0_1.length c0_1] 39 (0, 0)) (by (with_reducible repeat (first | refine zF ?_ _ | refine zH ?_ | refine zG ?_ _)); exact Z2.out) hb); have n7_ := zK (zP (g := Z27) (o := .cells #[.slice Ao111 x460000_4.length co111, .slice A0_1 l0_1.length c0_1] 39 (0, 0)) (by (with_reducible repeat (first | refine zF ?_ _ | refine zH ?_ | refine zG ?_ _)); exact Z3.out) hb); have n8_ := zK (yL (by repeat (first | (with_reducible first | exact HB.out | apply zJ | apply zD | apply zE | refine zI ?_ Z4.out | refine zI ?_ Z5.out | refine zI ?_ Z6.out | refine zI ?_ Z7.out) | exact HB.out)) hb); clear HO_10 HO_444000 HO_460000 Z0 Z1 Z2 Z3 HB; have HO_10 := n0_; have HO_444000 := n1_; have HO_460000 := n2_; have HO467 := n3_; have Z0 := n4_; have Z1 := n5_; have Z2 := n6_; have Z3 := n7_; have HB := n8_; clear n0_ n1_ n2_ n3_ n4_ n5_ n6_ n7_ n8_; (try clear hb); (try clear hb2); (try clear hk); (try clear hi); (try clear ho0)))
                 go_ret
                 exact ⟨by first | rfl | (simp [errW_none, errW_some] <;> rfl) | (simp [*, errW_none, errW_some] <;> rfl), by repeat (first | (with_reducible first | exact HB.out | apply zJ | apply zD | apply zE | refine zI ?_ Z4.out | refine zI ?_ Z5.out | refine zI ?_ Z6.out | refine zI ?_ Z7.out) | exact HB.out)⟩
               ·replace c86 := yh.mpr c86
                subst c86
                have H1 : (some true) = some r := by rw [if_neg (show ¬ (false = true) by decide)] at H; exact H
                clear H
                have H := H1
                clear H1
                obtain rfl := yY H
                have hnb116 := Z15.out
                have hnc116 := Z12.out
                have hnb117 := Z16.out
                have hnc117 := Z19.out
                have hnb118 := Z17.out
                have hnc118 := Z22.out
                have hcz119_0 : wr.cell? ⟨Z25, 0, none⟩ = some (.int .i64 a1_0) := (zO Z1.out 0).trans rfl
                have hcz119_1 : wr.cell? ⟨Z25, 1, none⟩ = some (.int .i64 a1_1) := (zO Z1.out 1).trans rfl
                have hcz119_2 : wr.cell? ⟨Z25, 2, none⟩ = some (.int .i64 a1_2) := (zO Z1.out 2).trans rfl
                have hcz119_3 : wr.cell? ⟨Z25, 3, none⟩ = some (.int .i64 a1_3) := (zO Z1.out 3).trans rfl
                have hcz119_4 : wr.cell? ⟨Z25, 4, none⟩ = some (.int .i64 a1_4) := (zO Z1.out 4).trans rfl
                have hcz119_5 : wr.cell? ⟨Z25, 5, none⟩ = some (.slice A1_5 l1_5.length c1_5) := (zO Z1.out 5).trans rfl
                have hfz119_0 := yE Z1.out 0
                have hfz119_1 := yE Z1.out 1
                have hfz119_2 := yE Z1.out 2
                have hfz119_3 := yE Z1.out 3
                have hfz119_4 := yE Z1.out 4
                have hfz119_5 := yE Z1.out 5
                have hnb120 := Z21.out
                have hnc120 := Z14.out
                have hnb121 := Z23.out
                have hnc121 := Z20.out
                have hcz122_0 : wr.cell? ⟨Z27, 0, none⟩ = some (u460000) := (zO Z3.out 0).trans rfl
                have hcz122_1 : wr.cell? ⟨Z27, 1, none⟩ = some (.slice A0_1 l0_1.length c0_1) := (zO Z3.out 1).trans rfl
                have hfz122_0 := yE Z3.out 0
                have hfz122_1 := yE Z3.out 1
                obtain ⟨Ao123, co123, eo123⟩ := Kd.R_slice HO_460000.out
                subst eo123
                go_wp2_with (first | ((with_reducible refine gate_callee (f := 22) rfl ?_); refine goesL_ (some 105) rfl rfl Try.func22 (by kernel_rfl) rfl #[.agg #[.slice Ao123 x460000_4.length co123, .slice A0_1 l0_1.length c0_1], .agg #[.int .i64 a1_0, .int .i64 a1_1, .int .i64 a1_2, .int .i64 a1_3, .int .i64 a1_4, .slice none 0 0]] rfl (by (try simp only [yH, yI, yJ]); first | done | rfl | (simp only [yG, yF]; rfl)) ?_; (refine (w22_right.calls k4 _ _ x460000_4 _ _ l0_1 a1_0 a1_1 a1_2 a1_3 a1_4 _ _ ([] : List (S46)) false _ ?side1 ?side2 ?side3 ?side4 ?side5 ?side6 A85.out).mono ?_); (case side1 => refine (yM (e := 2) (base := w.heap.size) (ok := fun k_ => (some k_ ≠ (v451 : Value).ownBlock ∧ some k_ ≠ (.slice Ao60 x444000_1.length co60 : Value).ownBlock)) (n := x460000_4.length) (c := co123) ?_).2.2; exact (by (with_reducible repeat (first | apply zL | apply zM | apply zN)); exact (yd (Kd.R_far (p := ⟨Z25, 5, none⟩) (Kd.R_types HO_460000.out Z1.out (by decide)) (fun _ hk => hk.2) (.slice none 0 0)) (fun _ h_ => h_.1)))); (case side2 => exact (yM HO_460000.out).2.1); (case side3 => exact yc HR0_1.out (by repeat (first | (with_reducible first | exact HB.out | apply zJ | apply zD | apply zE | refine zI ?_ Z4.out | refine zI ?_ Z5.out | refine zI ?_ Z6.out | refine zI ?_ Z7.out) | exact HB.out))); (case side4 => exact HC0_1.out); (case side5 => exact Kd.C_nil _ _); (case side6 => exact yN _); rintro e w124 ⟨rfl, hb⟩; refine ⟨_, rfl, ?_⟩; have n0_ := zK (yb (by (with_reducible repeat (first | apply zL | apply zM | apply zN)); exact (yd (Kd.R_far (p := ⟨Z25, 5, none⟩) (Kd.R_types HO_10.out Z1.out (by decide)) (fun _ hk => hk.2) (.slice none 0 0)) (fun _ h_ => h_.1))) hb); have n1_ := zK (yb (by (with_reducible repeat (first | apply zL | apply zM | apply zN)); exact (yd (Kd.R_far (p := ⟨Z25, 5, none⟩) (Kd.R_types HO_444000.out Z1.out (by decide)) (fun _ hk => hk.2) (.slice none 0 0)) (fun _ h_ => h_.1))) hb); have n2_ := zK (yb (by (with_reducible repeat (first | apply zL | apply zM | apply zN)); exact (yd (Kd.R_far (p := ⟨Z25, 5, none⟩) (Kd.R_types HO_460000.out Z1.out (by decide)) (fun _ hk => hk.2) (.slice none 0 0)) (fun _ h_ => h_.1))) hb); have n3_ := zK (zP (g := Z24) (o := .cells #[.slice A0_0 l0_0.length c0_0, .slice A0_1 l0_1.length c0_1] 39 (0, 0)) (by (with_reducible repeat (first | refine zF ?_ _ | refine zH ?_ | refine zG ?_ _)); refine blk_far ?_ Z12.out _; (with_reducible repeat (first | refine zF ?_ _ | refine zH ?_ | refine zG ?_ _)); exact Z0.out) hb); have n4_ := zK (zP (g := Z25) (o := .cells #[.int .i64 a1_0, .int .i64 a1_1, .int .i64 a1_2, .int .i64 a1_3, .int .i64 a1_4, .slice none 0 0] 24 (0, 0)) (by (with_reducible repeat (first | refine zF ?_ _ | refine zH ?_ | refine zG ?_ _)); refine blk_put (cs := #[.int .i64 a1_0, .int .i64 a1_1, .int .i64 a1_2, .int .i64 a1_3, .int .i64 a1_4, .slice A1_5 l1_5.length c1_5]) ?_ 5 _ rfl; (with_reducible repeat (first | refine zF ?_ _ | refine zH ?_ | refine zG ?_ _)); exact Z1.out) hb); have n5_ := zK (zP (g := Z26) (o := .cells #[.slice Ao60 x444000_1.length co60, .slice A0_1 l0_1.length c0_1] 39 (0, 0)) (by (with_reducible repeat (first | refine zF ?_ _ | refine zH ?_ | refine zG ?_ _)); refine blk_far ?_ Z19.out _; (with_reducible repeat (first | refine zF ?_ _ | refine zH ?_ | refine zG ?_ _)); exact Z2.out) hb); have n6_ := zK (zP (g := Z27) (o := .cells #[.slice Ao123 x460000_4.length co123, .slice A0_1 l0_1.length c0_1] 39 (0, 0)) (by (with_reducible repeat (first | refine zF ?_ _ | refine zH ?_ | refine zG ?_ _)); refine blk_far ?_ Z22.out _; (with_reducible repeat (first | refine zF ?_ _ | refine zH ?_ | refine zG ?_ _)); exact Z3.out) hb); have n7_ := zK (yL (by repeat (first | (with_reducible first | exact HB.out | apply zJ | apply zD | apply zE | refine zI ?_ Z4.out | refine zI ?_ Z5.out | refine zI ?_ Z6.out | refine zI ?_ Z7.out) | exact HB.out)) hb); clear HO_10 HO_444000 HO_460000 Z0 Z1 Z2 Z3 HB; have HO_10 := n0_; have HO_444000 := n1_; have HO_460000 := n2_; have Z0 := n3_; have Z1 := n4_; have Z2 := n5_; have Z3 := n6_; have HB := n7_; clear n0_ n1_ n2_ n3_ n4_ n5_ n6_ n7_; (try clear hb); (try clear hb2); (try clear hk); (try clear hi)))
                go_ret
                exact ⟨by first | rfl | (simp [errW_none, errW_some] <;> rfl) | (simp [*, errW_none, errW_some] <;> rfl), by repeat (first | (with_reducible first | exact HB.out | apply zJ | apply zD | apply zE | refine zI ?_ Z4.out | refine zI ?_ Z5.out | refine zI ?_ Z6.out | refine zI ?_ Z7.out) | exact HB.out)⟩
  ·replace c5 := yh.mpr c5
   subst c5
   have H1 : (some false) = some r := by rw [if_neg (show ¬ (false = true) by decide)] at H; exact H
   clear H
   have H := H1
   clear H1
   obtain rfl := yY H
   go_enter Try.func6, Try.ntmps6
   go_wp2_with (first | ((with_reducible refine gate_dst (N := 3) rfl ?_); refine box_event ?hg (N := 3) ?hd (cs := #[.slice A0_0 l0_0.length c0_0, .slice A0_1 l0_1.length c0_1]) (t := 39) ?hr ?_; (case hd => rfl); (case hg => rfl); (case hr => first | (go_simp; done) | (go_simp; rfl)); intro Z24 hg w125 hbox hb; have n0_ := zK (yL (by repeat (first | (with_reducible first | exact HB.out | apply zJ | apply zD | apply zE) | exact HB.out)) hb); have n1_ := zK (hbox); have n2_ := zK ((by rw [hg]; exact (yK (by repeat (first | (with_reducible first | exact HB.out | apply zJ | apply zD | apply zE) | exact HB.out))) : w.heap.size ≤ Z24)); have n3_ := zK ((by rw [hg]; exact (yK (by repeat (first | (with_reducible first | exact HB.out | apply zJ | apply zD | apply zE) | exact HB.out))) : w.heap.size ≤ Z24)); clear HB; have HB := n0_; have Z0 := n1_; have Z8 := n2_; have Z4 := n3_; clear n0_ n1_ n2_ n3_ hb hbox hg) | ((with_reducible refine gate_dst (N := 4) rfl ?_); refine box_event ?hg (N := 4) ?hd (cs := #[.int .i64 a1_0, .int .i64 a1_1, .int .i64 a1_2, .int .i64 a1_3, .int .i64 a1_4, .slice A1_5 l1_5.length c1_5]) (t := 24) ?hr ?_; (case hd => rfl); (case hg => rfl); (case hr => first | (go_simp; done) | (go_simp; rfl)); intro Z25 hg w126 hbox hb; have n0_ := zK (zP (g := Z24) (o := .cells #[.slice A0_0 l0_0.length c0_0, .slice A0_1 l0_1.length c0_1] 39 (0, 0)) (by (with_reducible repeat (first | refine zF ?_ _ | refine zH ?_ | refine zG ?_ _)); exact Z0.out) hb); have n1_ := zK (yL (by repeat (first | (with_reducible first | exact HB.out | apply zJ | apply zD | apply zE | refine zI ?_ Z4.out) | exact HB.out)) hb); have n2_ := zK (hbox); have n3_ := zK ((by rw [hg]; exact (yK (by repeat (first | (with_reducible first | exact HB.out | apply zJ | apply zD | apply zE | refine zI ?_ Z4.out) | exact HB.out))) : w.heap.size ≤ Z25)); have n4_ := zK ((by rw [hg]; exact (yK (by repeat (first | (with_reducible first | exact HB.out | apply zJ | apply zD | apply zE | refine zI ?_ Z4.out) | exact HB.out))) : w.heap.size ≤ Z25)); have n5_ := zK ((by rw [hg]; exact ym (yo (g := Z24) (o := .cells #[.slice A0_0 l0_0.length c0_0, .slice A0_1 l0_1.length c0_1] 39 (0, 0)) (by (with_reducible repeat (first | refine zF ?_ _ | refine zH ?_ | refine zG ?_ _)); exact Z0.out)) : Z24 ≠ Z25)); have n6_ := zK ((by rw [hg]; exact yn (yo (g := Z24) (o := .cells #[.slice A0_0 l0_0.length c0_0, .slice A0_1 l0_1.length c0_1] 39 (0, 0)) (by (with_reducible repeat (first | refine zF ?_ _ | refine zH ?_ | refine zG ?_ _)); exact Z0.out)) : Z25 ≠ Z24)); clear Z0 HB; have Z0 := n0_; have HB := n1_; have Z1 := n2_; have Z9 := n3_; have Z5 := n4_; have Z12 := n5_; have Z15 := n6_; clear n0_ n1_ n2_ n3_ n4_ n5_ n6_ hb hbox hg) | ((with_reducible refine gate_callee (f := 13) rfl ?_); refine goesL_ (some 16) rfl rfl Try.func13 (by kernel_rfl) rfl #[] rfl (by (try simp only [yH, yI, yJ]); first | done | rfl | (simp only [yG, yF]; rfl)) ?_; (with_reducible refine (w22_awake.calls k  false _ A4.out).mono ?_); rintro e w127 ⟨rfl, hb⟩; refine ⟨_, rfl, ?_⟩; have n0_ := zK (zP (g := Z24) (o := .cells #[.slice A0_0 l0_0.length c0_0, .slice A0_1 l0_1.length c0_1] 39 (0, 0)) (by (with_reducible repeat (first | refine zF ?_ _ | refine zH ?_ | refine zG ?_ _)); exact Z0.out) hb); have n1_ := zK (zP (g := Z25) (o := .cells #[.int .i64 a1_0, .int .i64 a1_1, .int .i64 a1_2, .int .i64 a1_3, .int .i64 a1_4, .slice A1_5 l1_5.length c1_5] 24 (0, 0)) (by (with_reducible repeat (first | refine zF ?_ _ | refine zH ?_ | refine zG ?_ _)); exact Z1.out) hb); have n2_ := zK (yL (by repeat (first | (with_reducible first | exact HB.out | apply zJ | apply zD | apply zE | refine zI ?_ Z4.out | refine zI ?_ Z5.out) | exact HB.out)) hb); clear Z0 Z1 HB; have Z0 := n0_; have Z1 := n1_; have HB := n2_; clear n0_ n1_ n2_; (try clear hb); (try clear hb2); (try clear hk); (try clear hi)))
   go_ret
   exact ⟨by first | rfl | (simp [errW_none, errW_some] <;> rfl) | (simp [*, errW_none, errW_some] <;> rfl), by repeat (first | (with_reducible first | exact HB.out | apply zJ | apply zD | apply zE | refine zI ?_ Z4.out | refine zI ?_ Z5.out) | exact HB.out)⟩

end Go.Proofs.Ythmckhfjaleomaa.T
