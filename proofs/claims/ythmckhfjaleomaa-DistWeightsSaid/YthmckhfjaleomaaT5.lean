-- Printed by this session's own driver (wip/tools/xprint.py) over the kit's printer; given functions are this session's own.
import Derived.Test.YthmckhfjaleomaaT0
import Derived.Test.YthmckhfjaleomaaT2
import Derived.Test.YthmckhfjaleomaaT3
import Derived.Test.YthmckhfjaleomaaT4
namespace Go.Proofs.Ythmckhfjaleomaa.T
open Go.RowKit Go.Proofs.YthmckhfjaleomaaW.PrintWords Go.Proofs.YthmckhfjaleomaaW.PrintLast Go.Proofs.YthmckhfjaleomaaW.PrintMore
attribute [local go_sem] max2_int min2_int max_two min_two max_three min_three max_four min_four   -- for this text's walks alone
set_option linter.unusedVariables false
set_option linter.unusedSimpArgs false

/-! ### dist_Weights: function 19 -/
mutual
def dist_Weights.j0 : Nat → List Int → Bool → List Bool → Int → Int → Int → Int → Int → List (S46) → Option (List Int × Int)
  | 0, _, _, _, _, _, _, _, _, _ => none
  | k + 1, x0, x21, Y0, Y1, Y2, Y3, Y4, Y5, Y6 => if x21 = true then (some (([] : List Int), 221)) else ((dist_Check.f k Y1 Y2 Y3 Y4 Y5 Y6 (x0.length : Int)).bind fun t167 => (if t167 = 0 then (if (Y0.length : Int) > 0 then (dist_Weights.j1 k x0 ((Y0.length : Int) != (x0.length : Int)) Y0 Y1 Y2 Y3 Y4 Y5 Y6) else (dist_Weights.j1 k x0 false Y0 Y1 Y2 Y3 Y4 Y5 Y6)) else (some (([] : List Int), t167))))
def dist_Weights.j2 : Nat → List Int → List Bool → Int → Int → Int → Int → Int → List (S46) → Option (List Int × Int)
  | 0, _, _, _, _, _, _, _, _ => none
  | k + 1, x0, Y0, Y1, Y2, Y3, Y4, Y5, Y6 => (dist_heat.f x0 Y0 Y1 Y2 Y3 Y4 Y5 Y6).bind fun t169 => (if Y3 > 0 then ((rank_Top.f t169 Y3).bind fun t172 => ((dist_kept.f k t169 t172).bind fun t175 => (dist_Weights.j3 k t175 Y1 Y2 Y3 Y4 Y5 Y6))) else (dist_Weights.j3 k t169 Y1 Y2 Y3 Y4 Y5 Y6))
def dist_Weights.j3 : Nat → List Int → Int → Int → Int → Int → Int → List (S46) → Option (List Int × Int)
  | 0, _, _, _, _, _, _, _ => none
  | k + 1, x10, Y1, Y2, Y3, Y4, Y5, Y6 => (rank_Nucleus.f k x10 Y4).bind fun bt178 => ((dist_kept.f k x10 bt178.1).bind fun t182 => ((dist_Total.f k Y1 Y2 Y3 Y4 Y5 Y6).bind fun t185 => ((rank_Share.f k t182 t185).bind fun bt186 => (some (bt186.1, bt186.2)))))
def dist_Weights.j1 : Nat → List Int → Bool → List Bool → Int → Int → Int → Int → Int → List (S46) → Option (List Int × Int)
  | 0, _, _, _, _, _, _, _, _, _ => none
  | k + 1, x0, x29, Y0, Y1, Y2, Y3, Y4, Y5, Y6 => if x29 = true then (some (([] : List Int), 222)) else (if (Y0.length : Int) > 0 then ((slices_Contains_bool_bool.f k Y0 true).bind fun t168 => (if t168 = true then (dist_Weights.j2 k x0 Y0 Y1 Y2 Y3 Y4 Y5 Y6) else (some (([] : List Int), 223)))) else (dist_Weights.j2 k x0 Y0 Y1 Y2 Y3 Y4 Y5 Y6))
end
def dist_Weights.f (k : Nat) (l0 : List Int) (l1 : List Bool) (a2_0 : Int) (a2_1 : Int) (a2_2 : Int) (a2_3 : Int) (a2_4 : Int) (l2_5 : List (S46)) : Option (List Int × Int) := (dist_between.f (l0.length : Int) 1 512).bind fun t165 => (if t165 = true then ((slices_ContainsFunc_int64_int64.f l0).bind fun t166 => (dist_Weights.j0 k l0 t166 l1 a2_0 a2_1 a2_2 a2_3 a2_4 l2_5)) else (dist_Weights.j0 k l0 true l1 a2_0 a2_1 a2_2 a2_3 a2_4 l2_5))
theorem dist_Weights.mono_l : ∀ k, (∀ y0 y1 y2 y3 y4 y5 y6 y7 y8, LeO (dist_Weights.j0 k y0 y1 y2 y3 y4 y5 y6 y7 y8) (dist_Weights.j0 (k + 1) y0 y1 y2 y3 y4 y5 y6 y7 y8)) ∧ (∀ y0 y1 y2 y3 y4 y5 y6 y7, LeO (dist_Weights.j2 k y0 y1 y2 y3 y4 y5 y6 y7) (dist_Weights.j2 (k + 1) y0 y1 y2 y3 y4 y5 y6 y7)) ∧ (∀ y0 y1 y2 y3 y4 y5 y6, LeO (dist_Weights.j3 k y0 y1 y2 y3 y4 y5 y6) (dist_Weights.j3 (k + 1) y0 y1 y2 y3 y4 y5 y6)) ∧ (∀ y0 y1 y2 y3 y4 y5 y6 y7 y8, LeO (dist_Weights.j1 k y0 y1 y2 y3 y4 y5 y6 y7 y8) (dist_Weights.j1 (k + 1) y0 y1 y2 y3 y4 y5 y6 y7 y8))
  | 0 => ⟨fun _ _ _ _ _ _ _ _ _ r h => by simp [dist_Weights.j0] at h, fun _ _ _ _ _ _ _ _ r h => by simp [dist_Weights.j2] at h, fun _ _ _ _ _ _ _ r h => by simp [dist_Weights.j3] at h, fun _ _ _ _ _ _ _ _ _ r h => by simp [dist_Weights.j1] at h⟩
  | k + 1 => by
    obtain ⟨ih0, ih1, ih2, ih3⟩ := dist_Weights.mono_l k
    refine ⟨?_, ?_, ?_, ?_⟩ <;> (intros; first | unfold dist_Weights.j0 | unfold dist_Weights.j2 | unfold dist_Weights.j3 | unfold dist_Weights.j1)
    all_goals repeat' first
      | (with_reducible exact ih0 _ _ _ _ _ _ _ _ _)
      | (with_reducible exact ih1 _ _ _ _ _ _ _ _)
      | (with_reducible exact ih2 _ _ _ _ _ _ _)
      | (with_reducible exact ih3 _ _ _ _ _ _ _ _ _)
      | (with_reducible exact dist_Check.mono _ _ _ _ _ _ _ _)
      | (with_reducible exact dist_Total.mono _ _ _ _ _ _ _)
      | (with_reducible exact dist_kept.mono _ _ _)
      | (with_reducible exact rank_Nucleus.mono _ _ _)
      | (with_reducible exact rank_Share.mono _ _ _)
      | (with_reducible exact slices_Contains_bool_bool.mono _ _ _)
      | (with_reducible exact yR _)
      | (with_reducible exact yO _)
      | (with_reducible refine yQ ?_ ?_)
      | (with_reducible refine yP ?_ (fun _ => ?_))
      | exact ih0 _ _ _ _ _ _ _ _ _
      | exact ih1 _ _ _ _ _ _ _ _
      | exact ih2 _ _ _ _ _ _ _
      | exact ih3 _ _ _ _ _ _ _ _ _
      | exact dist_Check.mono _ _ _ _ _ _ _ _
      | exact dist_Total.mono _ _ _ _ _ _ _
      | exact dist_kept.mono _ _ _
      | exact rank_Nucleus.mono _ _ _
      | exact rank_Share.mono _ _ _
      | exact slices_Contains_bool_bool.mono _ _ _
      | exact yO _
      | refine yQ ?_ ?_
      | refine yP ?_ (fun _ => ?_)
theorem dist_Weights.mono : ∀ a0 a1 a2 a3 a4 a5 a6 a7 k, LeO (dist_Weights.f k a0 a1 a2 a3 a4 a5 a6 a7) (dist_Weights.f (k + 1) a0 a1 a2 a3 a4 a5 a6 a7) := by
  intro a0 a1 a2 a3 a4 a5 a6 a7 k
  obtain ⟨ih0, ih1, ih2, ih3⟩ := dist_Weights.mono_l k
  unfold dist_Weights.f
  repeat' first
      | (with_reducible exact ih0 _ _ _ _ _ _ _ _ _)
      | (with_reducible exact ih1 _ _ _ _ _ _ _ _)
      | (with_reducible exact ih2 _ _ _ _ _ _ _)
      | (with_reducible exact ih3 _ _ _ _ _ _ _ _ _)
      | (with_reducible exact dist_Check.mono _ _ _ _ _ _ _ _)
      | (with_reducible exact dist_Total.mono _ _ _ _ _ _ _)
      | (with_reducible exact dist_kept.mono _ _ _)
      | (with_reducible exact rank_Nucleus.mono _ _ _)
      | (with_reducible exact rank_Share.mono _ _ _)
      | (with_reducible exact slices_Contains_bool_bool.mono _ _ _)
      | (with_reducible exact yR _)
      | (with_reducible exact yO _)
      | (with_reducible refine yQ ?_ ?_)
      | (with_reducible refine yP ?_ (fun _ => ?_))
      | exact ih0 _ _ _ _ _ _ _ _ _
      | exact ih1 _ _ _ _ _ _ _ _
      | exact ih2 _ _ _ _ _ _ _
      | exact ih3 _ _ _ _ _ _ _ _ _
      | exact dist_Check.mono _ _ _ _ _ _ _ _
      | exact dist_Total.mono _ _ _ _ _ _ _
      | exact dist_kept.mono _ _ _
      | exact rank_Nucleus.mono _ _ _
      | exact rank_Share.mono _ _ _
      | exact slices_Contains_bool_bool.mono _ _ _
      | exact yO _
      | refine yQ ?_ ?_
      | refine yP ?_ (fun _ => ?_)
def dist_Weights.T15 : Bool × List (List Nat × List Nat) := (true, [([], []), ([], []), ([0, 1], [0, 1]), ([], []), ([3, 2], [3]), ([2, 4, 4], [2, 4]), ([5], [5]), ([5], [5]), ([6, 5, 0, 1, 2, 3, 4, 5, 6, 7], [6]), ([7, 8, 0, 1, 2, 3, 4, 5, 6, 7, 8], [7])])
def dist_Weights.B15 : List Nat := [0, 0, 3, 0, 15, 31, 63, 63, 255, 511]
theorem dist_Weights.tab15 : rtab .any (opsOf Try.f19 15) = dist_Weights.T15 := by kernel_rfl
theorem dist_Weights.bits15 : waitsOk dist_Weights.T15.2 dist_Weights.B15 = true := by kernel_rfl
set_option maxHeartbeats 8000000 in
set_option maxRecDepth 100000 in
theorem dist_Weights.calls (k : Nat) (A0 : Option Addr) (c0 : Nat) (l0 : List Int) (A1 : Option Addr) (c1 : Nat) (l1 : List Bool) (a2_0 : Int) (a2_1 : Int) (a2_2 : Int) (a2_3 : Int) (a2_4 : Int) (A2_5 : Option Addr) (c2_5 : Nat) (l2_5 : List (S46)) (r1 : List Int) (r2 : Int) (w : World) (hr0 : Kd.C (Kd.int .i64) w A0 l0.length l0) (hc0 : l0.length ≤ c0) (hr1 : Kd.C Kd.bool w A1 l1.length l1) (hc1 : l1.length ≤ c1) (hr2_5 : Kd.C k46 w A2_5 l2_5.length l2_5) (hc2_5 : l2_5.length ≤ c2_5) (h : dist_Weights.f k l0 l1 a2_0 a2_1 a2_2 a2_3 a2_4 l2_5 = some (r1, r2)) :
    Calls Try.prog 19 #[.slice A0 l0.length c0, .slice A1 l1.length c1, .agg #[.int .i64 a2_0, .int .i64 a2_1, .int .i64 a2_2, .int .i64 a2_3, .int .i64 a2_4, .slice A2_5 l2_5.length c2_5]] w fun e w' => ∃ v0_ : Value, e = .returned (.tuple #[v0_, .int .i64 r2]) ∧ Kd.R (Kd.int .i64) 2 w' w.heap.size (fun _ => True) v0_ r1 ∧ Below w.heap.size w w' := by
  have hu24 := Try.underlying24
  have HR0 := zK hr0
  have HC0 := zK hc0
  clear hr0 hc0
  have HR1 := zK hr1
  have HC1 := zK hc1
  clear hr1 hc1
  have HR2_5 := zK hr2_5
  have HC2_5 := zK hc2_5
  clear hr2_5 hc2_5
  have HB := zK (Below.refl w.heap.size w)
  have H : ((dist_between.f (l0.length : Int) 1 512).bind fun t165 => (if t165 = true then ((slices_ContainsFunc_int64_int64.f l0).bind fun t166 => (dist_Weights.j0 k l0 t166 l1 a2_0 a2_1 a2_2 a2_3 a2_4 l2_5)) else (dist_Weights.j0 k l0 true l1 a2_0 a2_1 a2_2 a2_3 a2_4 l2_5))) = some (r1, r2) := h
  clear h
  have HC4 := zK H
  clear H
  go_enter Try.func19, Try.ntmps19
  go_upto_region 2 with (first | ((with_reducible refine gate_dst (N := 4) rfl ?_); refine box_event ?hg (N := 4) ?hd (cs := #[.slice A1 l1.length c1]) (t := 37) ?hr ?_; (case hd => rfl); (case hg => rfl); (case hr => first | (go_simp; done) | (go_simp; rfl)); intro Z8 hg w5 hbox hb; have n0_ := zK (yL (by repeat (first | (with_reducible first | exact HB.out | apply zJ | apply zD | apply zE) | exact HB.out)) hb); have n1_ := zK (hbox); have n2_ := zK ((by rw [hg]; exact (yK (by repeat (first | (with_reducible first | exact HB.out | apply zJ | apply zD | apply zE) | exact HB.out))) : w.heap.size ≤ Z8)); have n3_ := zK ((by rw [hg]; exact (yK (by repeat (first | (with_reducible first | exact HB.out | apply zJ | apply zD | apply zE) | exact HB.out))) : w.heap.size ≤ Z8)); clear HB; have HB := n0_; have Z0 := n1_; have Z4 := n2_; have Z2 := n3_; clear n0_ n1_ n2_ n3_ hb hbox hg) | ((with_reducible refine gate_dst (N := 5) rfl ?_); refine box_event ?hg (N := 5) ?hd (cs := #[.int .i64 a2_0, .int .i64 a2_1, .int .i64 a2_2, .int .i64 a2_3, .int .i64 a2_4, .slice A2_5 l2_5.length c2_5]) (t := 24) ?hr ?_; (case hd => rfl); (case hg => rfl); (case hr => first | (go_simp; done) | (go_simp; rfl)); intro Z9 hg w6 hbox hb; have n0_ := zK (zP (g := Z8) (o := .cells #[.slice A1 l1.length c1] 37 (0, 0)) (by (with_reducible repeat (first | refine zF ?_ _ | refine zH ?_ | refine zG ?_ _)); exact Z0.out) hb); have n1_ := zK (yL (by repeat (first | (with_reducible first | exact HB.out | apply zJ | apply zD | apply zE | refine zI ?_ Z2.out) | exact HB.out)) hb); have n2_ := zK (hbox); have n3_ := zK ((by rw [hg]; exact (yK (by repeat (first | (with_reducible first | exact HB.out | apply zJ | apply zD | apply zE | refine zI ?_ Z2.out) | exact HB.out))) : w.heap.size ≤ Z9)); have n4_ := zK ((by rw [hg]; exact (yK (by repeat (first | (with_reducible first | exact HB.out | apply zJ | apply zD | apply zE | refine zI ?_ Z2.out) | exact HB.out))) : w.heap.size ≤ Z9)); have n5_ := zK ((by rw [hg]; exact ym (yo (g := Z8) (o := .cells #[.slice A1 l1.length c1] 37 (0, 0)) (by (with_reducible repeat (first | refine zF ?_ _ | refine zH ?_ | refine zG ?_ _)); exact Z0.out)) : Z8 ≠ Z9)); have n6_ := zK ((by rw [hg]; exact yn (yo (g := Z8) (o := .cells #[.slice A1 l1.length c1] 37 (0, 0)) (by (with_reducible repeat (first | refine zF ?_ _ | refine zH ?_ | refine zG ?_ _)); exact Z0.out)) : Z9 ≠ Z8)); clear Z0 HB; have Z0 := n0_; have HB := n1_; have Z1 := n2_; have Z5 := n3_; have Z3 := n4_; have Z6 := n5_; have Z7 := n6_; clear n0_ n1_ n2_ n3_ n4_ n5_ n6_ hb hbox hg))
  (try simp only [Act.put, zA, zB, zC])
  go_cut [21] (fun v21 wc => ∃ (kq : Nat) (x21_3 : Bool), v21 = .bool x21_3 ∧ Aside0 (dist_Weights.j0 kq l0 x21_3 l1 a2_0 a2_1 a2_2 a2_3 a2_4 l2_5 = some (r1, r2)) ∧ Aside0 (kq ≤ k) ∧ Aside0 (wc.heap[Z8]? = some (.cells #[(.slice A1 l1.length c1)] 37 (0, 0))) ∧ Aside0 (wc.heap[Z9]? = some (.cells #[.int .i64 a2_0, .int .i64 a2_1, .int .i64 a2_2, .int .i64 a2_3, .int .i64 a2_4, (.slice A2_5 l2_5.length c2_5)] 24 (0, 0))) ∧ Aside0 (Below w.heap.size w wc))
  case first =>
   have H := HC4.out
   clear HC4
   replace H := yA.mp H
   obtain ⟨t165, A70, H⟩ := H
   replace H : (if t165 = true then ((slices_ContainsFunc_int64_int64.f l0).bind fun t166 => (dist_Weights.j0 k l0 t166 l1 a2_0 a2_1 a2_2 a2_3 a2_4 l2_5)) else (dist_Weights.j0 k l0 true l1 a2_0 a2_1 a2_2 a2_3 a2_4 l2_5)) = some (r1, r2) := H
   have A7 := zK A70
   clear A70
   by_cases c8 : t165 = true
   ·subst c8
    have H1 : ((slices_ContainsFunc_int64_int64.f l0).bind fun t166 => (dist_Weights.j0 k l0 t166 l1 a2_0 a2_1 a2_2 a2_3 a2_4 l2_5)) = some (r1, r2) := by rw [if_pos rfl] at H; exact H
    clear H
    have H := H1
    clear H1
    replace H := yA.mp H
    obtain ⟨t166, A90, H⟩ := H
    replace H : (dist_Weights.j0 k l0 t166 l1 a2_0 a2_1 a2_2 a2_3 a2_4 l2_5) = some (r1, r2) := H
    have A9 := zK A90
    clear A90
    have H' := zK H
    clear H
    go_wp2_with (first | ((with_reducible refine gate_callee (f := 33) rfl ?_); refine goesL_ (some 15) rfl rfl Try.func33 (by kernel_rfl) rfl #[.int .i64 (l0.length : Int), .int .i64 1, .int .i64 512] rfl (by (try simp only [yH, yI, yJ]); first | done | rfl | (simp only [yG, yF]; rfl)) ?_; (with_reducible refine (dist_between.calls (l0.length : Int) 1 512 true _ A7.out).mono ?_); rintro e w' ⟨rfl, ⟨nd, rfl⟩⟩; refine ⟨_, rfl, ?_⟩) | (go_at_call 38; (with_reducible refine (slices_ContainsFunc_int64_int64.calls _ _ l0  t166 _ ?side1 ?side2 A9.out).mono ?_); (case side1 => repeat (first | exact (yc HR0.out (by repeat (first | (with_reducible first | exact HB.out | apply zJ | apply zD | apply zE | refine zI ?_ Z2.out | refine zI ?_ Z3.out) | exact HB.out))) | (with_reducible refine yS ?_ _) | (with_reducible refine yT ?_ _) | (with_reducible refine yU ?_))); (case side2 => exact HC0.out); rintro e w10 ⟨rfl, hb⟩; have n0_ := zK (zP (g := Z8) (o := .cells #[.slice A1 l1.length c1] 37 (0, 0)) (by (with_reducible repeat (first | refine zF ?_ _ | refine zH ?_ | refine zG ?_ _)); exact Z0.out) hb); have n1_ := zK (zP (g := Z9) (o := .cells #[.int .i64 a2_0, .int .i64 a2_1, .int .i64 a2_2, .int .i64 a2_3, .int .i64 a2_4, .slice A2_5 l2_5.length c2_5] 24 (0, 0)) (by (with_reducible repeat (first | refine zF ?_ _ | refine zH ?_ | refine zG ?_ _)); exact Z1.out) hb); have n2_ := zK (yL (by repeat (first | (with_reducible first | exact HB.out | apply zJ | apply zD | apply zE | refine zI ?_ Z2.out | refine zI ?_ Z3.out) | exact HB.out)) hb); clear Z0 Z1 HB; have Z0 := n0_; have Z1 := n1_; have HB := n2_; clear n0_ n1_ n2_; (try clear hb); (try clear hb2); (try clear hk); (try clear hi)))
    go_meet
    case rel => exact ⟨_, (t166), (by first | rfl | (simp; done) | (simp [*]; done)), H', ⟨by first | omega | exact yN _⟩, ⟨by (with_reducible repeat (first | refine zF ?_ _ | refine zH ?_ | refine zG ?_ _)); exact Z0.out⟩, ⟨by (with_reducible repeat (first | refine zF ?_ _ | refine zH ?_ | refine zG ?_ _)); exact Z1.out⟩, ⟨by repeat (first | (with_reducible first | exact HB.out | apply zJ | apply zD | apply zE | refine zI ?_ Z2.out | refine zI ?_ Z3.out) | exact HB.out)⟩⟩
   ·replace c8 := yh.mpr c8
    subst c8
    have H1 : (dist_Weights.j0 k l0 true l1 a2_0 a2_1 a2_2 a2_3 a2_4 l2_5) = some (r1, r2) := by rw [if_neg (show ¬ (false = true) by decide)] at H; exact H
    clear H
    have H := H1
    clear H1
    have H' := zK H
    clear H
    go_wp2_with (first | ((with_reducible refine gate_callee (f := 33) rfl ?_); refine goesL_ (some 15) rfl rfl Try.func33 (by kernel_rfl) rfl #[.int .i64 (l0.length : Int), .int .i64 1, .int .i64 512] rfl (by (try simp only [yH, yI, yJ]); first | done | rfl | (simp only [yG, yF]; rfl)) ?_; (with_reducible refine (dist_between.calls (l0.length : Int) 1 512 false _ A7.out).mono ?_); rintro e w' ⟨rfl, ⟨nd, rfl⟩⟩; refine ⟨_, rfl, ?_⟩))
    go_meet
    case rel => exact ⟨_, (true), (by first | rfl | (simp; done) | (simp [*]; done)), H', ⟨by first | omega | exact yN _⟩, ⟨by (with_reducible repeat (first | refine zF ?_ _ | refine zH ?_ | refine zG ?_ _)); exact Z0.out⟩, ⟨by (with_reducible repeat (first | refine zF ?_ _ | refine zH ?_ | refine zG ?_ _)); exact Z1.out⟩, ⟨by repeat (first | (with_reducible first | exact HB.out | apply zJ | apply zD | apply zE | refine zI ?_ Z2.out | refine zI ?_ Z3.out) | exact HB.out)⟩⟩
  case rest =>
   clear HC4
   try clear c1
   try clear c2
   try clear p2
   try clear c3
   try clear c8
   obtain ⟨kq, x21_3, rfl, HA, HJ3, Z0, Z1, HB⟩ := hcut
   cases kq with
   | zero => exact absurd HA.out (by simp [dist_Weights.j0])
   | succ kj3 =>
    have H := HA.out
    clear HA
    simp only [dist_Weights.j0] at H
    by_cases c11 : x21_3 = true
    ·subst c11
     have H1 : (some (([] : List Int), 221)) = some (r1, r2) := by rw [if_pos rfl] at H; exact H
     clear H
     have H := H1
     clear H1
     simp only [yZ, ya] at H
     obtain ⟨rfl, rfl⟩ := H
     go_wp2
     go_ret2
     exact ⟨_, by first | rfl | (simp [errW_none, errW_some] <;> rfl) | (simp [*, errW_none, errW_some] <;> rfl), by first | exact Kd.R_nil _ _ _ _ _ | exact Kd.N_nil _ _ _ _ _ | exact Kd.V_nil _ _ _ _ _ | exact Kd.Q_nil _ _ _ _ _ | exact Kd.S_nil _ _ _ _ _, by repeat (first | (with_reducible first | exact HB.out | apply zJ | apply zD | apply zE | refine zI ?_ Z2.out | refine zI ?_ Z3.out) | exact HB.out)⟩
    ·replace c11 := yh.mpr c11
     subst c11
     have H1 : ((dist_Check.f kj3 a2_0 a2_1 a2_2 a2_3 a2_4 l2_5 (l0.length : Int)).bind fun t167 => (if t167 = 0 then (if (l1.length : Int) > 0 then (dist_Weights.j1 kj3 l0 ((l1.length : Int) != (l0.length : Int)) l1 a2_0 a2_1 a2_2 a2_3 a2_4 l2_5) else (dist_Weights.j1 kj3 l0 false l1 a2_0 a2_1 a2_2 a2_3 a2_4 l2_5)) else (some (([] : List Int), t167)))) = some (r1, r2) := by rw [if_neg (show ¬ (false = true) by decide)] at H; exact H
     clear H
     have H := H1
     clear H1
     replace H := yA.mp H
     obtain ⟨t167, A120, H⟩ := H
     replace H : (if t167 = 0 then (if (l1.length : Int) > 0 then (dist_Weights.j1 kj3 l0 ((l1.length : Int) != (l0.length : Int)) l1 a2_0 a2_1 a2_2 a2_3 a2_4 l2_5) else (dist_Weights.j1 kj3 l0 false l1 a2_0 a2_1 a2_2 a2_3 a2_4 l2_5)) else (some (([] : List Int), t167))) = some (r1, r2) := H
     have A12 := zK A120
     clear A120
     by_cases c13 : t167 = 0
     ·rw [if_pos c13] at H
      have c13b0 : (t167 == 0) = true := beq_iff_eq.mpr c13
      have c13b1 : (t167 != 0) = false := bne_eq_false_iff_eq.mpr c13
      clear c13
      have HC14 := zK H
      clear H
      have hnb15 := Z7.out
      have hnc15 := Z6.out
      have hcz16_0 : wc.cell? ⟨Z9, 0, none⟩ = some (.int .i64 a2_0) := (zO Z1.out 0).trans rfl
      have hcz16_1 : wc.cell? ⟨Z9, 1, none⟩ = some (.int .i64 a2_1) := (zO Z1.out 1).trans rfl
      have hcz16_2 : wc.cell? ⟨Z9, 2, none⟩ = some (.int .i64 a2_2) := (zO Z1.out 2).trans rfl
      have hcz16_3 : wc.cell? ⟨Z9, 3, none⟩ = some (.int .i64 a2_3) := (zO Z1.out 3).trans rfl
      have hcz16_4 : wc.cell? ⟨Z9, 4, none⟩ = some (.int .i64 a2_4) := (zO Z1.out 4).trans rfl
      have hcz16_5 : wc.cell? ⟨Z9, 5, none⟩ = some (.slice A2_5 l2_5.length c2_5) := (zO Z1.out 5).trans rfl
      have hfz16_0 := yE Z1.out 0
      have hfz16_1 := yE Z1.out 1
      have hfz16_2 := yE Z1.out 2
      have hfz16_3 := yE Z1.out 3
      have hfz16_4 := yE Z1.out 4
      have hfz16_5 := yE Z1.out 5
      go_upto_block 0 with (first | ((with_reducible refine gate_callee (f := 14) rfl ?_); refine goesL_ (some 25) rfl rfl Try.func14 (by kernel_rfl) rfl #[.agg #[.int .i64 a2_0, .int .i64 a2_1, .int .i64 a2_2, .int .i64 a2_3, .int .i64 a2_4, .slice A2_5 l2_5.length c2_5], .int .i64 (l0.length : Int)] rfl (by (try simp only [yH, yI, yJ]); first | done | rfl | (simp only [yG, yF]; rfl)) ?_; (with_reducible refine (dist_Check.calls kj3 a2_0 a2_1 a2_2 a2_3 a2_4 _ _ l2_5 (l0.length : Int) t167 _ ?side1 ?side2 A12.out).mono ?_); (case side1 => repeat (first | exact (yc HR2_5.out HB.out) | (with_reducible refine yS ?_ _) | (with_reducible refine yT ?_ _) | (with_reducible refine yU ?_))); (case side2 => exact HC2_5.out); rintro e w17 ⟨rfl, hb⟩; refine ⟨_, rfl, ?_⟩; have n0_ := zK (zP (g := Z8) (o := .cells #[.slice A1 l1.length c1] 37 (0, 0)) (by (with_reducible repeat (first | refine zF ?_ _ | refine zH ?_ | refine zG ?_ _)); exact Z0.out) hb); have n1_ := zK (zP (g := Z9) (o := .cells #[.int .i64 a2_0, .int .i64 a2_1, .int .i64 a2_2, .int .i64 a2_3, .int .i64 a2_4, .slice A2_5 l2_5.length c2_5] 24 (0, 0)) (by (with_reducible repeat (first | refine zF ?_ _ | refine zH ?_ | refine zG ?_ _)); exact Z1.out) hb); have n2_ := zK (yL (by repeat (first | (with_reducible first | exact HB.out | apply zJ | apply zD | apply zE | refine zI ?_ Z2.out | refine zI ?_ Z3.out) | exact HB.out)) hb); clear Z0 Z1 HB; have Z0 := n0_; have Z1 := n1_; have HB := n2_; clear n0_ n1_ n2_; (try clear hb); (try clear hb2); (try clear hk); (try clear hi)))
      (try simp only [Act.put, zA, zB, zC])
      go_cut [] (fun wc => ∃ (kq : Nat), Aside0 (dist_Weights.j2 kq l0 l1 a2_0 a2_1 a2_2 a2_3 a2_4 l2_5 = some (r1, r2)) ∧ Aside0 (kq ≤ kj3) ∧ Aside0 (wc.heap[Z8]? = some (.cells #[(.slice A1 l1.length c1)] 37 (0, 0))) ∧ Aside0 (wc.heap[Z9]? = some (.cells #[.int .i64 a2_0, .int .i64 a2_1, .int .i64 a2_2, .int .i64 a2_3, .int .i64 a2_4, (.slice A2_5 l2_5.length c2_5)] 24 (0, 0))) ∧ Aside0 (Below w.heap.size w wc))
      case first =>
       have H := HC14.out
       clear HC14
       have HC18 := zK H
       clear H
       go_upto_region 7 with (fail)
       go_cut [29] (fun v29 wc => ∃ (kq : Nat) (x29_17 : Bool), v29 = .bool x29_17 ∧ Aside0 (dist_Weights.j1 kq l0 x29_17 l1 a2_0 a2_1 a2_2 a2_3 a2_4 l2_5 = some (r1, r2)) ∧ Aside0 (kq ≤ kj3) ∧ Aside0 (wc.heap[Z8]? = some (.cells #[(.slice A1 l1.length c1)] 37 (0, 0))) ∧ Aside0 (wc.heap[Z9]? = some (.cells #[.int .i64 a2_0, .int .i64 a2_1, .int .i64 a2_2, .int .i64 a2_3, .int .i64 a2_4, (.slice A2_5 l2_5.length c2_5)] 24 (0, 0))) ∧ Aside0 (Below w.heap.size w wc))
       case first =>
        have H := HC18.out
        clear HC18
        by_cases c19 : (l1.length : Int) > 0
        ·rw [if_pos c19] at H
         have c19b0 : decide (0 < (l1.length : Int)) = true := yC c19
         have c19b1 : decide (0 < l1.length) = true := yC (by omega)
         clear c19
         (first | rw [c19b0] | (simp only [i64_w, i32_w]; rw [c19b0]) | skip)
         have H' := zK H
         clear H
         have hnb20 := Z6.out
         have hnc20 := Z7.out
         have hcz21_0 : w17.cell? ⟨Z8, 0, none⟩ = some (.slice A1 l1.length c1) := (zO Z0.out 0).trans rfl
         have hfz21_0 := yE Z0.out 0
         go_wp2
         go_meet
         case rel => exact ⟨_, (((l1.length : Int) != (l0.length : Int))), (by first | rfl | (simp; done) | (simp [*]; done)), H', ⟨by have := HJ3.out; first | omega | exact yN _⟩, ⟨by (with_reducible repeat (first | refine zF ?_ _ | refine zH ?_ | refine zG ?_ _)); exact Z0.out⟩, ⟨by (with_reducible repeat (first | refine zF ?_ _ | refine zH ?_ | refine zG ?_ _)); exact Z1.out⟩, ⟨by repeat (first | (with_reducible first | exact HB.out | apply zJ | apply zD | apply zE | refine zI ?_ Z2.out | refine zI ?_ Z3.out) | exact HB.out)⟩⟩
        ·rw [if_neg c19] at H
         have c19b0 : decide (0 < (l1.length : Int)) = false := yD c19
         have c19b1 : decide (0 < l1.length) = false := yD (by omega)
         clear c19
         (first | rw [c19b0] | (simp only [i64_w, i32_w]; rw [c19b0]) | skip)
         have H' := zK H
         clear H
         have hnb22 := Z6.out
         have hnc22 := Z7.out
         have hcz23_0 : w17.cell? ⟨Z8, 0, none⟩ = some (.slice A1 l1.length c1) := (zO Z0.out 0).trans rfl
         have hfz23_0 := yE Z0.out 0
         go_wp2
         go_meet
         case rel => exact ⟨_, (false), (by first | rfl | (simp; done) | (simp [*]; done)), H', ⟨by have := HJ3.out; first | omega | exact yN _⟩, ⟨by (with_reducible repeat (first | refine zF ?_ _ | refine zH ?_ | refine zG ?_ _)); exact Z0.out⟩, ⟨by (with_reducible repeat (first | refine zF ?_ _ | refine zH ?_ | refine zG ?_ _)); exact Z1.out⟩, ⟨by repeat (first | (with_reducible first | exact HB.out | apply zJ | apply zD | apply zE | refine zI ?_ Z2.out | refine zI ?_ Z3.out) | exact HB.out)⟩⟩
       case rest =>
        clear HC18
        try clear c1
        try clear c2
        try clear p2
        try clear c3
        try clear c8
        try clear c11
        try clear c13
        try clear c13b0
        try clear c13b1
        try clear c14
        try clear c15
        try clear c19
        try clear c19b0
        try clear c19b1
        try clear c20
        try clear c22
        try clear hcz16_0
        try clear hcz16_1
        try clear hcz16_2
        try clear hcz16_3
        try clear hcz16_4
        try clear hcz16_5
        try clear hcz21_0
        try clear hcz23_0
        try clear hfz16_0
        try clear hfz16_1
        try clear hfz16_2
        try clear hfz16_3
        try clear hfz16_4
        try clear hfz16_5
        try clear hfz21_0
        try clear hfz23_0
        try clear p2
        obtain ⟨kq, x29_17, rfl, HA, HJ17, Z0, Z1, HB⟩ := hcut
        cases kq with
        | zero => exact absurd HA.out (by simp [dist_Weights.j1])
        | succ kj17 =>
         have H := HA.out
         clear HA
         simp only [dist_Weights.j1] at H
         by_cases c24 : x29_17 = true
         ·subst c24
          have H1 : (some (([] : List Int), 222)) = some (r1, r2) := by rw [if_pos rfl] at H; exact H
          clear H
          have H := H1
          clear H1
          simp only [yZ, ya] at H
          obtain ⟨rfl, rfl⟩ := H
          go_wp2
          go_ret2
          exact ⟨_, by first | rfl | (simp [errW_none, errW_some] <;> rfl) | (simp [*, errW_none, errW_some] <;> rfl), by first | exact Kd.R_nil _ _ _ _ _ | exact Kd.N_nil _ _ _ _ _ | exact Kd.V_nil _ _ _ _ _ | exact Kd.Q_nil _ _ _ _ _ | exact Kd.S_nil _ _ _ _ _, by repeat (first | (with_reducible first | exact HB.out | apply zJ | apply zD | apply zE | refine zI ?_ Z2.out | refine zI ?_ Z3.out) | exact HB.out)⟩
         ·replace c24 := yh.mpr c24
          subst c24
          have H1 : (if (l1.length : Int) > 0 then ((slices_Contains_bool_bool.f kj17 l1 true).bind fun t168 => (if t168 = true then (dist_Weights.j2 kj17 l0 l1 a2_0 a2_1 a2_2 a2_3 a2_4 l2_5) else (some (([] : List Int), 223)))) else (dist_Weights.j2 kj17 l0 l1 a2_0 a2_1 a2_2 a2_3 a2_4 l2_5)) = some (r1, r2) := by rw [if_neg (show ¬ (false = true) by decide)] at H; exact H
          clear H
          have H := H1
          clear H1
          by_cases c25 : (l1.length : Int) > 0
          ·rw [if_pos c25] at H
           have c25b0 : decide (0 < (l1.length : Int)) = true := yC c25
           have c25b1 : decide (0 < l1.length) = true := yC (by omega)
           clear c25
           replace H := yA.mp H
           obtain ⟨t168, A260, H⟩ := H
           replace H : (if t168 = true then (dist_Weights.j2 kj17 l0 l1 a2_0 a2_1 a2_2 a2_3 a2_4 l2_5) else (some (([] : List Int), 223))) = some (r1, r2) := H
           have A26 := zK A260
           clear A260
           by_cases c27 : t168 = true
           ·subst c27
            have H1 : (dist_Weights.j2 kj17 l0 l1 a2_0 a2_1 a2_2 a2_3 a2_4 l2_5) = some (r1, r2) := by rw [if_pos rfl] at H; exact H
            clear H
            have H := H1
            clear H1
            have H' := zK H
            clear H
            have hnb28 := Z6.out
            have hnc28 := Z7.out
            have hcz29_0 : wc.cell? ⟨Z8, 0, none⟩ = some (.slice A1 l1.length c1) := (zO Z0.out 0).trans rfl
            have hfz29_0 := yE Z0.out 0
            go_wp2_with (first | (go_at_call 39; (with_reducible refine (slices_Contains_bool_bool.calls kj17 _ _ l1 true true _ ?side1 ?side2 A26.out).mono ?_); (case side1 => repeat (first | exact (yc HR1.out HB.out) | (with_reducible refine yS ?_ _) | (with_reducible refine yT ?_ _) | (with_reducible refine yU ?_))); (case side2 => exact HC1.out); rintro e w' ⟨rfl, ⟨nd, rfl⟩⟩))
            go_meet
            case rel => exact ⟨_, H', ⟨by have := HJ3.out; have := HJ17.out; first | omega | exact yN _⟩, ⟨by (with_reducible repeat (first | refine zF ?_ _ | refine zH ?_ | refine zG ?_ _)); exact Z0.out⟩, ⟨by (with_reducible repeat (first | refine zF ?_ _ | refine zH ?_ | refine zG ?_ _)); exact Z1.out⟩, ⟨by repeat (first | (with_reducible first | exact HB.out | apply zJ | apply zD | apply zE | refine zI ?_ Z2.out | refine zI ?_ Z3.out) | exact HB.out)⟩⟩
           ·replace c27 := yh.mpr c27
            subst c27
            have H1 : (some (([] : List Int), 223)) = some (r1, r2) := by rw [if_neg (show ¬ (false = true) by decide)] at H; exact H
            clear H
            have H := H1
            clear H1
            simp only [yZ, ya] at H
            obtain ⟨rfl, rfl⟩ := H
            have hnb30 := Z6.out
            have hnc30 := Z7.out
            have hcz31_0 : wc.cell? ⟨Z8, 0, none⟩ = some (.slice A1 l1.length c1) := (zO Z0.out 0).trans rfl
            have hfz31_0 := yE Z0.out 0
            go_wp2_with (first | (go_at_call 39; (with_reducible refine (slices_Contains_bool_bool.calls kj17 _ _ l1 true false _ ?side1 ?side2 A26.out).mono ?_); (case side1 => repeat (first | exact (yc HR1.out HB.out) | (with_reducible refine yS ?_ _) | (with_reducible refine yT ?_ _) | (with_reducible refine yU ?_))); (case side2 => exact HC1.out); rintro e w' ⟨rfl, ⟨nd, rfl⟩⟩))
            go_ret2
            exact ⟨_, by first | rfl | (simp [errW_none, errW_some] <;> rfl) | (simp [*, errW_none, errW_some] <;> rfl), by first | exact Kd.R_nil _ _ _ _ _ | exact Kd.N_nil _ _ _ _ _ | exact Kd.V_nil _ _ _ _ _ | exact Kd.Q_nil _ _ _ _ _ | exact Kd.S_nil _ _ _ _ _, by repeat (first | (with_reducible first | exact HB.out | apply zJ | apply zD | apply zE | refine zI ?_ Z2.out | refine zI ?_ Z3.out) | exact HB.out)⟩
          ·rw [if_neg c25] at H
           have c25b0 : decide (0 < (l1.length : Int)) = false := yD c25
           have c25b1 : decide (0 < l1.length) = false := yD (by omega)
           clear c25
           have H' := zK H
           clear H
           have hnb32 := Z6.out
           have hnc32 := Z7.out
           have hcz33_0 : wc.cell? ⟨Z8, 0, none⟩ = some (.slice A1 l1.length c1) := (zO Z0.out 0).trans rfl
           have hfz33_0 := yE Z0.out 0
           go_wp2
           go_meet
           case rel => exact ⟨_, H', ⟨by have := HJ3.out; have := HJ17.out; first | omega | exact yN _⟩, ⟨by (with_reducible repeat (first | refine zF ?_ _ | refine zH ?_ | refine zG ?_ _)); exact Z0.out⟩, ⟨by (with_reducible repeat (first | refine zF ?_ _ | refine zH ?_ | refine zG ?_ _)); exact Z1.out⟩, ⟨by repeat (first | (with_reducible first | exact HB.out | apply zJ | apply zD | apply zE | refine zI ?_ Z2.out | refine zI ?_ Z3.out) | exact HB.out)⟩⟩
      case rest =>
       clear HC14
       try clear c1
       try clear c2
       try clear p2
       try clear c3
       try clear c8
       try clear c11
       try clear c13
       try clear c13b0
       try clear c13b1
       try clear c14
       try clear c15
       try clear c19
       try clear c19b0
       try clear c19b1
       try clear c20
       try clear c22
       try clear c24
       try clear c25
       try clear c25b0
       try clear c25b1
       try clear c27
       try clear c28
       try clear c30
       try clear c32
       try clear c33
       try clear hcz16_0
       try clear hcz16_1
       try clear hcz16_2
       try clear hcz16_3
       try clear hcz16_4
       try clear hcz16_5
       try clear hcz21_0
       try clear hcz23_0
       try clear hcz29_0
       try clear hcz31_0
       try clear hcz33_0
       try clear hfz16_0
       try clear hfz16_1
       try clear hfz16_2
       try clear hfz16_3
       try clear hfz16_4
       try clear hfz16_5
       try clear hfz21_0
       try clear hfz23_0
       try clear hfz29_0
       try clear hfz31_0
       try clear hfz33_0
       try clear p2
       obtain ⟨kq, HA, HJ13, Z0, Z1, HB⟩ := hcut
       cases kq with
       | zero => exact absurd HA.out (by simp [dist_Weights.j2])
       | succ kj13 =>
        have H := HA.out
        clear HA
        simp only [dist_Weights.j2] at H
        replace H := yA.mp H
        obtain ⟨t169, A340, H⟩ := H
        replace H : (if a2_2 > 0 then ((rank_Top.f t169 a2_2).bind fun t172 => ((dist_kept.f kj13 t169 t172).bind fun t175 => (dist_Weights.j3 kj13 t175 a2_0 a2_1 a2_2 a2_3 a2_4 l2_5))) else (dist_Weights.j3 kj13 t169 a2_0 a2_1 a2_2 a2_3 a2_4 l2_5)) = some (r1, r2) := H
        have A34 := zK A340
        clear A340
        have HC35 := zK H
        clear H
        have hnb36 := Z7.out
        have hnc36 := Z6.out
        have hcz37_0 : wc.cell? ⟨Z9, 0, none⟩ = some (.int .i64 a2_0) := (zO Z1.out 0).trans rfl
        have hcz37_1 : wc.cell? ⟨Z9, 1, none⟩ = some (.int .i64 a2_1) := (zO Z1.out 1).trans rfl
        have hcz37_2 : wc.cell? ⟨Z9, 2, none⟩ = some (.int .i64 a2_2) := (zO Z1.out 2).trans rfl
        have hcz37_3 : wc.cell? ⟨Z9, 3, none⟩ = some (.int .i64 a2_3) := (zO Z1.out 3).trans rfl
        have hcz37_4 : wc.cell? ⟨Z9, 4, none⟩ = some (.int .i64 a2_4) := (zO Z1.out 4).trans rfl
        have hcz37_5 : wc.cell? ⟨Z9, 5, none⟩ = some (.slice A2_5 l2_5.length c2_5) := (zO Z1.out 5).trans rfl
        have hfz37_0 := yE Z1.out 0
        have hfz37_1 := yE Z1.out 1
        have hfz37_2 := yE Z1.out 2
        have hfz37_3 := yE Z1.out 3
        have hfz37_4 := yE Z1.out 4
        have hfz37_5 := yE Z1.out 5
        go_upto_if 55 with (first | ((with_reducible refine gate_callee (f := 40) rfl ?_); refine goesL_ (some 52) rfl rfl Try.func40 (by kernel_rfl) rfl #[.slice A0 l0.length c0, .func (.func 41) #[] #[.pointer (some ⟨Z8, 0, none⟩)], .agg #[.int .i64 a2_0, .int .i64 a2_1, .int .i64 a2_2, .int .i64 a2_3, .int .i64 a2_4, .slice A2_5 l2_5.length c2_5]] rfl (by (try simp only [yH, yI, yJ]); first | done | rfl | (simp only [yG, yF]; rfl)) ?_; (with_reducible refine (dist_heat.calls _ _ l0 Z8 A1 c1 l1 a2_0 a2_1 a2_2 a2_3 a2_4 _ _ l2_5 t169 _ ?side1 ?side2 ?side3 ?side4 ?side5 ?side6 ?side7 A34.out).mono ?_); (case side1 => repeat (first | exact (yc HR0.out HB.out) | (with_reducible refine yS ?_ _) | (with_reducible refine yT ?_ _) | (with_reducible refine yU ?_))); (case side2 => exact HC0.out); (case side3 => repeat (first | exact (yc HR1.out HB.out) | (with_reducible refine yS ?_ _) | (with_reducible refine yT ?_ _) | (with_reducible refine yU ?_))); (case side4 => exact HC1.out); (case side5 => repeat (first | exact (yc HR2_5.out HB.out) | (with_reducible refine yS ?_ _) | (with_reducible refine yT ?_ _) | (with_reducible refine yU ?_))); (case side6 => exact HC2_5.out); (case side7 => exact by (with_reducible repeat (first | refine zF ?_ _ | refine zH ?_ | refine zG ?_ _)); exact Z0.out); rintro e w38 ⟨v170, rfl, ho0, hb⟩; refine ⟨_, rfl, ?_⟩; have n0_ := zK (Kd.R_lower ho0 (yK (by repeat (first | (with_reducible first | exact HB.out | apply zJ | apply zD | apply zE | refine zI ?_ Z2.out | refine zI ?_ Z3.out) | exact HB.out)))); have n1_ := zK (zP (g := Z8) (o := .cells #[.slice A1 l1.length c1] 37 (0, 0)) (by (with_reducible repeat (first | refine zF ?_ _ | refine zH ?_ | refine zG ?_ _)); exact Z0.out) hb); have n2_ := zK (zP (g := Z9) (o := .cells #[.int .i64 a2_0, .int .i64 a2_1, .int .i64 a2_2, .int .i64 a2_3, .int .i64 a2_4, .slice A2_5 l2_5.length c2_5] 24 (0, 0)) (by (with_reducible repeat (first | refine zF ?_ _ | refine zH ?_ | refine zG ?_ _)); exact Z1.out) hb); have n3_ := zK (yL (by repeat (first | (with_reducible first | exact HB.out | apply zJ | apply zD | apply zE | refine zI ?_ Z2.out | refine zI ?_ Z3.out) | exact HB.out)) hb); clear Z0 Z1 HB; have HO171 := n0_; have Z0 := n1_; have Z1 := n2_; have HB := n3_; clear n0_ n1_ n2_ n3_; (try clear hb); (try clear hb2); (try clear hk); (try clear hi); (try clear ho0); have hcz39_0 : w38.cell? ⟨Z9, 0, none⟩ = some (.int .i64 a2_0) := (zO Z1.out 0).trans rfl; have hcz39_1 : w38.cell? ⟨Z9, 1, none⟩ = some (.int .i64 a2_1) := (zO Z1.out 1).trans rfl; have hcz39_2 : w38.cell? ⟨Z9, 2, none⟩ = some (.int .i64 a2_2) := (zO Z1.out 2).trans rfl; have hcz39_3 : w38.cell? ⟨Z9, 3, none⟩ = some (.int .i64 a2_3) := (zO Z1.out 3).trans rfl; have hcz39_4 : w38.cell? ⟨Z9, 4, none⟩ = some (.int .i64 a2_4) := (zO Z1.out 4).trans rfl; have hcz39_5 : w38.cell? ⟨Z9, 5, none⟩ = some (.slice A2_5 l2_5.length c2_5) := (zO Z1.out 5).trans rfl; have hfz39_0 := yE Z1.out 0; have hfz39_1 := yE Z1.out 1; have hfz39_2 := yE Z1.out 2; have hfz39_3 := yE Z1.out 3; have hfz39_4 := yE Z1.out 4; have hfz39_5 := yE Z1.out 5))
        (try simp only [Act.put, zA, zB, zC])
        go_cut [10] (fun v10 wc => ∃ (kq : Nat) (x10_34 : List Int), Aside0 (dist_Weights.j3 kq x10_34 a2_0 a2_1 a2_2 a2_3 a2_4 l2_5 = some (r1, r2)) ∧ Aside0 (kq ≤ kj13) ∧ Aside0 (Kd.R (Kd.int .i64) 2 wc w.heap.size (fun _ => True) v10 x10_34) ∧ Aside0 (wc.heap[Z8]? = some (.cells #[(.slice A1 l1.length c1)] 37 (0, 0))) ∧ Aside0 (wc.heap[Z9]? = some (.cells #[.int .i64 a2_0, .int .i64 a2_1, .int .i64 a2_2, .int .i64 a2_3, .int .i64 a2_4, (.slice A2_5 l2_5.length c2_5)] 24 (0, 0))) ∧ Aside0 (Below w.heap.size w wc))
        case first =>
         have H := HC35.out
         clear HC35
         by_cases c40 : a2_2 > 0
         ·rw [if_pos c40] at H
          have c40b0 : decide (0 < a2_2) = true := yC c40
          clear c40
          (first | rw [c40b0] | (simp only [i64_w, i32_w]; rw [c40b0]) | skip)
          replace H := yA.mp H
          obtain ⟨t172, A410, H⟩ := H
          replace H : ((dist_kept.f kj13 t169 t172).bind fun t175 => (dist_Weights.j3 kj13 t175 a2_0 a2_1 a2_2 a2_3 a2_4 l2_5)) = some (r1, r2) := H
          have A41 := zK A410
          clear A410
          replace H := yA.mp H
          obtain ⟨t175, A420, H⟩ := H
          replace H : (dist_Weights.j3 kj13 t175 a2_0 a2_1 a2_2 a2_3 a2_4 l2_5) = some (r1, r2) := H
          have A42 := zK A420
          clear A420
          have H' := zK H
          clear H
          have hnb43 := Z7.out
          have hnc43 := Z6.out
          have hcz44_0 : w38.cell? ⟨Z9, 0, none⟩ = some (.int .i64 a2_0) := (zO Z1.out 0).trans rfl
          have hcz44_1 : w38.cell? ⟨Z9, 1, none⟩ = some (.int .i64 a2_1) := (zO Z1.out 1).trans rfl
          have hcz44_2 : w38.cell? ⟨Z9, 2, none⟩ = some (.int .i64 a2_2) := (zO Z1.out 2).trans rfl
          have hcz44_3 : w38.cell? ⟨Z9, 3, none⟩ = some (.int .i64 a2_3) := (zO Z1.out 3).trans rfl
          have hcz44_4 : w38.cell? ⟨Z9, 4, none⟩ = some (.int .i64 a2_4) := (zO Z1.out 4).trans rfl
          have hcz44_5 : w38.cell? ⟨Z9, 5, none⟩ = some (.slice A2_5 l2_5.length c2_5) := (zO Z1.out 5).trans rfl
          have hfz44_0 := yE Z1.out 0
          have hfz44_1 := yE Z1.out 1
          have hfz44_2 := yE Z1.out 2
          have hfz44_3 := yE Z1.out 3
          have hfz44_4 := yE Z1.out 4
          have hfz44_5 := yE Z1.out 5
          obtain ⟨Ao45, co45, eo45⟩ := Kd.R_slice HO171.out
          subst eo45
          go_wp2_with (first | ((with_reducible refine gate_callee (f := 43) rfl ?_); refine goesL_ (some 60) rfl rfl Try.func43 (by kernel_rfl) rfl #[.slice Ao45 t169.length co45, .int .i64 a2_2] rfl (by (try simp only [yH, yI, yJ]); first | done | rfl | (simp only [yG, yF]; rfl)) ?_; (with_reducible refine (rank_Top.calls _ _ t169 a2_2 t172 _ ?side1 ?side2 A41.out).mono ?_); (case side1 => repeat (first | exact (yM HO171.out).2.2 | (with_reducible refine yS ?_ _) | (with_reducible refine yT ?_ _) | (with_reducible refine yU ?_))); (case side2 => exact (yM HO171.out).2.1); rintro e w46 ⟨v173, rfl, ho0, hb⟩; refine ⟨_, rfl, ?_⟩; have n0_ := zK (yb (by (with_reducible repeat (first | apply zL | apply zM | apply zN)); exact HO171.out) hb); have n1_ := zK (Kd.R_lower ho0 (yK (by repeat (first | (with_reducible first | exact HB.out | apply zJ | apply zD | apply zE | refine zI ?_ Z2.out | refine zI ?_ Z3.out) | exact HB.out)))); have n2_ := zK (zP (g := Z8) (o := .cells #[.slice A1 l1.length c1] 37 (0, 0)) (by (with_reducible repeat (first | refine zF ?_ _ | refine zH ?_ | refine zG ?_ _)); exact Z0.out) hb); have n3_ := zK (zP (g := Z9) (o := .cells #[.int .i64 a2_0, .int .i64 a2_1, .int .i64 a2_2, .int .i64 a2_3, .int .i64 a2_4, .slice A2_5 l2_5.length c2_5] 24 (0, 0)) (by (with_reducible repeat (first | refine zF ?_ _ | refine zH ?_ | refine zG ?_ _)); exact Z1.out) hb); have n4_ := zK (yL (by repeat (first | (with_reducible first | exact HB.out | apply zJ | apply zD | apply zE | refine zI ?_ Z2.out | refine zI ?_ Z3.out) | exact HB.out)) hb); clear HO171 Z0 Z1 HB; have HO171 := n0_; have HO174 := n1_; have Z0 := n2_; have Z1 := n3_; have HB := n4_; clear n0_ n1_ n2_ n3_ n4_; (try clear hb); (try clear hb2); (try clear hk); (try clear hi); (try clear ho0); obtain ⟨Ao47, co47, eo47⟩ := Kd.R_slice HO174.out; subst eo47) | ((with_reducible refine gate_callee (f := 42) rfl ?_); refine goesL_ (some 61) rfl rfl Try.func42 (by kernel_rfl) rfl #[.slice Ao45 t169.length co45, .slice Ao47 t172.length co47] rfl (by (try simp only [yH, yI, yJ]); first | done | rfl | (simp only [yG, yF]; rfl)) ?_; (with_reducible refine (dist_kept.calls kj13 _ _ t169 _ _ t172 t175 _ ?side1 ?side2 ?side3 ?side4 A42.out).mono ?_); (case side1 => repeat (first | exact (yM HO171.out).2.2 | (with_reducible refine yS ?_ _) | (with_reducible refine yT ?_ _) | (with_reducible refine yU ?_))); (case side2 => exact (yM HO171.out).2.1); (case side3 => repeat (first | exact (yM HO174.out).2.2 | (with_reducible refine yS ?_ _) | (with_reducible refine yT ?_ _) | (with_reducible refine yU ?_))); (case side4 => exact (yM HO174.out).2.1); rintro e w48 ⟨v176, rfl, ho0, hb⟩; refine ⟨_, rfl, ?_⟩; have n0_ := zK (Kd.R_elder' (by (with_reducible repeat (first | apply zL | apply zM | apply zN)); exact HO171.out) (Kd.R_base ho0) hb); have n1_ := zK (yb (by (with_reducible repeat (first | apply zL | apply zM | apply zN)); exact HO174.out) hb); have n2_ := zK (Kd.R_lower (Kd.R_new' ho0 (Kd.R_lt (by (with_reducible repeat (first | apply zL | apply zM | apply zN)); exact HO171.out))) (yK (by repeat (first | (with_reducible first | exact HB.out | apply zJ | apply zD | apply zE | refine zI ?_ Z2.out | refine zI ?_ Z3.out) | exact HB.out)))); have n3_ := zK (zP (g := Z8) (o := .cells #[.slice A1 l1.length c1] 37 (0, 0)) (by (with_reducible repeat (first | refine zF ?_ _ | refine zH ?_ | refine zG ?_ _)); exact Z0.out) hb); have n4_ := zK (zP (g := Z9) (o := .cells #[.int .i64 a2_0, .int .i64 a2_1, .int .i64 a2_2, .int .i64 a2_3, .int .i64 a2_4, .slice A2_5 l2_5.length c2_5] 24 (0, 0)) (by (with_reducible repeat (first | refine zF ?_ _ | refine zH ?_ | refine zG ?_ _)); exact Z1.out) hb); have n5_ := zK (yL (by repeat (first | (with_reducible first | exact HB.out | apply zJ | apply zD | apply zE | refine zI ?_ Z2.out | refine zI ?_ Z3.out) | exact HB.out)) hb); clear HO171 HO174 Z0 Z1 HB; have HO171 := n0_; have HO174 := n1_; have HO177 := n2_; have Z0 := n3_; have Z1 := n4_; have HB := n5_; clear n0_ n1_ n2_ n3_ n4_ n5_; (try clear hb); (try clear hb2); (try clear hk); (try clear hi); (try clear ho0)))
          go_meet
          case rel => exact ⟨_, (t175), H', ⟨by have := HJ3.out; have := HJ13.out; first | omega | exact yN _⟩, ⟨by (with_reducible repeat (first | apply zL | apply zM | apply zN)); exact yd HO177.out (fun _ hk => trivial)⟩, ⟨by (with_reducible repeat (first | refine zF ?_ _ | refine zH ?_ | refine zG ?_ _)); exact Z0.out⟩, ⟨by (with_reducible repeat (first | refine zF ?_ _ | refine zH ?_ | refine zG ?_ _)); exact Z1.out⟩, ⟨by repeat (first | (with_reducible first | exact HB.out | apply zJ | apply zD | apply zE | refine zI ?_ Z2.out | refine zI ?_ Z3.out) | exact HB.out)⟩⟩
         ·rw [if_neg c40] at H
          have c40b0 : decide (0 < a2_2) = false := yD c40
          clear c40
          (first | rw [c40b0] | (simp only [i64_w, i32_w]; rw [c40b0]) | skip)
          have H' := zK H
          clear H
          go_wp2
          go_meet
          case rel => exact ⟨_, (t169), H', ⟨by have := HJ3.out; have := HJ13.out; first | omega | exact yN _⟩, ⟨by (with_reducible repeat (first | apply zL | apply zM | apply zN)); exact HO171.out⟩, ⟨by (with_reducible repeat (first | refine zF ?_ _ | refine zH ?_ | refine zG ?_ _)); exact Z0.out⟩, ⟨by (with_reducible repeat (first | refine zF ?_ _ | refine zH ?_ | refine zG ?_ _)); exact Z1.out⟩, ⟨by repeat (first | (with_reducible first | exact HB.out | apply zJ | apply zD | apply zE | refine zI ?_ Z2.out | refine zI ?_ Z3.out) | exact HB.out)⟩⟩
        case rest =>
         clear HC35
         try clear c1
         try clear c2
         try clear p2
         try clear c3
         try clear c4
         try clear c8
         try clear c11
         try clear c13
         try clear c13b0
         try clear c13b1
         try clear c14
         try clear c15
         try clear c19
         try clear c19b0
         try clear c19b1
         try clear c20
         try clear c22
         try clear c24
         try clear c25
         try clear c25b0
         try clear c25b1
         try clear c27
         try clear c28
         try clear c30
         try clear c32
         try clear c33
         try clear c36
         try clear c40
         try clear c40b0
         try clear c42
         try clear c43
         try clear hcz16_0
         try clear hcz16_1
         try clear hcz16_2
         try clear hcz16_3
         try clear hcz16_4
         try clear hcz16_5
         try clear hcz21_0
         try clear hcz23_0
         try clear hcz29_0
         try clear hcz31_0
         try clear hcz33_0
         try clear hcz37_0
         try clear hcz37_1
         try clear hcz37_2
         try clear hcz37_3
         try clear hcz37_4
         try clear hcz37_5
         try clear hcz39_0
         try clear hcz39_1
         try clear hcz39_2
         try clear hcz39_3
         try clear hcz39_4
         try clear hcz39_5
         try clear hcz44_0
         try clear hcz44_1
         try clear hcz44_2
         try clear hcz44_3
         try clear hcz44_4
         try clear hcz44_5
         try clear hfz16_0
         try clear hfz16_1
         try clear hfz16_2
         try clear hfz16_3
         try clear hfz16_4
         try clear hfz16_5
         try clear hfz21_0
         try clear hfz23_0
         try clear hfz29_0
         try clear hfz31_0
         try clear hfz33_0
         try clear hfz37_0
         try clear hfz37_1
         try clear hfz37_2
         try clear hfz37_3
         try clear hfz37_4
         try clear hfz37_5
         try clear hfz39_0
         try clear hfz39_1
         try clear hfz39_2
         try clear hfz39_3
         try clear hfz39_4
         try clear hfz39_5
         try clear hfz44_0
         try clear hfz44_1
         try clear hfz44_2
         try clear hfz44_3
         try clear hfz44_4
         try clear hfz44_5
         try clear p2
         obtain ⟨kq, x10_34, HA, HJ34, HO_10, Z0, Z1, HB⟩ := hcut
         cases kq with
         | zero => exact absurd HA.out (by simp [dist_Weights.j3])
         | succ kj34 =>
          have H := HA.out
          clear HA
          simp only [dist_Weights.j3] at H
          replace H := yA.mp H
          obtain ⟨⟨t178, t179⟩, A490, H⟩ := H
          replace H : ((dist_kept.f kj34 x10_34 t178).bind fun t182 => ((dist_Total.f kj34 a2_0 a2_1 a2_2 a2_3 a2_4 l2_5).bind fun t185 => ((rank_Share.f kj34 t182 t185).bind fun bt186 => (some (bt186.1, bt186.2))))) = some (r1, r2) := H
          have A49 := zK A490
          clear A490
          replace H := yA.mp H
          obtain ⟨t182, A500, H⟩ := H
          replace H : ((dist_Total.f kj34 a2_0 a2_1 a2_2 a2_3 a2_4 l2_5).bind fun t185 => ((rank_Share.f kj34 t182 t185).bind fun bt186 => (some (bt186.1, bt186.2)))) = some (r1, r2) := H
          have A50 := zK A500
          clear A500
          replace H := yA.mp H
          obtain ⟨t185, A510, H⟩ := H
          replace H : ((rank_Share.f kj34 t182 t185).bind fun bt186 => (some (bt186.1, bt186.2))) = some (r1, r2) := H
          have A51 := zK A510
          clear A510
          replace H := yA.mp H
          obtain ⟨⟨t186, t187⟩, A520, H⟩ := H
          replace H : (some (t186, t187)) = some (r1, r2) := H
          have A52 := zK A520
          clear A520
          simp only [yZ, ya] at H
          obtain ⟨rfl, rfl⟩ := H
          have hnb53 := Z7.out
          have hnc53 := Z6.out
          have hcz54_0 : wc.cell? ⟨Z9, 0, none⟩ = some (.int .i64 a2_0) := (zO Z1.out 0).trans rfl
          have hcz54_1 : wc.cell? ⟨Z9, 1, none⟩ = some (.int .i64 a2_1) := (zO Z1.out 1).trans rfl
          have hcz54_2 : wc.cell? ⟨Z9, 2, none⟩ = some (.int .i64 a2_2) := (zO Z1.out 2).trans rfl
          have hcz54_3 : wc.cell? ⟨Z9, 3, none⟩ = some (.int .i64 a2_3) := (zO Z1.out 3).trans rfl
          have hcz54_4 : wc.cell? ⟨Z9, 4, none⟩ = some (.int .i64 a2_4) := (zO Z1.out 4).trans rfl
          have hcz54_5 : wc.cell? ⟨Z9, 5, none⟩ = some (.slice A2_5 l2_5.length c2_5) := (zO Z1.out 5).trans rfl
          have hfz54_0 := yE Z1.out 0
          have hfz54_1 := yE Z1.out 1
          have hfz54_2 := yE Z1.out 2
          have hfz54_3 := yE Z1.out 3
          have hfz54_4 := yE Z1.out 4
          have hfz54_5 := yE Z1.out 5
          obtain ⟨Ao55, co55, eo55⟩ := Kd.R_slice HO_10.out
          subst eo55
          try go_wp2_with (first | ((with_reducible refine gate_callee (f := 44) rfl ?_); refine goesL_ (some 66) rfl rfl Try.func44 (by kernel_rfl) rfl #[.slice Ao55 x10_34.length co55, .int .i64 a2_3] rfl (by (try simp only [yH, yI, yJ]); first | done | rfl | (simp only [yG, yF]; rfl)) ?_; (with_reducible refine (rank_Nucleus.calls kj34 _ _ x10_34 a2_3 t178 t179 _ ?side1 ?side2 A49.out).mono ?_); (case side1 => repeat (first | exact (yM HO_10.out).2.2 | (with_reducible refine yS ?_ _) | (with_reducible refine yT ?_ _) | (with_reducible refine yU ?_))); (case side2 => exact (yM HO_10.out).2.1); rintro e w56 ⟨v180, rfl, ho0, hb⟩; refine ⟨_, rfl, ?_⟩; have n0_ := zK (yb (by (with_reducible repeat (first | apply zL | apply zM | apply zN)); exact HO_10.out) hb); have n1_ := zK (Kd.R_lower ho0 (yK (by repeat (first | (with_reducible first | exact HB.out | apply zJ | apply zD | apply zE | refine zI ?_ Z2.out | refine zI ?_ Z3.out) | exact HB.out)))); have n2_ := zK (zP (g := Z8) (o := .cells #[.slice A1 l1.length c1] 37 (0, 0)) (by (with_reducible repeat (first | refine zF ?_ _ | refine zH ?_ | refine zG ?_ _)); exact Z0.out) hb); have n3_ := zK (zP (g := Z9) (o := .cells #[.int .i64 a2_0, .int .i64 a2_1, .int .i64 a2_2, .int .i64 a2_3, .int .i64 a2_4, .slice A2_5 l2_5.length c2_5] 24 (0, 0)) (by (with_reducible repeat (first | refine zF ?_ _ | refine zH ?_ | refine zG ?_ _)); exact Z1.out) hb); have n4_ := zK (yL (by repeat (first | (with_reducible first | exact HB.out | apply zJ | apply zD | apply zE | refine zI ?_ Z2.out | refine zI ?_ Z3.out) | exact HB.out)) hb); clear HO_10 Z0 Z1 HB; have HO_10 := n0_; have HO181 := n1_; have Z0 := n2_; have Z1 := n3_; have HB := n4_; clear n0_ n1_ n2_ n3_ n4_; (try clear hb); (try clear hb2); (try clear hk); (try clear hi); (try clear ho0)))
          have n0_ := zK (zN HO_10.out)
          have n1_ := zK (zN HO181.out)
          have n2_ := zK (zH Z0.out)
          have n3_ := zK (zH Z1.out)
          have n4_ := zK (zE HB.out)
          clear HO_10 HO181 Z0 Z1 HB
          have HO_10 := n0_; have HO181 := n1_; have Z0 := n2_; have Z1 := n3_; have HB := n4_
          clear n0_ n1_ n2_ n3_ n4_
          obtain ⟨Ao58, co58, eo58⟩ := Kd.R_slice HO181.out
          (first | subst eo58 | (injection eo58 with f1_ f2_ f3_; have f4_ := f1_.symm; have f5_ := f3_.symm; clear f1_ f2_ f3_; subst f4_; subst f5_))
          refine start_ (n := 10) (S := fun w' => w'.cell? ⟨Z9, 0, none⟩ = some (.int .i64 a2_0) ∧ w'.cell? ⟨Z9, 1, none⟩ = some (.int .i64 a2_1) ∧ w'.cell? ⟨Z9, 2, none⟩ = some (.int .i64 a2_2) ∧ w'.cell? ⟨Z9, 3, none⟩ = some (.int .i64 a2_3) ∧ w'.cell? ⟨Z9, 4, none⟩ = some (.int .i64 a2_4) ∧ w'.cell? ⟨Z9, 5, none⟩ = some (.slice A2_5 l2_5.length c2_5)) (ds := []) #[false, false, false, false, false, false, false, false, false, false] (by kernel_rfl) rfl rfl ⟨(zO Z1.out 0).trans rfl, (zO Z1.out 1).trans rfl, (zO Z1.out 2).trans rfl, (zO Z1.out 3).trans rfl, (zO Z1.out 4).trans rfl, (zO Z1.out 5).trans rfl⟩ (fun hHeld => ?_); refine with_tabW dist_Weights.tab15 dist_Weights.bits15 (fun HT_ HW_ => ?_)
          generalize w56.drew = w57 at HO_10 HO181 Z0 Z1 HB hHeld ⊢
          refine pure_ (i := 0) (N := some 69) (v := ?_) (a' := ?_) #[true, false, false, false, false, false, false, false, false, false] rfl rfl (any_of HT_.out (by kernel_rfl)) (fun _ _ _ h => h) (Or.inl ⟨by rfl, ?_⟩) ?_ ?_
          rotate_left
          ·intro w'
           go_simp
           with_reducible rfl
          rotate_left
          ·simp only [Act.put, zA, zB, zC, i64_w, i32_w]
           rfl
          refine pure_ (i := 1) (N := some 70) (v := ?_) (a' := ?_) #[true, true, false, false, false, false, false, false, false, false] rfl rfl (any_of HT_.out (by kernel_rfl)) (fun _ _ _ h => h) (Or.inl ⟨by rfl, ?_⟩) ?_ ?_
          rotate_left
          ·intro w'
           go_simp
           with_reducible rfl
          rotate_left
          ·simp only [Act.put, zA, zB, zC, i64_w, i32_w]
           rfl
          refine take_ (i := 3) (N := some 72) (v := ?_) (a' := ?_) #[true, true, false, true, false, false, false, false, false, false] rfl rfl (take_ofW HT_.out HW_.out (by kernel_rfl)) (fun _ _ _ h => h) (Or.inl ⟨by rfl, ?_⟩) hHeld ?_ ?_
          rotate_left
          ·rintro w' ⟨s0, s1, s2, s3, s4, s5⟩
           go_simp
           with_reducible rfl
          rotate_left
          ·simp only [Act.put, zA, zB, zC, i64_w, i32_w]
           rfl
          refine one_ (i := 2) (N := some 71) #[true, true, true, true, false, false, false, false, false, false] rfl rfl (one_of HT_.out (by kernel_rfl)) (by decide) (fun K hK => ?_)
          refine goes_ Try.func42 (by kernel_rfl) rfl #[.slice Ao55 x10_34.length co55, .slice Ao58 t178.length co58] (by rfl) rfl rfl (by (try simp only [yH, yI, yJ]); first | done | rfl | (simp only [yG, yF]; rfl)) ?_
          with_reducible refine (dist_kept.calls kj34 _ _ x10_34 _ _ t178 t182 _ ?side1 ?side2 ?side3 ?side4 A50.out).mono ?_
          (case side1 => repeat (first | exact (yM HO_10.out).2.2 | (with_reducible refine yS ?_ _) | (with_reducible refine yT ?_ _) | (with_reducible refine yU ?_)))
          (case side2 => exact (yM HO_10.out).2.1)
          (case side3 => repeat (first | exact (yM HO181.out).2.2 | (with_reducible refine yS ?_ _) | (with_reducible refine yT ?_ _) | (with_reducible refine yU ?_)))
          (case side4 => exact (yM HO181.out).2.1)
          rintro e w59 ⟨v183, rfl, ho0, hb⟩
          refine ⟨_, rfl, ?_⟩
          have n0_ := zK (Kd.R_elder' (by (with_reducible repeat (first | apply zL | apply zM | apply zN)); exact HO_10.out) (Kd.R_base ho0) hb)
          have n1_ := zK (yb (by (with_reducible repeat (first | apply zL | apply zM | apply zN)); exact HO181.out) hb)
          have n2_ := zK (Kd.R_lower (Kd.R_new' ho0 (Kd.R_lt (by (with_reducible repeat (first | apply zL | apply zM | apply zN)); exact HO_10.out))) (yK (by repeat (first | (with_reducible first | exact HB.out | apply zJ | apply zD | apply zE | refine zI ?_ Z2.out | refine zI ?_ Z3.out) | exact HB.out))))
          have n3_ := zK (zP (g := Z8) (o := .cells #[.slice A1 l1.length c1] 37 (0, 0)) (by (with_reducible repeat (first | refine zF ?_ _ | refine zH ?_ | refine zG ?_ _)); exact Z0.out) hb)
          have n4_ := zK (zP (g := Z9) (o := .cells #[.int .i64 a2_0, .int .i64 a2_1, .int .i64 a2_2, .int .i64 a2_3, .int .i64 a2_4, .slice A2_5 l2_5.length c2_5] 24 (0, 0)) (by (with_reducible repeat (first | refine zF ?_ _ | refine zH ?_ | refine zG ?_ _)); exact Z1.out) hb)
          have n5_ := zK (yL (by repeat (first | (with_reducible first | exact HB.out | apply zJ | apply zD | apply zE | refine zI ?_ Z2.out | refine zI ?_ Z3.out) | exact HB.out)) hb)
          clear HO_10 HO181 Z0 Z1 HB
          have HO_10 := n0_; have HO181 := n1_; have HO184 := n2_; have Z0 := n3_; have Z1 := n4_; have HB := n5_
          clear n0_ n1_ n2_ n3_ n4_ n5_
          (try clear hb)
          (try clear hb2)
          (try clear hk)
          (try clear hi)
          (try clear ho0)
          refine hK.out _ _ ⟨(zO Z1.out 0).trans rfl, (zO Z1.out 1).trans rfl, (zO Z1.out 2).trans rfl, (zO Z1.out 3).trans rfl, (zO Z1.out 4).trans rfl, (zO Z1.out 5).trans rfl⟩ (fun hHeld => ?_)
          clear hK K
          refine norm_ (a' := ?_) ?_ ?_
          rotate_left
          ·show Act.put _ (some 71) _ = _
           simp only [Act.put, zA, zB, zC, i64_w, i32_w]
           rfl
          refine one_ (i := 4) (N := some 73) #[true, true, true, true, true, false, false, false, false, false] rfl rfl (one_of HT_.out (by kernel_rfl)) (by decide) (fun K hK => ?_)
          refine goes_ Try.func17 (by kernel_rfl) rfl #[.agg #[.int .i64 a2_0, .int .i64 a2_1, .int .i64 a2_2, .int .i64 a2_3, .int .i64 a2_4, .slice A2_5 l2_5.length c2_5]] (by rfl) rfl rfl (by (try simp only [yH, yI, yJ]); first | done | rfl | (simp only [yG, yF]; rfl)) ?_
          with_reducible refine (dist_Total.calls kj34 a2_0 a2_1 a2_2 a2_3 a2_4 _ _ l2_5 t185 _ ?side1 ?side2 A51.out).mono ?_
          (case side1 => repeat (first | exact (yc HR2_5.out HB.out) | (with_reducible refine yS ?_ _) | (with_reducible refine yT ?_ _) | (with_reducible refine yU ?_)))
          (case side2 => exact HC2_5.out)
          rintro e w60 ⟨rfl, hb⟩
          refine ⟨_, rfl, ?_⟩
          have n0_ := zK (yb (by (with_reducible repeat (first | apply zL | apply zM | apply zN)); exact HO_10.out) hb)
          have n1_ := zK (yb (by (with_reducible repeat (first | apply zL | apply zM | apply zN)); exact HO181.out) hb)
          have n2_ := zK (yb (by (with_reducible repeat (first | apply zL | apply zM | apply zN)); exact HO184.out) hb)
          have n3_ := zK (zP (g := Z8) (o := .cells #[.slice A1 l1.length c1] 37 (0, 0)) (by (with_reducible repeat (first | refine zF ?_ _ | refine zH ?_ | refine zG ?_ _)); exact Z0.out) hb)
          have n4_ := zK (zP (g := Z9) (o := .cells #[.int .i64 a2_0, .int .i64 a2_1, .int .i64 a2_2, .int .i64 a2_3, .int .i64 a2_4, .slice A2_5 l2_5.length c2_5] 24 (0, 0)) (by (with_reducible repeat (first | refine zF ?_ _ | refine zH ?_ | refine zG ?_ _)); exact Z1.out) hb)
          have n5_ := zK (yL (by repeat (first | (with_reducible first | exact HB.out | apply zJ | apply zD | apply zE | refine zI ?_ Z2.out | refine zI ?_ Z3.out) | exact HB.out)) hb)
          clear HO_10 HO181 HO184 Z0 Z1 HB
          have HO_10 := n0_; have HO181 := n1_; have HO184 := n2_; have Z0 := n3_; have Z1 := n4_; have HB := n5_
          clear n0_ n1_ n2_ n3_ n4_ n5_
          (try clear hb)
          (try clear hb2)
          (try clear hk)
          (try clear hi)
          obtain ⟨Ao61, co61, eo61⟩ := Kd.R_slice HO184.out
          (first | subst eo61 | (injection eo61 with f1_ f2_ f3_; have f4_ := f1_.symm; have f5_ := f3_.symm; clear f1_ f2_ f3_; subst f4_; subst f5_))
          refine hK.out _ _ ⟨(zO Z1.out 0).trans rfl, (zO Z1.out 1).trans rfl, (zO Z1.out 2).trans rfl, (zO Z1.out 3).trans rfl, (zO Z1.out 4).trans rfl, (zO Z1.out 5).trans rfl⟩ (fun hHeld => ?_)
          clear hK K
          refine norm_ (a' := ?_) ?_ ?_
          rotate_left
          ·show Act.put _ (some 73) _ = _
           simp only [Act.put, zA, zB, zC, i64_w, i32_w]
           rfl
          refine one_ (i := 5) (N := some 74) #[true, true, true, true, true, true, false, false, false, false] rfl rfl (one_of HT_.out (by kernel_rfl)) (by decide) (fun K hK => ?_)
          refine goes_ Try.func45 (by kernel_rfl) rfl #[.slice Ao61 t182.length co61, .int .i64 t185] (by rfl) rfl rfl (by (try simp only [yH, yI, yJ]); first | done | rfl | (simp only [yG, yF]; rfl)) ?_
          with_reducible refine (rank_Share.calls kj34 _ _ t182 t185 t186 t187 _ ?side1 ?side2 A52.out).mono ?_
          (case side1 => repeat (first | exact (yM HO184.out).2.2 | (with_reducible refine yS ?_ _) | (with_reducible refine yT ?_ _) | (with_reducible refine yU ?_)))
          (case side2 => exact (yM HO184.out).2.1)
          rintro e w62 ⟨v188, rfl, ho0, hb⟩
          refine ⟨_, rfl, ?_⟩
          have n0_ := zK (Kd.R_elder' (by (with_reducible repeat (first | apply zL | apply zM | apply zN)); exact HO_10.out) (Kd.R_base ho0) hb)
          have n1_ := zK (yb (by (with_reducible repeat (first | apply zL | apply zM | apply zN)); exact HO181.out) hb)
          have n2_ := zK (Kd.R_elder' (by (with_reducible repeat (first | apply zL | apply zM | apply zN)); exact HO184.out) (Kd.R_base ho0) hb)
          have n3_ := zK (Kd.R_lower (Kd.R_new' (Kd.R_new' ho0 (Kd.R_lt (by (with_reducible repeat (first | apply zL | apply zM | apply zN)); exact HO_10.out))) (Kd.R_lt (by (with_reducible repeat (first | apply zL | apply zM | apply zN)); exact HO184.out))) (yK (by repeat (first | (with_reducible first | exact HB.out | apply zJ | apply zD | apply zE | refine zI ?_ Z2.out | refine zI ?_ Z3.out) | exact HB.out))))
          have n4_ := zK (zP (g := Z8) (o := .cells #[.slice A1 l1.length c1] 37 (0, 0)) (by (with_reducible repeat (first | refine zF ?_ _ | refine zH ?_ | refine zG ?_ _)); exact Z0.out) hb)
          have n5_ := zK (zP (g := Z9) (o := .cells #[.int .i64 a2_0, .int .i64 a2_1, .int .i64 a2_2, .int .i64 a2_3, .int .i64 a2_4, .slice A2_5 l2_5.length c2_5] 24 (0, 0)) (by (with_reducible repeat (first | refine zF ?_ _ | refine zH ?_ | refine zG ?_ _)); exact Z1.out) hb)
          have n6_ := zK (yL (by repeat (first | (with_reducible first | exact HB.out | apply zJ | apply zD | apply zE | refine zI ?_ Z2.out | refine zI ?_ Z3.out) | exact HB.out)) hb)
          clear HO_10 HO181 HO184 Z0 Z1 HB
          have HO_10 := n0_; have HO181 := n1_; have HO184 := n2_; have HO189 := n3_; have Z0 := n4_; have Z1 := n5_; have HB := n6_
          clear n0_ n1_ n2_ n3_ n4_ n5_ n6_
          (try clear hb)
          (try clear hb2)
          (try clear hk)
          (try clear hi)
          (try clear ho0)
          refine hK.out _ _ ⟨(zO Z1.out 0).trans rfl, (zO Z1.out 1).trans rfl, (zO Z1.out 2).trans rfl, (zO Z1.out 3).trans rfl, (zO Z1.out 4).trans rfl, (zO Z1.out 5).trans rfl⟩ (fun hHeld => ?_)
          clear hK K
          refine norm_ (a' := ?_) ?_ ?_
          rotate_left
          ·show Act.put _ (some 74) _ = _
           simp only [Act.put, zA, zB, zC, i64_w, i32_w]
           rfl
          refine pure_ (i := 6) (N := some 75) (v := ?_) (a' := ?_) #[true, true, true, true, true, true, true, false, false, false] rfl rfl (any_of HT_.out (by kernel_rfl)) (fun _ _ _ h => h) (Or.inl ⟨by rfl, ?_⟩) ?_ ?_
          rotate_left
          ·intro w'
           go_simp
           with_reducible rfl
          rotate_left
          ·simp only [Act.put, zA, zB, zC, i64_w, i32_w]
           rfl
          refine pure_ (i := 7) (N := some 76) (v := ?_) (a' := ?_) #[true, true, true, true, true, true, true, true, false, false] rfl rfl (any_of HT_.out (by kernel_rfl)) (fun _ _ _ h => h) (Or.inl ⟨by rfl, ?_⟩) ?_ ?_
          rotate_left
          ·intro w'
           go_simp
           with_reducible rfl
          rotate_left
          ·simp only [Act.put, zA, zB, zC, i64_w, i32_w]
           rfl
          refine pure_ (i := 8) (N := some 6) (v := ?_) (a' := ?_) #[true, true, true, true, true, true, true, true, true, false] rfl rfl (any_of HT_.out (by kernel_rfl)) (fun _ _ _ h => h) (Or.inl ⟨by rfl, ?_⟩) ?_ ?_
          rotate_left
          ·intro w'
           go_simp
           with_reducible rfl
          rotate_left
          ·simp only [Act.put, zA, zB, zC, i64_w, i32_w]
           rfl
          refine pure_ (i := 9) (N := some 7) (v := ?_) (a' := ?_) #[true, true, true, true, true, true, true, true, true, true] rfl rfl (any_of HT_.out (by kernel_rfl)) (fun _ _ _ h => h) (Or.inl ⟨by rfl, ?_⟩) ?_ ?_
          rotate_left
          ·intro w'
           go_simp
           with_reducible rfl
          rotate_left
          ·simp only [Act.put, zA, zB, zC, i64_w, i32_w]
           rfl
          refine done_ (done_of HT_.out (by kernel_rfl)) ?_
          try go_wp2
          go_ret2
          exact ⟨_, by first | rfl | (simp [errW_none, errW_some] <;> rfl) | (simp [*, errW_none, errW_some] <;> rfl), by (with_reducible repeat (first | apply zL | apply zM | apply zN)); exact yd HO189.out (fun _ hk => trivial), by repeat (first | (with_reducible first | exact HB.out | apply zJ | apply zD | apply zE | refine zI ?_ Z2.out | refine zI ?_ Z3.out) | exact HB.out)⟩
     ·rw [if_neg c13] at H
      have c13b0 : (t167 == 0) = false := beq_eq_false_iff_ne.mpr c13
      have c13b1 : (t167 != 0) = true := bne_iff_ne.mpr c13
      simp only [yZ, ya] at H
      obtain ⟨rfl, rfl⟩ := H
      have hnb63 := Z7.out
      have hnc63 := Z6.out
      have hcz64_0 : wc.cell? ⟨Z9, 0, none⟩ = some (.int .i64 a2_0) := (zO Z1.out 0).trans rfl
      have hcz64_1 : wc.cell? ⟨Z9, 1, none⟩ = some (.int .i64 a2_1) := (zO Z1.out 1).trans rfl
      have hcz64_2 : wc.cell? ⟨Z9, 2, none⟩ = some (.int .i64 a2_2) := (zO Z1.out 2).trans rfl
      have hcz64_3 : wc.cell? ⟨Z9, 3, none⟩ = some (.int .i64 a2_3) := (zO Z1.out 3).trans rfl
      have hcz64_4 : wc.cell? ⟨Z9, 4, none⟩ = some (.int .i64 a2_4) := (zO Z1.out 4).trans rfl
      have hcz64_5 : wc.cell? ⟨Z9, 5, none⟩ = some (.slice A2_5 l2_5.length c2_5) := (zO Z1.out 5).trans rfl
      have hfz64_0 := yE Z1.out 0
      have hfz64_1 := yE Z1.out 1
      have hfz64_2 := yE Z1.out 2
      have hfz64_3 := yE Z1.out 3
      have hfz64_4 := yE Z1.out 4
      have hfz64_5 := yE Z1.out 5
      go_wp2_with (first | ((with_reducible refine gate_callee (f := 14) rfl ?_); refine goesL_ (some 25) rfl rfl Try.func14 (by kernel_rfl) rfl #[.agg #[.int .i64 a2_0, .int .i64 a2_1, .int .i64 a2_2, .int .i64 a2_3, .int .i64 a2_4, .slice A2_5 l2_5.length c2_5], .int .i64 (l0.length : Int)] rfl (by (try simp only [yH, yI, yJ]); first | done | rfl | (simp only [yG, yF]; rfl)) ?_; (with_reducible refine (dist_Check.calls kj3 a2_0 a2_1 a2_2 a2_3 a2_4 _ _ l2_5 (l0.length : Int) t167 _ ?side1 ?side2 A12.out).mono ?_); (case side1 => repeat (first | exact (yc HR2_5.out HB.out) | (with_reducible refine yS ?_ _) | (with_reducible refine yT ?_ _) | (with_reducible refine yU ?_))); (case side2 => exact HC2_5.out); rintro e w65 ⟨rfl, hb⟩; refine ⟨_, rfl, ?_⟩; have n0_ := zK (zP (g := Z8) (o := .cells #[.slice A1 l1.length c1] 37 (0, 0)) (by (with_reducible repeat (first | refine zF ?_ _ | refine zH ?_ | refine zG ?_ _)); exact Z0.out) hb); have n1_ := zK (zP (g := Z9) (o := .cells #[.int .i64 a2_0, .int .i64 a2_1, .int .i64 a2_2, .int .i64 a2_3, .int .i64 a2_4, .slice A2_5 l2_5.length c2_5] 24 (0, 0)) (by (with_reducible repeat (first | refine zF ?_ _ | refine zH ?_ | refine zG ?_ _)); exact Z1.out) hb); have n2_ := zK (yL (by repeat (first | (with_reducible first | exact HB.out | apply zJ | apply zD | apply zE | refine zI ?_ Z2.out | refine zI ?_ Z3.out) | exact HB.out)) hb); clear Z0 Z1 HB; have Z0 := n0_; have Z1 := n1_; have HB := n2_; clear n0_ n1_ n2_; (try clear hb); (try clear hb2); (try clear hk); (try clear hi)))
      go_ret2
      exact ⟨_, by first | rfl | (simp [errW_none, errW_some] <;> rfl) | (simp [*, errW_none, errW_some] <;> rfl), by first | exact Kd.R_nil _ _ _ _ _ | exact Kd.N_nil _ _ _ _ _ | exact Kd.V_nil _ _ _ _ _ | exact Kd.Q_nil _ _ _ _ _ | exact Kd.S_nil _ _ _ _ _, by repeat (first | (with_reducible first | exact HB.out | apply zJ | apply zD | apply zE | refine zI ?_ Z2.out | refine zI ?_ Z3.out) | exact HB.out)⟩

end Go.Proofs.Ythmckhfjaleomaa.T
