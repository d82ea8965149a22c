-- Printed by this session's own driver (wip/tools/xprint.py) over the kit's printer; given functions are this session's own.
import Derived.Test.YthmckhfjaleomaaT0
import Derived.Test.YthmckhfjaleomaaT6
namespace Go.Proofs.Ythmckhfjaleomaa.T
open Go.RowKit Go.Proofs.YthmckhfjaleomaaW.PrintWords Go.Proofs.YthmckhfjaleomaaW.PrintLast Go.Proofs.YthmckhfjaleomaaW.PrintMore
attribute [local go_sem] max2_int min2_int max_two min_two max_three min_three max_four min_four   -- for this text's walks alone
set_option linter.unusedVariables false
set_option linter.unusedSimpArgs false

/-! ### r22_Check: function 15 -/
mutual
def r22_Check.j0 : Nat → Int → Bool → Int → Int → Int → Int → Int → List (S74) → Option (Int)
  | 0, _, _, _, _, _, _, _, _ => none
  | k + 1, x1, x34, Y0, Y1, Y2, Y3, Y4, Y5 => if x34 = true then (some 220) else (if Y2 < 0 then (r22_Check.j1 k x1 true Y0 Y1 Y2 Y3 Y4 Y5) else (if Y2 > x1 then (r22_Check.j1 k x1 true Y0 Y1 Y2 Y3 Y4 Y5) else (if Y3 < 1 then (r22_Check.j1 k x1 true Y0 Y1 Y2 Y3 Y4 Y5) else (if Y3 > 65536 then (r22_Check.j1 k x1 true Y0 Y1 Y2 Y3 Y4 Y5) else ((r22_Total.f Y0 Y1 Y2 Y3 Y4 Y5).bind fun t201 => (if t201 = 0 then (r22_Check.j1 k x1 true Y0 Y1 Y2 Y3 Y4 Y5) else (r22_Check.j1 k x1 (decide ((Y5.length : Int) > 64)) Y0 Y1 Y2 Y3 Y4 Y5)))))))
def r22_Check.j1 : Nat → Int → Bool → Int → Int → Int → Int → Int → List (S74) → Option (Int)
  | 0, _, _, _, _, _, _, _, _ => none
  | k + 1, x1, x64, Y0, Y1, Y2, Y3, Y4, Y5 => if x64 = true then (some 220) else (r22_Check.l0 k x1 Y5 (Y5.length : Int) 0 Y0 Y1 Y2 Y3 Y4 Y5)
def r22_Check.l0 : Nat → Int → List (S74) → Int → Int → Int → Int → Int → Int → Int → List (S74) → Option (Int)
  | 0, _, _, _, _, _, _, _, _, _, _ => none
  | k + 1, x1, x66, x67, x68, Y0, Y1, Y2, Y3, Y4, Y5 => if x68 < x67 then (if 0 ≤ x68 then (if x68 < (x66.length : Int) then (if ((rd_T74 x66 x68).f0) < 0 then (r22_Check.j3 k x1 x68 x66 x67 x68 true Y0 Y1 Y2 Y3 Y4 Y5 ((rd_T74 x66 x68).f0) ((rd_T74 x66 x68).f1)) else (if ((rd_T74 x66 x68).f0) ≥ x1 then (r22_Check.j3 k x1 x68 x66 x67 x68 true Y0 Y1 Y2 Y3 Y4 Y5 ((rd_T74 x66 x68).f0) ((rd_T74 x66 x68).f1)) else (if ((rd_T74 x66 x68).f1) < (-1048576) then (r22_Check.j3 k x1 x68 x66 x67 x68 true Y0 Y1 Y2 Y3 Y4 Y5 ((rd_T74 x66 x68).f0) ((rd_T74 x66 x68).f1)) else (r22_Check.j3 k x1 x68 x66 x67 x68 (decide (((rd_T74 x66 x68).f1) > 1048576)) Y0 Y1 Y2 Y3 Y4 Y5 ((rd_T74 x66 x68).f0) ((rd_T74 x66 x68).f1))))) else (none)) else (none)) else (some 0)
def r22_Check.j3 : Nat → Int → Int → List (S74) → Int → Int → Bool → Int → Int → Int → Int → Int → List (S74) → Int → Int → Option (Int)
  | 0, _, _, _, _, _, _, _, _, _, _, _, _, _, _ => none
  | k + 1, x1, x5, x66, x67, x68, x91, Y0, Y1, Y2, Y3, Y4, Y5, Y6, Y7 => if x91 = true then (some 220) else (if 0 ≤ x5 then (if x5 ≤ (Y5.length : Int) then ((some (Y5.take (x5 : Int).toNat : List (S74))).bind fun y204 => (r22_Check.l1 k x1 x66 x67 x68 y204 (y204.length : Int) 0 Y0 Y1 Y2 Y3 Y4 Y5 Y6 Y7)) else (none)) else (none))
def r22_Check.l1 : Nat → Int → List (S74) → Int → Int → List (S74) → Int → Int → Int → Int → Int → Int → Int → List (S74) → Int → Int → Option (Int)
  | 0, _, _, _, _, _, _, _, _, _, _, _, _, _, _, _ => none
  | k + 1, x1, x66, x67, x68, x95, x96, x97, Y0, Y1, Y2, Y3, Y4, Y5, Y6, Y7 => if x97 < x96 then (if 0 ≤ x97 then (if x97 < (x95.length : Int) then (if ((rd_T74 x95 x97).f0) = Y6 then (some 220) else (r22_Check.l1 k x1 x66 x67 x68 x95 x96 (wrap64 (x97 + 1)) Y0 Y1 Y2 Y3 Y4 Y5 Y6 Y7)) else (none)) else (none)) else (r22_Check.l0 k x1 x66 x67 (wrap64 (x68 + 1)) Y0 Y1 Y2 Y3 Y4 Y5)
end
def r22_Check.f (k : Nat) (a0_0 : Int) (a0_1 : Int) (a0_2 : Int) (a0_3 : Int) (a0_4 : Int) (l0_5 : List (S74)) (a1 : Int) : Option (Int) := if a1 < 1 then (r22_Check.j0 k a1 true a0_0 a0_1 a0_2 a0_3 a0_4 l0_5) else (if a1 > 512 then (r22_Check.j0 k a1 true a0_0 a0_1 a0_2 a0_3 a0_4 l0_5) else (if a0_0 < 0 then (r22_Check.j0 k a1 true a0_0 a0_1 a0_2 a0_3 a0_4 l0_5) else (if a0_0 > 65536 then (r22_Check.j0 k a1 true a0_0 a0_1 a0_2 a0_3 a0_4 l0_5) else (if a0_1 < 1 then (r22_Check.j0 k a1 true a0_0 a0_1 a0_2 a0_3 a0_4 l0_5) else (r22_Check.j0 k a1 (decide (a0_1 > 65536)) a0_0 a0_1 a0_2 a0_3 a0_4 l0_5)))))
theorem r22_Check.mono_l : ∀ k, (∀ y0 y1 y2 y3 y4 y5 y6 y7, LeO (r22_Check.j0 k y0 y1 y2 y3 y4 y5 y6 y7) (r22_Check.j0 (k + 1) y0 y1 y2 y3 y4 y5 y6 y7)) ∧ (∀ y0 y1 y2 y3 y4 y5 y6 y7, LeO (r22_Check.j1 k y0 y1 y2 y3 y4 y5 y6 y7) (r22_Check.j1 (k + 1) y0 y1 y2 y3 y4 y5 y6 y7)) ∧ (∀ y0 y1 y2 y3 y4 y5 y6 y7 y8 y9, LeO (r22_Check.l0 k y0 y1 y2 y3 y4 y5 y6 y7 y8 y9) (r22_Check.l0 (k + 1) y0 y1 y2 y3 y4 y5 y6 y7 y8 y9)) ∧ (∀ y0 y1 y2 y3 y4 y5 y6 y7 y8 y9 y10 y11 y12 y13, LeO (r22_Check.j3 k y0 y1 y2 y3 y4 y5 y6 y7 y8 y9 y10 y11 y12 y13) (r22_Check.j3 (k + 1) y0 y1 y2 y3 y4 y5 y6 y7 y8 y9 y10 y11 y12 y13)) ∧ (∀ y0 y1 y2 y3 y4 y5 y6 y7 y8 y9 y10 y11 y12 y13 y14, LeO (r22_Check.l1 k y0 y1 y2 y3 y4 y5 y6 y7 y8 y9 y10 y11 y12 y13 y14) (r22_Check.l1 (k + 1) y0 y1 y2 y3 y4 y5 y6 y7 y8 y9 y10 y11 y12 y13 y14))
  | 0 => ⟨fun _ _ _ _ _ _ _ _ r h => by simp [r22_Check.j0] at h, fun _ _ _ _ _ _ _ _ r h => by simp [r22_Check.j1] at h, fun _ _ _ _ _ _ _ _ _ _ r h => by simp [r22_Check.l0] at h, fun _ _ _ _ _ _ _ _ _ _ _ _ _ _ r h => by simp [r22_Check.j3] at h, fun _ _ _ _ _ _ _ _ _ _ _ _ _ _ _ r h => by simp [r22_Check.l1] at h⟩
  | k + 1 => by
    obtain ⟨ih0, ih1, ih2, ih3, ih4⟩ := r22_Check.mono_l k
    refine ⟨?_, ?_, ?_, ?_, ?_⟩ <;> (intros; first | unfold r22_Check.j0 | unfold r22_Check.j1 | unfold r22_Check.l0 | unfold r22_Check.j3 | unfold r22_Check.l1)
    all_goals repeat' first
      | (with_reducible exact ih0 _ _ _ _ _ _ _ _)
      | (with_reducible exact ih1 _ _ _ _ _ _ _ _)
      | (with_reducible exact ih2 _ _ _ _ _ _ _ _ _ _)
      | (with_reducible exact ih3 _ _ _ _ _ _ _ _ _ _ _ _ _ _)
      | (with_reducible exact ih4 _ _ _ _ _ _ _ _ _ _ _ _ _ _ _)
      | (with_reducible exact yR _)
      | (with_reducible exact yO _)
      | (with_reducible refine yQ ?_ ?_)
      | (with_reducible refine yP ?_ (fun _ => ?_))
      | exact ih0 _ _ _ _ _ _ _ _
      | exact ih1 _ _ _ _ _ _ _ _
      | exact ih2 _ _ _ _ _ _ _ _ _ _
      | exact ih3 _ _ _ _ _ _ _ _ _ _ _ _ _ _
      | exact ih4 _ _ _ _ _ _ _ _ _ _ _ _ _ _ _
      | exact yO _
      | refine yQ ?_ ?_
      | refine yP ?_ (fun _ => ?_)
theorem r22_Check.mono : ∀ a0 a1 a2 a3 a4 a5 a6 k, LeO (r22_Check.f k a0 a1 a2 a3 a4 a5 a6) (r22_Check.f (k + 1) a0 a1 a2 a3 a4 a5 a6) := by
  intro a0 a1 a2 a3 a4 a5 a6 k
  obtain ⟨ih0, ih1, ih2, ih3, ih4⟩ := r22_Check.mono_l k
  unfold r22_Check.f
  repeat' first
      | (with_reducible exact ih0 _ _ _ _ _ _ _ _)
      | (with_reducible exact ih1 _ _ _ _ _ _ _ _)
      | (with_reducible exact ih2 _ _ _ _ _ _ _ _ _ _)
      | (with_reducible exact ih3 _ _ _ _ _ _ _ _ _ _ _ _ _ _)
      | (with_reducible exact ih4 _ _ _ _ _ _ _ _ _ _ _ _ _ _ _)
      | (with_reducible exact yR _)
      | (with_reducible exact yO _)
      | (with_reducible refine yQ ?_ ?_)
      | (with_reducible refine yP ?_ (fun _ => ?_))
      | exact ih0 _ _ _ _ _ _ _ _
      | exact ih1 _ _ _ _ _ _ _ _
      | exact ih2 _ _ _ _ _ _ _ _ _ _
      | exact ih3 _ _ _ _ _ _ _ _ _ _ _ _ _ _
      | exact ih4 _ _ _ _ _ _ _ _ _ _ _ _ _ _ _
      | exact yO _
      | refine yQ ?_ ?_
      | refine yP ?_ (fun _ => ?_)
set_option maxHeartbeats 8000000 in
set_option maxRecDepth 100000 in
theorem r22_Check.calls (k : Nat) (a0_0 : Int) (a0_1 : Int) (a0_2 : Int) (a0_3 : Int) (a0_4 : Int) (A0_5 : Option Addr) (c0_5 : Nat) (l0_5 : List (S74)) (a1 : Int) (r : Int) (w : World) (hr0_5 : Kd.C k74 w A0_5 l0_5.length l0_5) (hc0_5 : l0_5.length ≤ c0_5) (h : r22_Check.f k a0_0 a0_1 a0_2 a0_3 a0_4 l0_5 a1 = some r) :
    Calls Try.prog 15 #[.agg #[.int .i64 a0_0, .int .i64 a0_1, .int .i64 a0_2, .int .i64 a0_3, .int .i64 a0_4, .slice A0_5 l0_5.length c0_5], .int .i64 a1] w fun e w' => e = .returned (.int .i64 r) ∧ Below w.heap.size w w' := by
  have hu31 := Try.underlying31
  have hu74 := Try.underlying74
  have HR0_5 := zK hr0_5
  have HC0_5 := zK hc0_5
  clear hr0_5 hc0_5
  have HB := zK (Below.refl w.heap.size w)
  have H : (if a1 < 1 then (r22_Check.j0 k a1 true a0_0 a0_1 a0_2 a0_3 a0_4 l0_5) else (if a1 > 512 then (r22_Check.j0 k a1 true a0_0 a0_1 a0_2 a0_3 a0_4 l0_5) else (if a0_0 < 0 then (r22_Check.j0 k a1 true a0_0 a0_1 a0_2 a0_3 a0_4 l0_5) else (if a0_0 > 65536 then (r22_Check.j0 k a1 true a0_0 a0_1 a0_2 a0_3 a0_4 l0_5) else (if a0_1 < 1 then (r22_Check.j0 k a1 true a0_0 a0_1 a0_2 a0_3 a0_4 l0_5) else (r22_Check.j0 k a1 (decide (a0_1 > 65536)) a0_0 a0_1 a0_2 a0_3 a0_4 l0_5)))))) = some r := h
  clear h
  have HC3 := zK H
  clear H
  go_enter Try.func15, Try.ntmps15
  go_upto_region 1 with (first | ((with_reducible refine gate_dst (N := 2) rfl ?_); refine box_event ?hg (N := 2) ?hd (cs := #[.int .i64 a0_0, .int .i64 a0_1, .int .i64 a0_2, .int .i64 a0_3, .int .i64 a0_4, .slice A0_5 l0_5.length c0_5]) (t := 31) ?hr ?_; (case hd => rfl); (case hg => rfl); (case hr => first | (go_simp; done) | (go_simp; rfl)); intro Z15 hg w4 hbox hb; have n0_ := zK (yL (by repeat (first | (with_reducible first | exact HB.out | apply zJ | apply zD | apply zE) | exact HB.out)) hb); have n1_ := zK (hbox); have n2_ := zK ((by rw [hg]; exact (yK (by repeat (first | (with_reducible first | exact HB.out | apply zJ | apply zD | apply zE) | exact HB.out))) : w.heap.size ≤ Z15)); have n3_ := zK ((by rw [hg]; exact (yK (by repeat (first | (with_reducible first | exact HB.out | apply zJ | apply zD | apply zE) | exact HB.out))) : w.heap.size ≤ Z15)); clear HB; have HB := n0_; have Z0 := n1_; have Z6 := n2_; have Z3 := n3_; clear n0_ n1_ n2_ n3_ hb hbox hg))
  (try simp only [Act.put, zA, zB, zC])
  go_cut [34] (fun v34 wc => ∃ (kq : Nat) (x34_2 : Bool), v34 = .bool x34_2 ∧ Aside0 (r22_Check.j0 kq a1 x34_2 a0_0 a0_1 a0_2 a0_3 a0_4 l0_5 = some r) ∧ Aside0 (kq ≤ k) ∧ Aside0 (wc.heap[Z15]? = some (.cells #[.int .i64 a0_0, .int .i64 a0_1, .int .i64 a0_2, .int .i64 a0_3, .int .i64 a0_4, (.slice A0_5 l0_5.length c0_5)] 31 (0, 0))) ∧ Aside0 (Below w.heap.size w wc))
  case first =>
   have H := HC3.out
   clear HC3
   by_cases c5 : a1 < 1
   ·rw [if_pos c5] at H
    have c5b0 : decide (a1 < 1) = true := yC c5
    clear c5
    (first | rw [c5b0] | (simp only [i64_w, i32_w]; rw [c5b0]) | skip)
    have H' := zK H
    clear H
    go_wp2
    go_meet
    case rel => exact ⟨_, (true), (by first | rfl | (simp; done) | (simp [*]; done)), H', ⟨by first | omega | exact yN _⟩, ⟨by (with_reducible repeat (first | refine zF ?_ _ | refine zH ?_ | refine zG ?_ _)); exact Z0.out⟩, ⟨by repeat (first | (with_reducible first | exact HB.out | apply zJ | apply zD | apply zE | refine zI ?_ Z3.out) | exact HB.out)⟩⟩
   ·rw [if_neg c5] at H
    have c5b0 : decide (a1 < 1) = false := yD c5
    clear c5
    (first | rw [c5b0] | (simp only [i64_w, i32_w]; rw [c5b0]) | skip)
    by_cases c6 : a1 > 512
    ·rw [if_pos c6] at H
     have c6b0 : decide (512 < a1) = true := yC c6
     clear c6
     have H' := zK H
     clear H
     go_wp2
     go_meet
     case rel => exact ⟨_, (true), (by first | rfl | (simp; done) | (simp [*]; done)), H', ⟨by first | omega | exact yN _⟩, ⟨by (with_reducible repeat (first | refine zF ?_ _ | refine zH ?_ | refine zG ?_ _)); exact Z0.out⟩, ⟨by repeat (first | (with_reducible first | exact HB.out | apply zJ | apply zD | apply zE | refine zI ?_ Z3.out) | exact HB.out)⟩⟩
    ·rw [if_neg c6] at H
     have c6b0 : decide (512 < a1) = false := yD c6
     clear c6
     by_cases c7 : a0_0 < 0
     ·rw [if_pos c7] at H
      have c7b0 : decide (a0_0 < 0) = true := yC c7
      clear c7
      have H' := zK H
      clear H
      have hcz8_0 : w4.cell? ⟨Z15, 0, none⟩ = some (.int .i64 a0_0) := (zO Z0.out 0).trans rfl
      have hcz8_1 : w4.cell? ⟨Z15, 1, none⟩ = some (.int .i64 a0_1) := (zO Z0.out 1).trans rfl
      have hcz8_2 : w4.cell? ⟨Z15, 2, none⟩ = some (.int .i64 a0_2) := (zO Z0.out 2).trans rfl
      have hcz8_3 : w4.cell? ⟨Z15, 3, none⟩ = some (.int .i64 a0_3) := (zO Z0.out 3).trans rfl
      have hcz8_4 : w4.cell? ⟨Z15, 4, none⟩ = some (.int .i64 a0_4) := (zO Z0.out 4).trans rfl
      have hcz8_5 : w4.cell? ⟨Z15, 5, none⟩ = some (.slice A0_5 l0_5.length c0_5) := (zO Z0.out 5).trans rfl
      have hfz8_0 := yE Z0.out 0
      have hfz8_1 := yE Z0.out 1
      have hfz8_2 := yE Z0.out 2
      have hfz8_3 := yE Z0.out 3
      have hfz8_4 := yE Z0.out 4
      have hfz8_5 := yE Z0.out 5
      go_wp2
      go_meet
      case rel => exact ⟨_, (true), (by first | rfl | (simp; done) | (simp [*]; done)), H', ⟨by first | omega | exact yN _⟩, ⟨by (with_reducible repeat (first | refine zF ?_ _ | refine zH ?_ | refine zG ?_ _)); exact Z0.out⟩, ⟨by repeat (first | (with_reducible first | exact HB.out | apply zJ | apply zD | apply zE | refine zI ?_ Z3.out) | exact HB.out)⟩⟩
     ·rw [if_neg c7] at H
      have c7b0 : decide (a0_0 < 0) = false := yD c7
      clear c7
      by_cases c9 : a0_0 > 65536
      ·rw [if_pos c9] at H
       have c9b0 : decide (65536 < a0_0) = true := yC c9
       clear c9
       have H' := zK H
       clear H
       have hcz10_0 : w4.cell? ⟨Z15, 0, none⟩ = some (.int .i64 a0_0) := (zO Z0.out 0).trans rfl
       have hcz10_1 : w4.cell? ⟨Z15, 1, none⟩ = some (.int .i64 a0_1) := (zO Z0.out 1).trans rfl
       have hcz10_2 : w4.cell? ⟨Z15, 2, none⟩ = some (.int .i64 a0_2) := (zO Z0.out 2).trans rfl
       have hcz10_3 : w4.cell? ⟨Z15, 3, none⟩ = some (.int .i64 a0_3) := (zO Z0.out 3).trans rfl
       have hcz10_4 : w4.cell? ⟨Z15, 4, none⟩ = some (.int .i64 a0_4) := (zO Z0.out 4).trans rfl
       have hcz10_5 : w4.cell? ⟨Z15, 5, none⟩ = some (.slice A0_5 l0_5.length c0_5) := (zO Z0.out 5).trans rfl
       have hfz10_0 := yE Z0.out 0
       have hfz10_1 := yE Z0.out 1
       have hfz10_2 := yE Z0.out 2
       have hfz10_3 := yE Z0.out 3
       have hfz10_4 := yE Z0.out 4
       have hfz10_5 := yE Z0.out 5
       go_wp2
       go_meet
       case rel => exact ⟨_, (true), (by first | rfl | (simp; done) | (simp [*]; done)), H', ⟨by first | omega | exact yN _⟩, ⟨by (with_reducible repeat (first | refine zF ?_ _ | refine zH ?_ | refine zG ?_ _)); exact Z0.out⟩, ⟨by repeat (first | (with_reducible first | exact HB.out | apply zJ | apply zD | apply zE | refine zI ?_ Z3.out) | exact HB.out)⟩⟩
      ·rw [if_neg c9] at H
       have c9b0 : decide (65536 < a0_0) = false := yD c9
       clear c9
       by_cases c11 : a0_1 < 1
       ·rw [if_pos c11] at H
        have c11b0 : decide (a0_1 < 1) = true := yC c11
        clear c11
        have H' := zK H
        clear H
        have hcz12_0 : w4.cell? ⟨Z15, 0, none⟩ = some (.int .i64 a0_0) := (zO Z0.out 0).trans rfl
        have hcz12_1 : w4.cell? ⟨Z15, 1, none⟩ = some (.int .i64 a0_1) := (zO Z0.out 1).trans rfl
        have hcz12_2 : w4.cell? ⟨Z15, 2, none⟩ = some (.int .i64 a0_2) := (zO Z0.out 2).trans rfl
        have hcz12_3 : w4.cell? ⟨Z15, 3, none⟩ = some (.int .i64 a0_3) := (zO Z0.out 3).trans rfl
        have hcz12_4 : w4.cell? ⟨Z15, 4, none⟩ = some (.int .i64 a0_4) := (zO Z0.out 4).trans rfl
        have hcz12_5 : w4.cell? ⟨Z15, 5, none⟩ = some (.slice A0_5 l0_5.length c0_5) := (zO Z0.out 5).trans rfl
        have hfz12_0 := yE Z0.out 0
        have hfz12_1 := yE Z0.out 1
        have hfz12_2 := yE Z0.out 2
        have hfz12_3 := yE Z0.out 3
        have hfz12_4 := yE Z0.out 4
        have hfz12_5 := yE Z0.out 5
        go_wp2
        go_meet
        case rel => exact ⟨_, (true), (by first | rfl | (simp; done) | (simp [*]; done)), H', ⟨by first | omega | exact yN _⟩, ⟨by (with_reducible repeat (first | refine zF ?_ _ | refine zH ?_ | refine zG ?_ _)); exact Z0.out⟩, ⟨by repeat (first | (with_reducible first | exact HB.out | apply zJ | apply zD | apply zE | refine zI ?_ Z3.out) | exact HB.out)⟩⟩
       ·rw [if_neg c11] at H
        have c11b0 : decide (a0_1 < 1) = false := yD c11
        clear c11
        have H' := zK H
        clear H
        have hcz13_0 : w4.cell? ⟨Z15, 0, none⟩ = some (.int .i64 a0_0) := (zO Z0.out 0).trans rfl
        have hcz13_1 : w4.cell? ⟨Z15, 1, none⟩ = some (.int .i64 a0_1) := (zO Z0.out 1).trans rfl
        have hcz13_2 : w4.cell? ⟨Z15, 2, none⟩ = some (.int .i64 a0_2) := (zO Z0.out 2).trans rfl
        have hcz13_3 : w4.cell? ⟨Z15, 3, none⟩ = some (.int .i64 a0_3) := (zO Z0.out 3).trans rfl
        have hcz13_4 : w4.cell? ⟨Z15, 4, none⟩ = some (.int .i64 a0_4) := (zO Z0.out 4).trans rfl
        have hcz13_5 : w4.cell? ⟨Z15, 5, none⟩ = some (.slice A0_5 l0_5.length c0_5) := (zO Z0.out 5).trans rfl
        have hfz13_0 := yE Z0.out 0
        have hfz13_1 := yE Z0.out 1
        have hfz13_2 := yE Z0.out 2
        have hfz13_3 := yE Z0.out 3
        have hfz13_4 := yE Z0.out 4
        have hfz13_5 := yE Z0.out 5
        go_wp2
        go_meet
        case rel => exact ⟨_, (decide (a0_1 > 65536)), (by first | rfl | (simp; done) | (simp [*]; done)), H', ⟨by first | omega | exact yN _⟩, ⟨by (with_reducible repeat (first | refine zF ?_ _ | refine zH ?_ | refine zG ?_ _)); exact Z0.out⟩, ⟨by repeat (first | (with_reducible first | exact HB.out | apply zJ | apply zD | apply zE | refine zI ?_ Z3.out) | exact HB.out)⟩⟩
  case rest =>
   clear HC3
   try clear c1
   try clear p2
   try clear c5
   try clear c5b0
   try clear c6
   try clear c6b0
   try clear c7
   try clear c7b0
   try clear c9
   try clear c9b0
   try clear c11
   try clear c11b0
   try clear hcz10_0
   try clear hcz10_1
   try clear hcz10_2
   try clear hcz10_3
   try clear hcz10_4
   try clear hcz10_5
   try clear hcz12_0
   try clear hcz12_1
   try clear hcz12_2
   try clear hcz12_3
   try clear hcz12_4
   try clear hcz12_5
   try clear hcz13_0
   try clear hcz13_1
   try clear hcz13_2
   try clear hcz13_3
   try clear hcz13_4
   try clear hcz13_5
   try clear hcz8_0
   try clear hcz8_1
   try clear hcz8_2
   try clear hcz8_3
   try clear hcz8_4
   try clear hcz8_5
   try clear hfz10_0
   try clear hfz10_1
   try clear hfz10_2
   try clear hfz10_3
   try clear hfz10_4
   try clear hfz10_5
   try clear hfz12_0
   try clear hfz12_1
   try clear hfz12_2
   try clear hfz12_3
   try clear hfz12_4
   try clear hfz12_5
   try clear hfz13_0
   try clear hfz13_1
   try clear hfz13_2
   try clear hfz13_3
   try clear hfz13_4
   try clear hfz13_5
   try clear hfz8_0
   try clear hfz8_1
   try clear hfz8_2
   try clear hfz8_3
   try clear hfz8_4
   try clear hfz8_5
   obtain ⟨kq, x34_2, rfl, HA, HJ2, Z0, HB⟩ := hcut
   cases kq with
   | zero => exact absurd HA.out (by simp [r22_Check.j0])
   | succ kj2 =>
    have H := HA.out
    clear HA
    simp only [r22_Check.j0] at H
    by_cases c14 : x34_2 = true
    ·subst c14
     have H1 : (some 220) = some r := by rw [if_pos rfl] at H; exact H
     clear H
     have H := H1
     clear H1
     obtain rfl := yY H
     go_wp2
     go_ret
     exact ⟨by first | rfl | (simp [errW_none, errW_some] <;> rfl) | (simp [*, errW_none, errW_some] <;> rfl), by repeat (first | (with_reducible first | exact HB.out | apply zJ | apply zD | apply zE | refine zI ?_ Z3.out) | exact HB.out)⟩
    ·replace c14 := yh.mpr c14
     subst c14
     have H1 : (if a0_2 < 0 then (r22_Check.j1 kj2 a1 true a0_0 a0_1 a0_2 a0_3 a0_4 l0_5) else (if a0_2 > a1 then (r22_Check.j1 kj2 a1 true a0_0 a0_1 a0_2 a0_3 a0_4 l0_5) else (if a0_3 < 1 then (r22_Check.j1 kj2 a1 true a0_0 a0_1 a0_2 a0_3 a0_4 l0_5) else (if a0_3 > 65536 then (r22_Check.j1 kj2 a1 true a0_0 a0_1 a0_2 a0_3 a0_4 l0_5) else ((r22_Total.f a0_0 a0_1 a0_2 a0_3 a0_4 l0_5).bind fun t201 => (if t201 = 0 then (r22_Check.j1 kj2 a1 true a0_0 a0_1 a0_2 a0_3 a0_4 l0_5) else (r22_Check.j1 kj2 a1 (decide ((l0_5.length : Int) > 64)) a0_0 a0_1 a0_2 a0_3 a0_4 l0_5))))))) = some r := by rw [if_neg (show ¬ (false = true) by decide)] at H; exact H
     clear H
     have H := H1
     clear H1
     have HC15 := zK H
     clear H
     go_upto_region 3 with (fail)
     go_cut [64] (fun v64 wc => ∃ (kq : Nat) (x64_14 : Bool), v64 = .bool x64_14 ∧ Aside0 (r22_Check.j1 kq a1 x64_14 a0_0 a0_1 a0_2 a0_3 a0_4 l0_5 = some r) ∧ Aside0 (kq ≤ kj2) ∧ Aside0 (wc.heap[Z15]? = some (.cells #[.int .i64 a0_0, .int .i64 a0_1, .int .i64 a0_2, .int .i64 a0_3, .int .i64 a0_4, (.slice A0_5 l0_5.length c0_5)] 31 (0, 0))) ∧ Aside0 (Below w.heap.size w wc))
     case first =>
      have H := HC15.out
      clear HC15
      by_cases c16 : a0_2 < 0
      ·rw [if_pos c16] at H
       have c16b0 : decide (a0_2 < 0) = true := yC c16
       clear c16
       (first | rw [c16b0] | (simp only [i64_w, i32_w]; rw [c16b0]) | skip)
       have H' := zK H
       clear H
       have hcz17_0 : wc.cell? ⟨Z15, 0, none⟩ = some (.int .i64 a0_0) := (zO Z0.out 0).trans rfl
       have hcz17_1 : wc.cell? ⟨Z15, 1, none⟩ = some (.int .i64 a0_1) := (zO Z0.out 1).trans rfl
       have hcz17_2 : wc.cell? ⟨Z15, 2, none⟩ = some (.int .i64 a0_2) := (zO Z0.out 2).trans rfl
       have hcz17_3 : wc.cell? ⟨Z15, 3, none⟩ = some (.int .i64 a0_3) := (zO Z0.out 3).trans rfl
       have hcz17_4 : wc.cell? ⟨Z15, 4, none⟩ = some (.int .i64 a0_4) := (zO Z0.out 4).trans rfl
       have hcz17_5 : wc.cell? ⟨Z15, 5, none⟩ = some (.slice A0_5 l0_5.length c0_5) := (zO Z0.out 5).trans rfl
       have hfz17_0 := yE Z0.out 0
       have hfz17_1 := yE Z0.out 1
       have hfz17_2 := yE Z0.out 2
       have hfz17_3 := yE Z0.out 3
       have hfz17_4 := yE Z0.out 4
       have hfz17_5 := yE Z0.out 5
       go_wp2
       go_meet
       case rel => exact ⟨_, (true), (by first | rfl | (simp; done) | (simp [*]; done)), H', ⟨by have := HJ2.out; first | omega | exact yN _⟩, ⟨by (with_reducible repeat (first | refine zF ?_ _ | refine zH ?_ | refine zG ?_ _)); exact Z0.out⟩, ⟨by repeat (first | (with_reducible first | exact HB.out | apply zJ | apply zD | apply zE | refine zI ?_ Z3.out) | exact HB.out)⟩⟩
      ·rw [if_neg c16] at H
       have c16b0 : decide (a0_2 < 0) = false := yD c16
       clear c16
       (first | rw [c16b0] | (simp only [i64_w, i32_w]; rw [c16b0]) | skip)
       by_cases c18 : a0_2 > a1
       ·rw [if_pos c18] at H
        have c18b0 : decide (a1 < a0_2) = true := yC c18
        clear c18
        have H' := zK H
        clear H
        have hcz19_0 : wc.cell? ⟨Z15, 0, none⟩ = some (.int .i64 a0_0) := (zO Z0.out 0).trans rfl
        have hcz19_1 : wc.cell? ⟨Z15, 1, none⟩ = some (.int .i64 a0_1) := (zO Z0.out 1).trans rfl
        have hcz19_2 : wc.cell? ⟨Z15, 2, none⟩ = some (.int .i64 a0_2) := (zO Z0.out 2).trans rfl
        have hcz19_3 : wc.cell? ⟨Z15, 3, none⟩ = some (.int .i64 a0_3) := (zO Z0.out 3).trans rfl
        have hcz19_4 : wc.cell? ⟨Z15, 4, none⟩ = some (.int .i64 a0_4) := (zO Z0.out 4).trans rfl
        have hcz19_5 : wc.cell? ⟨Z15, 5, none⟩ = some (.slice A0_5 l0_5.length c0_5) := (zO Z0.out 5).trans rfl
        have hfz19_0 := yE Z0.out 0
        have hfz19_1 := yE Z0.out 1
        have hfz19_2 := yE Z0.out 2
        have hfz19_3 := yE Z0.out 3
        have hfz19_4 := yE Z0.out 4
        have hfz19_5 := yE Z0.out 5
        go_wp2
        go_meet
        case rel => exact ⟨_, (true), (by first | rfl | (simp; done) | (simp [*]; done)), H', ⟨by have := HJ2.out; first | omega | exact yN _⟩, ⟨by (with_reducible repeat (first | refine zF ?_ _ | refine zH ?_ | refine zG ?_ _)); exact Z0.out⟩, ⟨by repeat (first | (with_reducible first | exact HB.out | apply zJ | apply zD | apply zE | refine zI ?_ Z3.out) | exact HB.out)⟩⟩
       ·rw [if_neg c18] at H
        have c18b0 : decide (a1 < a0_2) = false := yD c18
        clear c18
        by_cases c20 : a0_3 < 1
        ·rw [if_pos c20] at H
         have c20b0 : decide (a0_3 < 1) = true := yC c20
         clear c20
         have H' := zK H
         clear H
         have hcz21_0 : wc.cell? ⟨Z15, 0, none⟩ = some (.int .i64 a0_0) := (zO Z0.out 0).trans rfl
         have hcz21_1 : wc.cell? ⟨Z15, 1, none⟩ = some (.int .i64 a0_1) := (zO Z0.out 1).trans rfl
         have hcz21_2 : wc.cell? ⟨Z15, 2, none⟩ = some (.int .i64 a0_2) := (zO Z0.out 2).trans rfl
         have hcz21_3 : wc.cell? ⟨Z15, 3, none⟩ = some (.int .i64 a0_3) := (zO Z0.out 3).trans rfl
         have hcz21_4 : wc.cell? ⟨Z15, 4, none⟩ = some (.int .i64 a0_4) := (zO Z0.out 4).trans rfl
         have hcz21_5 : wc.cell? ⟨Z15, 5, none⟩ = some (.slice A0_5 l0_5.length c0_5) := (zO Z0.out 5).trans rfl
         have hfz21_0 := yE Z0.out 0
         have hfz21_1 := yE Z0.out 1
         have hfz21_2 := yE Z0.out 2
         have hfz21_3 := yE Z0.out 3
         have hfz21_4 := yE Z0.out 4
         have hfz21_5 := yE Z0.out 5
         go_wp2
         go_meet
         case rel => exact ⟨_, (true), (by first | rfl | (simp; done) | (simp [*]; done)), H', ⟨by have := HJ2.out; first | omega | exact yN _⟩, ⟨by (with_reducible repeat (first | refine zF ?_ _ | refine zH ?_ | refine zG ?_ _)); exact Z0.out⟩, ⟨by repeat (first | (with_reducible first | exact HB.out | apply zJ | apply zD | apply zE | refine zI ?_ Z3.out) | exact HB.out)⟩⟩
        ·rw [if_neg c20] at H
         have c20b0 : decide (a0_3 < 1) = false := yD c20
         clear c20
         by_cases c22 : a0_3 > 65536
         ·rw [if_pos c22] at H
          have c22b0 : decide (65536 < a0_3) = true := yC c22
          clear c22
          have H' := zK H
          clear H
          have hcz23_0 : wc.cell? ⟨Z15, 0, none⟩ = some (.int .i64 a0_0) := (zO Z0.out 0).trans rfl
          have hcz23_1 : wc.cell? ⟨Z15, 1, none⟩ = some (.int .i64 a0_1) := (zO Z0.out 1).trans rfl
          have hcz23_2 : wc.cell? ⟨Z15, 2, none⟩ = some (.int .i64 a0_2) := (zO Z0.out 2).trans rfl
          have hcz23_3 : wc.cell? ⟨Z15, 3, none⟩ = some (.int .i64 a0_3) := (zO Z0.out 3).trans rfl
          have hcz23_4 : wc.cell? ⟨Z15, 4, none⟩ = some (.int .i64 a0_4) := (zO Z0.out 4).trans rfl
          have hcz23_5 : wc.cell? ⟨Z15, 5, none⟩ = some (.slice A0_5 l0_5.length c0_5) := (zO Z0.out 5).trans rfl
          have hfz23_0 := yE Z0.out 0
          have hfz23_1 := yE Z0.out 1
          have hfz23_2 := yE Z0.out 2
          have hfz23_3 := yE Z0.out 3
          have hfz23_4 := yE Z0.out 4
          have hfz23_5 := yE Z0.out 5
          go_wp2
          go_meet
          case rel => exact ⟨_, (true), (by first | rfl | (simp; done) | (simp [*]; done)), H', ⟨by have := HJ2.out; first | omega | exact yN _⟩, ⟨by (with_reducible repeat (first | refine zF ?_ _ | refine zH ?_ | refine zG ?_ _)); exact Z0.out⟩, ⟨by repeat (first | (with_reducible first | exact HB.out | apply zJ | apply zD | apply zE | refine zI ?_ Z3.out) | exact HB.out)⟩⟩
         ·rw [if_neg c22] at H
          have c22b0 : decide (65536 < a0_3) = false := yD c22
          clear c22
          replace H := yA.mp H
          obtain ⟨t201, A240, H⟩ := H
          replace H : (if t201 = 0 then (r22_Check.j1 kj2 a1 true a0_0 a0_1 a0_2 a0_3 a0_4 l0_5) else (r22_Check.j1 kj2 a1 (decide ((l0_5.length : Int) > 64)) a0_0 a0_1 a0_2 a0_3 a0_4 l0_5)) = some r := H
          have A24 := zK A240
          clear A240
          by_cases c25 : t201 = 0
          ·rw [if_pos c25] at H
           have c25b0 : (t201 == 0) = true := beq_iff_eq.mpr c25
           have c25b1 : (t201 != 0) = false := bne_eq_false_iff_eq.mpr c25
           clear c25
           have H' := zK H
           clear H
           have hcz26_0 : wc.cell? ⟨Z15, 0, none⟩ = some (.int .i64 a0_0) := (zO Z0.out 0).trans rfl
           have hcz26_1 : wc.cell? ⟨Z15, 1, none⟩ = some (.int .i64 a0_1) := (zO Z0.out 1).trans rfl
           have hcz26_2 : wc.cell? ⟨Z15, 2, none⟩ = some (.int .i64 a0_2) := (zO Z0.out 2).trans rfl
           have hcz26_3 : wc.cell? ⟨Z15, 3, none⟩ = some (.int .i64 a0_3) := (zO Z0.out 3).trans rfl
           have hcz26_4 : wc.cell? ⟨Z15, 4, none⟩ = some (.int .i64 a0_4) := (zO Z0.out 4).trans rfl
           have hcz26_5 : wc.cell? ⟨Z15, 5, none⟩ = some (.slice A0_5 l0_5.length c0_5) := (zO Z0.out 5).trans rfl
           have hfz26_0 := yE Z0.out 0
           have hfz26_1 := yE Z0.out 1
           have hfz26_2 := yE Z0.out 2
           have hfz26_3 := yE Z0.out 3
           have hfz26_4 := yE Z0.out 4
           have hfz26_5 := yE Z0.out 5
           go_wp2_with (first | (go_at_call 18; (with_reducible refine (r22_Total.calls a0_0 a0_1 a0_2 a0_3 a0_4 _ _ l0_5 t201 _ ?side1 ?side2 A24.out).mono ?_); (case side1 => repeat (first | exact (yc HR0_5.out HB.out) | (with_reducible refine yS ?_ _) | (with_reducible refine yT ?_ _) | (with_reducible refine yU ?_))); (case side2 => exact HC0_5.out); rintro e w27 ⟨rfl, hb⟩; have n0_ := zK (zP (g := Z15) (o := .cells #[.int .i64 a0_0, .int .i64 a0_1, .int .i64 a0_2, .int .i64 a0_3, .int .i64 a0_4, .slice A0_5 l0_5.length c0_5] 31 (0, 0)) (by (with_reducible repeat (first | refine zF ?_ _ | refine zH ?_ | refine zG ?_ _)); exact Z0.out) hb); have n1_ := zK (yL (by repeat (first | (with_reducible first | exact HB.out | apply zJ | apply zD | apply zE | refine zI ?_ Z3.out) | exact HB.out)) hb); clear Z0 HB; have Z0 := n0_; have HB := n1_; clear n0_ n1_; (try clear hb); (try clear hb2); (try clear hk); (try clear hi)))
           go_meet
           case rel => exact ⟨_, (true), (by first | rfl | (simp; done) | (simp [*]; done)), H', ⟨by have := HJ2.out; first | omega | exact yN _⟩, ⟨by (with_reducible repeat (first | refine zF ?_ _ | refine zH ?_ | refine zG ?_ _)); exact Z0.out⟩, ⟨by repeat (first | (with_reducible first | exact HB.out | apply zJ | apply zD | apply zE | refine zI ?_ Z3.out) | exact HB.out)⟩⟩
          ·rw [if_neg c25] at H
           have c25b0 : (t201 == 0) = false := beq_eq_false_iff_ne.mpr c25
           have c25b1 : (t201 != 0) = true := bne_iff_ne.mpr c25
           have H' := zK H
           clear H
           have hcz28_0 : wc.cell? ⟨Z15, 0, none⟩ = some (.int .i64 a0_0) := (zO Z0.out 0).trans rfl
           have hcz28_1 : wc.cell? ⟨Z15, 1, none⟩ = some (.int .i64 a0_1) := (zO Z0.out 1).trans rfl
           have hcz28_2 : wc.cell? ⟨Z15, 2, none⟩ = some (.int .i64 a0_2) := (zO Z0.out 2).trans rfl
           have hcz28_3 : wc.cell? ⟨Z15, 3, none⟩ = some (.int .i64 a0_3) := (zO Z0.out 3).trans rfl
           have hcz28_4 : wc.cell? ⟨Z15, 4, none⟩ = some (.int .i64 a0_4) := (zO Z0.out 4).trans rfl
           have hcz28_5 : wc.cell? ⟨Z15, 5, none⟩ = some (.slice A0_5 l0_5.length c0_5) := (zO Z0.out 5).trans rfl
           have hfz28_0 := yE Z0.out 0
           have hfz28_1 := yE Z0.out 1
           have hfz28_2 := yE Z0.out 2
           have hfz28_3 := yE Z0.out 3
           have hfz28_4 := yE Z0.out 4
           have hfz28_5 := yE Z0.out 5
           go_wp2_with (first | (go_at_call 18; (with_reducible refine (r22_Total.calls a0_0 a0_1 a0_2 a0_3 a0_4 _ _ l0_5 t201 _ ?side1 ?side2 A24.out).mono ?_); (case side1 => repeat (first | exact (yc HR0_5.out HB.out) | (with_reducible refine yS ?_ _) | (with_reducible refine yT ?_ _) | (with_reducible refine yU ?_))); (case side2 => exact HC0_5.out); rintro e w29 ⟨rfl, hb⟩; have n0_ := zK (zP (g := Z15) (o := .cells #[.int .i64 a0_0, .int .i64 a0_1, .int .i64 a0_2, .int .i64 a0_3, .int .i64 a0_4, .slice A0_5 l0_5.length c0_5] 31 (0, 0)) (by (with_reducible repeat (first | refine zF ?_ _ | refine zH ?_ | refine zG ?_ _)); exact Z0.out) hb); have n1_ := zK (yL (by repeat (first | (with_reducible first | exact HB.out | apply zJ | apply zD | apply zE | refine zI ?_ Z3.out) | exact HB.out)) hb); clear Z0 HB; have Z0 := n0_; have HB := n1_; clear n0_ n1_; (try clear hb); (try clear hb2); (try clear hk); (try clear hi); have hcz30_0 : w29.cell? ⟨Z15, 0, none⟩ = some (.int .i64 a0_0) := (zO Z0.out 0).trans rfl; have hcz30_1 : w29.cell? ⟨Z15, 1, none⟩ = some (.int .i64 a0_1) := (zO Z0.out 1).trans rfl; have hcz30_2 : w29.cell? ⟨Z15, 2, none⟩ = some (.int .i64 a0_2) := (zO Z0.out 2).trans rfl; have hcz30_3 : w29.cell? ⟨Z15, 3, none⟩ = some (.int .i64 a0_3) := (zO Z0.out 3).trans rfl; have hcz30_4 : w29.cell? ⟨Z15, 4, none⟩ = some (.int .i64 a0_4) := (zO Z0.out 4).trans rfl; have hcz30_5 : w29.cell? ⟨Z15, 5, none⟩ = some (.slice A0_5 l0_5.length c0_5) := (zO Z0.out 5).trans rfl; have hfz30_0 := yE Z0.out 0; have hfz30_1 := yE Z0.out 1; have hfz30_2 := yE Z0.out 2; have hfz30_3 := yE Z0.out 3; have hfz30_4 := yE Z0.out 4; have hfz30_5 := yE Z0.out 5))
           go_meet
           case rel => exact ⟨_, (decide ((l0_5.length : Int) > 64)), (by first | rfl | (simp; done) | (simp [*]; done)), H', ⟨by have := HJ2.out; first | omega | exact yN _⟩, ⟨by (with_reducible repeat (first | refine zF ?_ _ | refine zH ?_ | refine zG ?_ _)); exact Z0.out⟩, ⟨by repeat (first | (with_reducible first | exact HB.out | apply zJ | apply zD | apply zE | refine zI ?_ Z3.out) | exact HB.out)⟩⟩
     case rest =>
      clear HC15
      try clear c1
      try clear c2
      try clear p2
      try clear c5
      try clear c5b0
      try clear c6
      try clear c6b0
      try clear c7
      try clear c7b0
      try clear c9
      try clear c9b0
      try clear c11
      try clear c11b0
      try clear c14
      try clear c15
      try clear c16
      try clear c16b0
      try clear c18
      try clear c18b0
      try clear c20
      try clear c20b0
      try clear c22
      try clear c22b0
      try clear c25
      try clear c25b0
      try clear c25b1
      try clear hcz10_0
      try clear hcz10_1
      try clear hcz10_2
      try clear hcz10_3
      try clear hcz10_4
      try clear hcz10_5
      try clear hcz12_0
      try clear hcz12_1
      try clear hcz12_2
      try clear hcz12_3
      try clear hcz12_4
      try clear hcz12_5
      try clear hcz13_0
      try clear hcz13_1
      try clear hcz13_2
      try clear hcz13_3
      try clear hcz13_4
      try clear hcz13_5
      try clear hcz17_0
      try clear hcz17_1
      try clear hcz17_2
      try clear hcz17_3
      try clear hcz17_4
      try clear hcz17_5
      try clear hcz19_0
      try clear hcz19_1
      try clear hcz19_2
      try clear hcz19_3
      try clear hcz19_4
      try clear hcz19_5
      try clear hcz21_0
      try clear hcz21_1
      try clear hcz21_2
      try clear hcz21_3
      try clear hcz21_4
      try clear hcz21_5
      try clear hcz23_0
      try clear hcz23_1
      try clear hcz23_2
      try clear hcz23_3
      try clear hcz23_4
      try clear hcz23_5
      try clear hcz26_0
      try clear hcz26_1
      try clear hcz26_2
      try clear hcz26_3
      try clear hcz26_4
      try clear hcz26_5
      try clear hcz28_0
      try clear hcz28_1
      try clear hcz28_2
      try clear hcz28_3
      try clear hcz28_4
      try clear hcz28_5
      try clear hcz30_0
      try clear hcz30_1
      try clear hcz30_2
      try clear hcz30_3
      try clear hcz30_4
      try clear hcz30_5
      try clear hcz8_0
      try clear hcz8_1
      try clear hcz8_2
      try clear hcz8_3
      try clear hcz8_4
      try clear hcz8_5
      try clear hfz10_0
      try clear hfz10_1
      try clear hfz10_2
      try clear hfz10_3
      try clear hfz10_4
      try clear hfz10_5
      try clear hfz12_0
      try clear hfz12_1
      try clear hfz12_2
      try clear hfz12_3
      try clear hfz12_4
      try clear hfz12_5
      try clear hfz13_0
      try clear hfz13_1
      try clear hfz13_2
      try clear hfz13_3
      try clear hfz13_4
      try clear hfz13_5
      try clear hfz17_0
      try clear hfz17_1
      try clear hfz17_2
      try clear hfz17_3
      try clear hfz17_4
      try clear hfz17_5
      try clear hfz19_0
      try clear hfz19_1
      try clear hfz19_2
      try clear hfz19_3
      try clear hfz19_4
      try clear hfz19_5
      try clear hfz21_0
      try clear hfz21_1
      try clear hfz21_2
      try clear hfz21_3
      try clear hfz21_4
      try clear hfz21_5
      try clear hfz23_0
      try clear hfz23_1
      try clear hfz23_2
      try clear hfz23_3
      try clear hfz23_4
      try clear hfz23_5
      try clear hfz26_0
      try clear hfz26_1
      try clear hfz26_2
      try clear hfz26_3
      try clear hfz26_4
      try clear hfz26_5
      try clear hfz28_0
      try clear hfz28_1
      try clear hfz28_2
      try clear hfz28_3
      try clear hfz28_4
      try clear hfz28_5
      try clear hfz30_0
      try clear hfz30_1
      try clear hfz30_2
      try clear hfz30_3
      try clear hfz30_4
      try clear hfz30_5
      try clear hfz8_0
      try clear hfz8_1
      try clear hfz8_2
      try clear hfz8_3
      try clear hfz8_4
      try clear hfz8_5
      try clear p2
      obtain ⟨kq, x64_14, rfl, HA, HJ14, Z0, HB⟩ := hcut
      cases kq with
      | zero => exact absurd HA.out (by simp [r22_Check.j1])
      | succ kj14 =>
       have H := HA.out
       clear HA
       simp only [r22_Check.j1] at H
       by_cases c31 : x64_14 = true
       ·subst c31
        have H1 : (some 220) = some r := by rw [if_pos rfl] at H; exact H
        clear H
        have H := H1
        clear H1
        obtain rfl := yY H
        go_wp2
        go_ret
        exact ⟨by first | rfl | (simp [errW_none, errW_some] <;> rfl) | (simp [*, errW_none, errW_some] <;> rfl), by repeat (first | (with_reducible first | exact HB.out | apply zJ | apply zD | apply zE | refine zI ?_ Z3.out) | exact HB.out)⟩
       ·replace c31 := yh.mpr c31
        subst c31
        have H1 : (r22_Check.l0 kj14 a1 l0_5 (l0_5.length : Int) 0 a0_0 a0_1 a0_2 a0_3 a0_4 l0_5) = some r := by rw [if_neg (show ¬ (false = true) by decide)] at H; exact H
        clear H
        have H := H1
        clear H1
        have H' := zK H
        clear H
        have hcz32_0 : wc.cell? ⟨Z15, 0, none⟩ = some (.int .i64 a0_0) := (zO Z0.out 0).trans rfl
        have hcz32_1 : wc.cell? ⟨Z15, 1, none⟩ = some (.int .i64 a0_1) := (zO Z0.out 1).trans rfl
        have hcz32_2 : wc.cell? ⟨Z15, 2, none⟩ = some (.int .i64 a0_2) := (zO Z0.out 2).trans rfl
        have hcz32_3 : wc.cell? ⟨Z15, 3, none⟩ = some (.int .i64 a0_3) := (zO Z0.out 3).trans rfl
        have hcz32_4 : wc.cell? ⟨Z15, 4, none⟩ = some (.int .i64 a0_4) := (zO Z0.out 4).trans rfl
        have hcz32_5 : wc.cell? ⟨Z15, 5, none⟩ = some (.slice A0_5 l0_5.length c0_5) := (zO Z0.out 5).trans rfl
        have hfz32_0 := yE Z0.out 0
        have hfz32_1 := yE Z0.out 1
        have hfz32_2 := yE Z0.out 2
        have hfz32_3 := yE Z0.out 3
        have hfz32_4 := yE Z0.out 4
        have hfz32_5 := yE Z0.out 5
        go_wp2
        go_loopg [68] kj14 (fun kq v68 w' => ∃ (x68_3 : Int), v68 = .int .i64 x68_3 ∧ Aside0 (r22_Check.l0 kq a1 l0_5 (l0_5.length : Int) x68_3 a0_0 a0_1 a0_2 a0_3 a0_4 l0_5 = some r) ∧ Aside0 (kq ≤ kj14) ∧ Aside0 (w'.heap[Z15]? = some (.cells #[.int .i64 a0_0, .int .i64 a0_1, .int .i64 a0_2, .int .i64 a0_3, .int .i64 a0_4, (.slice A0_5 l0_5.length c0_5)] 31 (0, 0))) ∧ Aside0 (Below w.heap.size w w'))
        case atStart => exact ⟨(0), (by first | rfl | (simp; done) | (simp [*]; done)), H', ⟨yN _⟩, ⟨by (with_reducible repeat (first | refine zF ?_ _ | refine zH ?_ | refine zG ?_ _)); exact Z0.out⟩, ⟨by repeat (first | (with_reducible first | exact HB.out | apply zJ | apply zD | apply zE | refine zI ?_ Z3.out) | exact HB.out)⟩⟩
        case round =>
         clear H'
         try clear c1
         try clear c2
         try clear p2
         try clear c3
         try clear c5
         try clear c5b0
         try clear c6
         try clear c6b0
         try clear c7
         try clear c7b0
         try clear c9
         try clear c9b0
         try clear c11
         try clear c11b0
         try clear c14
         try clear c15
         try clear c16
         try clear c16b0
         try clear c18
         try clear c18b0
         try clear c20
         try clear c20b0
         try clear c22
         try clear c22b0
         try clear c25
         try clear c25b0
         try clear c25b1
         try clear c31
         try clear hcz10_0
         try clear hcz10_1
         try clear hcz10_2
         try clear hcz10_3
         try clear hcz10_4
         try clear hcz10_5
         try clear hcz12_0
         try clear hcz12_1
         try clear hcz12_2
         try clear hcz12_3
         try clear hcz12_4
         try clear hcz12_5
         try clear hcz13_0
         try clear hcz13_1
         try clear hcz13_2
         try clear hcz13_3
         try clear hcz13_4
         try clear hcz13_5
         try clear hcz17_0
         try clear hcz17_1
         try clear hcz17_2
         try clear hcz17_3
         try clear hcz17_4
         try clear hcz17_5
         try clear hcz19_0
         try clear hcz19_1
         try clear hcz19_2
         try clear hcz19_3
         try clear hcz19_4
         try clear hcz19_5
         try clear hcz21_0
         try clear hcz21_1
         try clear hcz21_2
         try clear hcz21_3
         try clear hcz21_4
         try clear hcz21_5
         try clear hcz23_0
         try clear hcz23_1
         try clear hcz23_2
         try clear hcz23_3
         try clear hcz23_4
         try clear hcz23_5
         try clear hcz26_0
         try clear hcz26_1
         try clear hcz26_2
         try clear hcz26_3
         try clear hcz26_4
         try clear hcz26_5
         try clear hcz28_0
         try clear hcz28_1
         try clear hcz28_2
         try clear hcz28_3
         try clear hcz28_4
         try clear hcz28_5
         try clear hcz30_0
         try clear hcz30_1
         try clear hcz30_2
         try clear hcz30_3
         try clear hcz30_4
         try clear hcz30_5
         try clear hcz32_0
         try clear hcz32_1
         try clear hcz32_2
         try clear hcz32_3
         try clear hcz32_4
         try clear hcz32_5
         try clear hcz8_0
         try clear hcz8_1
         try clear hcz8_2
         try clear hcz8_3
         try clear hcz8_4
         try clear hcz8_5
         try clear hfz10_0
         try clear hfz10_1
         try clear hfz10_2
         try clear hfz10_3
         try clear hfz10_4
         try clear hfz10_5
         try clear hfz12_0
         try clear hfz12_1
         try clear hfz12_2
         try clear hfz12_3
         try clear hfz12_4
         try clear hfz12_5
         try clear hfz13_0
         try clear hfz13_1
         try clear hfz13_2
         try clear hfz13_3
         try clear hfz13_4
         try clear hfz13_5
         try clear hfz17_0
         try clear hfz17_1
         try clear hfz17_2
         try clear hfz17_3
         try clear hfz17_4
         try clear hfz17_5
         try clear hfz19_0
         try clear hfz19_1
         try clear hfz19_2
         try clear hfz19_3
         try clear hfz19_4
         try clear hfz19_5
         try clear hfz21_0
         try clear hfz21_1
         try clear hfz21_2
         try clear hfz21_3
         try clear hfz21_4
         try clear hfz21_5
         try clear hfz23_0
         try clear hfz23_1
         try clear hfz23_2
         try clear hfz23_3
         try clear hfz23_4
         try clear hfz23_5
         try clear hfz26_0
         try clear hfz26_1
         try clear hfz26_2
         try clear hfz26_3
         try clear hfz26_4
         try clear hfz26_5
         try clear hfz28_0
         try clear hfz28_1
         try clear hfz28_2
         try clear hfz28_3
         try clear hfz28_4
         try clear hfz28_5
         try clear hfz30_0
         try clear hfz30_1
         try clear hfz30_2
         try clear hfz30_3
         try clear hfz30_4
         try clear hfz30_5
         try clear hfz32_0
         try clear hfz32_1
         try clear hfz32_2
         try clear hfz32_3
         try clear hfz32_4
         try clear hfz32_5
         try clear hfz8_0
         try clear hfz8_1
         try clear hfz8_2
         try clear hfz8_3
         try clear hfz8_4
         try clear hfz8_5
         try clear p2
         obtain ⟨x68_3, rfl, HA, HK3, Z0, HB⟩ := hrel
         cases gk with
         | zero => exact absurd HA.out (by simp [r22_Check.l0])
         | succ k3 =>
          have H := HA.out
          clear HA
          simp only [r22_Check.l0] at H
          by_cases c33 : x68_3 < (l0_5.length : Int)
          ·rw [if_pos c33] at H
           have c33b0 : decide (x68_3 < (l0_5.length : Int)) = true := yC c33
           clear c33
           by_cases c34 : 0 ≤ x68_3
           ·rw [if_pos c34] at H
            have c34b0 : decide (0 ≤ x68_3) = true := yC c34
            clear c34
            by_cases c35 : x68_3 < (l0_5.length : Int)
            ·rw [if_pos c35] at H
             have c35b0 : decide (x68_3 < (l0_5.length : Int)) = true := yC c35
             clear c35
             have HC36 := zK H
             clear H
             have p202 : 0 ≤ (x68_3 : Int) := yB (by first | (with_reducible assumption) | assumption)
             have q202 : x68_3 < (l0_5.length : Int) := yB (by first | (with_reducible assumption) | assumption)
             obtain ⟨ad202, e202, hx202_0, hx202_1⟩ := at_T74 HR0_5.out x68_3 p202 q202
             cases e202
             replace hx202_0 := (HB.out.cell (World.block_lt_of_cell? w _ hx202_0)).trans hx202_0
             replace hx202_1 := (HB.out.cell (World.block_lt_of_cell? w _ hx202_1)).trans hx202_1
             replace p202 := yg p202
             replace q202 := yg q202
             go_upto_region 8 with (first | ((with_reducible refine gate_dst (N := 6) rfl ?_); refine box_event ?hg (N := 6) ?hd (cs := #[.int .i64 0, .int .i64 0]) (t := 74) ?hr ?_; (case hd => rfl); (case hg => rfl); (case hr => first | (go_simp; done) | (go_simp; rfl)); intro Z16 hg w37 hbox hb; have n0_ := zK (zP (g := Z15) (o := .cells #[.int .i64 a0_0, .int .i64 a0_1, .int .i64 a0_2, .int .i64 a0_3, .int .i64 a0_4, .slice (some ad202) l0_5.length c0_5] 31 (0, 0)) (by (with_reducible repeat (first | refine zF ?_ _ | refine zH ?_ | refine zG ?_ _)); exact Z0.out) hb); have n1_ := zK (yL (by repeat (first | (with_reducible first | exact HB.out | apply zJ | apply zD | apply zE | refine zI ?_ Z3.out) | exact HB.out)) hb); have n2_ := zK (hbox); have n3_ := zK ((by rw [hg]; exact (yK (by repeat (first | (with_reducible first | exact HB.out | apply zJ | apply zD | apply zE | refine zI ?_ Z3.out) | exact HB.out))) : w.heap.size ≤ Z16)); have n4_ := zK ((by rw [hg]; exact (yK (by repeat (first | (with_reducible first | exact HB.out | apply zJ | apply zD | apply zE | refine zI ?_ Z3.out) | exact HB.out))) : w.heap.size ≤ Z16)); have n5_ := zK ((by rw [hg]; exact ym (yo (g := Z15) (o := .cells #[.int .i64 a0_0, .int .i64 a0_1, .int .i64 a0_2, .int .i64 a0_3, .int .i64 a0_4, .slice (some ad202) l0_5.length c0_5] 31 (0, 0)) (by (with_reducible repeat (first | refine zF ?_ _ | refine zH ?_ | refine zG ?_ _)); exact Z0.out)) : Z15 ≠ Z16)); have n6_ := zK ((by rw [hg]; exact yn (yo (g := Z15) (o := .cells #[.int .i64 a0_0, .int .i64 a0_1, .int .i64 a0_2, .int .i64 a0_3, .int .i64 a0_4, .slice (some ad202) l0_5.length c0_5] 31 (0, 0)) (by (with_reducible repeat (first | refine zF ?_ _ | refine zH ?_ | refine zG ?_ _)); exact Z0.out)) : Z16 ≠ Z15)); clear Z0 HB; have Z0 := n0_; have HB := n1_; have Z1 := n2_; have Z7 := n3_; have Z4 := n4_; have Z9 := n5_; have Z11 := n6_; clear n0_ n1_ n2_ n3_ n4_ n5_ n6_ hb hbox hg; have hnb38 := Z11.out; have hnc38 := Z9.out; have hcz39_0 : w37.cell? ⟨Z16, 0, none⟩ = some (.int .i64 0) := (zO Z1.out 0).trans rfl; have hcz39_1 : w37.cell? ⟨Z16, 1, none⟩ = some (.int .i64 0) := (zO Z1.out 1).trans rfl; have hfz39_0 := yE Z1.out 0; have hfz39_1 := yE Z1.out 1))
             (try simp only [Act.put, zA, zB, zC])
             go_cut [91] (fun v91 wc => ∃ (kq : Nat) (x91_35 : Bool), v91 = .bool x91_35 ∧ Aside0 (r22_Check.j3 kq a1 x68_3 l0_5 (l0_5.length : Int) x68_3 x91_35 a0_0 a0_1 a0_2 a0_3 a0_4 l0_5 ((rd_T74 l0_5 x68_3).f0) ((rd_T74 l0_5 x68_3).f1) = some r) ∧ Aside0 (kq ≤ k3) ∧ Aside0 (wc.heap[Z15]? = some (.cells #[.int .i64 a0_0, .int .i64 a0_1, .int .i64 a0_2, .int .i64 a0_3, .int .i64 a0_4, (.slice (some ad202) l0_5.length c0_5)] 31 (0, 0))) ∧ Aside0 (wc.heap[Z16]? = some (.cells #[.int .i64 ((rd_T74 l0_5 x68_3).f0), .int .i64 ((rd_T74 l0_5 x68_3).f1)] 74 (0, 0))) ∧ Aside0 (Below w.heap.size w wc))
             case first =>
              have H := HC36.out
              clear HC36
              by_cases c40 : ((rd_T74 l0_5 x68_3).f0) < 0
              ·rw [if_pos c40] at H
               have c40b0 : decide (((rd_T74 l0_5 x68_3).f0) < 0) = true := yC c40
               clear c40
               (first | rw [c40b0] | (simp only [i64_w, i32_w]; rw [c40b0]) | skip)
               have H' := zK H
               clear H
               have hnb41 := Z11.out
               have hnc41 := Z9.out
               have hcz42_0 : w37.cell? ⟨Z16, 0, none⟩ = some (.int .i64 0) := (zO Z1.out 0).trans rfl
               have hcz42_1 : w37.cell? ⟨Z16, 1, none⟩ = some (.int .i64 0) := (zO Z1.out 1).trans rfl
               have hfz42_0 := yE Z1.out 0
               have hfz42_1 := yE Z1.out 1
               go_wp2
               go_meet
               case rel => exact ⟨_, (true), (by first | rfl | (simp; done) | (simp [*]; done)), H', ⟨by have := HJ2.out; have := HJ14.out; have := HK3.out; first | omega | exact yN _⟩, ⟨by (with_reducible repeat (first | refine zF ?_ _ | refine zH ?_ | refine zG ?_ _)); refine blk_far ?_ Z9.out _; (with_reducible repeat (first | refine zF ?_ _ | refine zH ?_ | refine zG ?_ _)); refine blk_far ?_ Z9.out _; (with_reducible repeat (first | refine zF ?_ _ | refine zH ?_ | refine zG ?_ _)); exact Z0.out⟩, ⟨by (with_reducible repeat (first | refine zF ?_ _ | refine zH ?_ | refine zG ?_ _)); refine blk_put (cs := #[.int .i64 ((rd_T74 l0_5 x68_3).f0), .int .i64 0]) ?_ 1 _ rfl; (with_reducible repeat (first | refine zF ?_ _ | refine zH ?_ | refine zG ?_ _)); refine blk_put (cs := #[.int .i64 0, .int .i64 0]) ?_ 0 _ rfl; (with_reducible repeat (first | refine zF ?_ _ | refine zH ?_ | refine zG ?_ _)); exact Z1.out⟩, ⟨by repeat (first | (with_reducible first | exact HB.out | apply zJ | apply zD | apply zE | refine zI ?_ Z3.out | refine zI ?_ Z4.out) | exact HB.out)⟩⟩
              ·rw [if_neg c40] at H
               have c40b0 : decide (((rd_T74 l0_5 x68_3).f0) < 0) = false := yD c40
               clear c40
               (first | rw [c40b0] | (simp only [i64_w, i32_w]; rw [c40b0]) | skip)
               by_cases c43 : ((rd_T74 l0_5 x68_3).f0) ≥ a1
               ·rw [if_pos c43] at H
                have c43b0 : decide (a1 ≤ ((rd_T74 l0_5 x68_3).f0)) = true := yC c43
                clear c43
                have H' := zK H
                clear H
                have hnb44 := Z11.out
                have hnc44 := Z9.out
                have hcz45_0 : w37.cell? ⟨Z16, 0, none⟩ = some (.int .i64 0) := (zO Z1.out 0).trans rfl
                have hcz45_1 : w37.cell? ⟨Z16, 1, none⟩ = some (.int .i64 0) := (zO Z1.out 1).trans rfl
                have hfz45_0 := yE Z1.out 0
                have hfz45_1 := yE Z1.out 1
                go_wp2
                go_meet
                case rel => exact ⟨_, (true), (by first | rfl | (simp; done) | (simp [*]; done)), H', ⟨by have := HJ2.out; have := HJ14.out; have := HK3.out; first | omega | exact yN _⟩, ⟨by (with_reducible repeat (first | refine zF ?_ _ | refine zH ?_ | refine zG ?_ _)); refine blk_far ?_ Z9.out _; (with_reducible repeat (first | refine zF ?_ _ | refine zH ?_ | refine zG ?_ _)); refine blk_far ?_ Z9.out _; (with_reducible repeat (first | refine zF ?_ _ | refine zH ?_ | refine zG ?_ _)); exact Z0.out⟩, ⟨by (with_reducible repeat (first | refine zF ?_ _ | refine zH ?_ | refine zG ?_ _)); refine blk_put (cs := #[.int .i64 ((rd_T74 l0_5 x68_3).f0), .int .i64 0]) ?_ 1 _ rfl; (with_reducible repeat (first | refine zF ?_ _ | refine zH ?_ | refine zG ?_ _)); refine blk_put (cs := #[.int .i64 0, .int .i64 0]) ?_ 0 _ rfl; (with_reducible repeat (first | refine zF ?_ _ | refine zH ?_ | refine zG ?_ _)); exact Z1.out⟩, ⟨by repeat (first | (with_reducible first | exact HB.out | apply zJ | apply zD | apply zE | refine zI ?_ Z3.out | refine zI ?_ Z4.out) | exact HB.out)⟩⟩
               ·rw [if_neg c43] at H
                have c43b0 : decide (a1 ≤ ((rd_T74 l0_5 x68_3).f0)) = false := yD c43
                clear c43
                by_cases c46 : ((rd_T74 l0_5 x68_3).f1) < (-1048576)
                ·rw [if_pos c46] at H
                 have c46b0 : decide (((rd_T74 l0_5 x68_3).f1) < (-1048576)) = true := yC c46
                 clear c46
                 have H' := zK H
                 clear H
                 have hnb47 := Z11.out
                 have hnc47 := Z9.out
                 have hcz48_0 : w37.cell? ⟨Z16, 0, none⟩ = some (.int .i64 0) := (zO Z1.out 0).trans rfl
                 have hcz48_1 : w37.cell? ⟨Z16, 1, none⟩ = some (.int .i64 0) := (zO Z1.out 1).trans rfl
                 have hfz48_0 := yE Z1.out 0
                 have hfz48_1 := yE Z1.out 1
                 go_wp2
                 go_meet
                 case rel => exact ⟨_, (true), (by first | rfl | (simp; done) | (simp [*]; done)), H', ⟨by have := HJ2.out; have := HJ14.out; have := HK3.out; first | omega | exact yN _⟩, ⟨by (with_reducible repeat (first | refine zF ?_ _ | refine zH ?_ | refine zG ?_ _)); refine blk_far ?_ Z9.out _; (with_reducible repeat (first | refine zF ?_ _ | refine zH ?_ | refine zG ?_ _)); refine blk_far ?_ Z9.out _; (with_reducible repeat (first | refine zF ?_ _ | refine zH ?_ | refine zG ?_ _)); exact Z0.out⟩, ⟨by (with_reducible repeat (first | refine zF ?_ _ | refine zH ?_ | refine zG ?_ _)); refine blk_put (cs := #[.int .i64 ((rd_T74 l0_5 x68_3).f0), .int .i64 0]) ?_ 1 _ rfl; (with_reducible repeat (first | refine zF ?_ _ | refine zH ?_ | refine zG ?_ _)); refine blk_put (cs := #[.int .i64 0, .int .i64 0]) ?_ 0 _ rfl; (with_reducible repeat (first | refine zF ?_ _ | refine zH ?_ | refine zG ?_ _)); exact Z1.out⟩, ⟨by repeat (first | (with_reducible first | exact HB.out | apply zJ | apply zD | apply zE | refine zI ?_ Z3.out | refine zI ?_ Z4.out) | exact HB.out)⟩⟩
                ·rw [if_neg c46] at H
                 have c46b0 : decide (((rd_T74 l0_5 x68_3).f1) < (-1048576)) = false := yD c46
                 clear c46
                 have H' := zK H
                 clear H
                 have hnb49 := Z11.out
                 have hnc49 := Z9.out
                 have hcz50_0 : w37.cell? ⟨Z16, 0, none⟩ = some (.int .i64 0) := (zO Z1.out 0).trans rfl
                 have hcz50_1 : w37.cell? ⟨Z16, 1, none⟩ = some (.int .i64 0) := (zO Z1.out 1).trans rfl
                 have hfz50_0 := yE Z1.out 0
                 have hfz50_1 := yE Z1.out 1
                 go_wp2
                 go_meet
                 case rel => exact ⟨_, (decide (((rd_T74 l0_5 x68_3).f1) > 1048576)), (by first | rfl | (simp; done) | (simp [*]; done)), H', ⟨by have := HJ2.out; have := HJ14.out; have := HK3.out; first | omega | exact yN _⟩, ⟨by (with_reducible repeat (first | refine zF ?_ _ | refine zH ?_ | refine zG ?_ _)); refine blk_far ?_ Z9.out _; (with_reducible repeat (first | refine zF ?_ _ | refine zH ?_ | refine zG ?_ _)); refine blk_far ?_ Z9.out _; (with_reducible repeat (first | refine zF ?_ _ | refine zH ?_ | refine zG ?_ _)); exact Z0.out⟩, ⟨by (with_reducible repeat (first | refine zF ?_ _ | refine zH ?_ | refine zG ?_ _)); refine blk_put (cs := #[.int .i64 ((rd_T74 l0_5 x68_3).f0), .int .i64 0]) ?_ 1 _ rfl; (with_reducible repeat (first | refine zF ?_ _ | refine zH ?_ | refine zG ?_ _)); refine blk_put (cs := #[.int .i64 0, .int .i64 0]) ?_ 0 _ rfl; (with_reducible repeat (first | refine zF ?_ _ | refine zH ?_ | refine zG ?_ _)); exact Z1.out⟩, ⟨by repeat (first | (with_reducible first | exact HB.out | apply zJ | apply zD | apply zE | refine zI ?_ Z3.out | refine zI ?_ Z4.out) | exact HB.out)⟩⟩
             case rest =>
              clear HC36
              try clear c1
              try clear c2
              try clear p2
              try clear q2
              try clear hx2
              try clear c3
              try clear c4
              try clear c5
              try clear c5b0
              try clear c6
              try clear c6b0
              try clear c7
              try clear c7b0
              try clear c9
              try clear c9b0
              try clear c11
              try clear c11b0
              try clear c14
              try clear c15
              try clear c16
              try clear c16b0
              try clear c18
              try clear c18b0
              try clear c20
              try clear c20b0
              try clear p20
              try clear q20
              try clear hx20
              try clear c22
              try clear c22b0
              try clear c25
              try clear c25b0
              try clear c25b1
              try clear c31
              try clear c33
              try clear c33b0
              try clear c34
              try clear c34b0
              try clear c35
              try clear c35b0
              try clear c38
              try clear c40
              try clear c40b0
              try clear c41
              try clear c43
              try clear c43b0
              try clear c44
              try clear c46
              try clear c46b0
              try clear c47
              try clear c49
              try clear hcz10_0
              try clear hcz10_1
              try clear hcz10_2
              try clear hcz10_3
              try clear hcz10_4
              try clear hcz10_5
              try clear hcz12_0
              try clear hcz12_1
              try clear hcz12_2
              try clear hcz12_3
              try clear hcz12_4
              try clear hcz12_5
              try clear hcz13_0
              try clear hcz13_1
              try clear hcz13_2
              try clear hcz13_3
              try clear hcz13_4
              try clear hcz13_5
              try clear hcz17_0
              try clear hcz17_1
              try clear hcz17_2
              try clear hcz17_3
              try clear hcz17_4
              try clear hcz17_5
              try clear hcz19_0
              try clear hcz19_1
              try clear hcz19_2
              try clear hcz19_3
              try clear hcz19_4
              try clear hcz19_5
              try clear hcz21_0
              try clear hcz21_1
              try clear hcz21_2
              try clear hcz21_3
              try clear hcz21_4
              try clear hcz21_5
              try clear hcz23_0
              try clear hcz23_1
              try clear hcz23_2
              try clear hcz23_3
              try clear hcz23_4
              try clear hcz23_5
              try clear hcz26_0
              try clear hcz26_1
              try clear hcz26_2
              try clear hcz26_3
              try clear hcz26_4
              try clear hcz26_5
              try clear hcz28_0
              try clear hcz28_1
              try clear hcz28_2
              try clear hcz28_3
              try clear hcz28_4
              try clear hcz28_5
              try clear hcz30_0
              try clear hcz30_1
              try clear hcz30_2
              try clear hcz30_3
              try clear hcz30_4
              try clear hcz30_5
              try clear hcz32_0
              try clear hcz32_1
              try clear hcz32_2
              try clear hcz32_3
              try clear hcz32_4
              try clear hcz32_5
              try clear hcz39_0
              try clear hcz39_1
              try clear hcz42_0
              try clear hcz42_1
              try clear hcz45_0
              try clear hcz45_1
              try clear hcz48_0
              try clear hcz48_1
              try clear hcz50_0
              try clear hcz50_1
              try clear hcz8_0
              try clear hcz8_1
              try clear hcz8_2
              try clear hcz8_3
              try clear hcz8_4
              try clear hcz8_5
              try clear hfz10_0
              try clear hfz10_1
              try clear hfz10_2
              try clear hfz10_3
              try clear hfz10_4
              try clear hfz10_5
              try clear hfz12_0
              try clear hfz12_1
              try clear hfz12_2
              try clear hfz12_3
              try clear hfz12_4
              try clear hfz12_5
              try clear hfz13_0
              try clear hfz13_1
              try clear hfz13_2
              try clear hfz13_3
              try clear hfz13_4
              try clear hfz13_5
              try clear hfz17_0
              try clear hfz17_1
              try clear hfz17_2
              try clear hfz17_3
              try clear hfz17_4
              try clear hfz17_5
              try clear hfz19_0
              try clear hfz19_1
              try clear hfz19_2
              try clear hfz19_3
              try clear hfz19_4
              try clear hfz19_5
              try clear hfz21_0
              try clear hfz21_1
              try clear hfz21_2
              try clear hfz21_3
              try clear hfz21_4
              try clear hfz21_5
              try clear hfz23_0
              try clear hfz23_1
              try clear hfz23_2
              try clear hfz23_3
              try clear hfz23_4
              try clear hfz23_5
              try clear hfz26_0
              try clear hfz26_1
              try clear hfz26_2
              try clear hfz26_3
              try clear hfz26_4
              try clear hfz26_5
              try clear hfz28_0
              try clear hfz28_1
              try clear hfz28_2
              try clear hfz28_3
              try clear hfz28_4
              try clear hfz28_5
              try clear hfz30_0
              try clear hfz30_1
              try clear hfz30_2
              try clear hfz30_3
              try clear hfz30_4
              try clear hfz30_5
              try clear hfz32_0
              try clear hfz32_1
              try clear hfz32_2
              try clear hfz32_3
              try clear hfz32_4
              try clear hfz32_5
              try clear hfz39_0
              try clear hfz39_1
              try clear hfz42_0
              try clear hfz42_1
              try clear hfz45_0
              try clear hfz45_1
              try clear hfz48_0
              try clear hfz48_1
              try clear hfz50_0
              try clear hfz50_1
              try clear hfz8_0
              try clear hfz8_1
              try clear hfz8_2
              try clear hfz8_3
              try clear hfz8_4
              try clear hfz8_5
              try clear hx202_0
              try clear hx202_1
              try clear p2
              try clear p202
              try clear q202
              obtain ⟨kq, x91_35, rfl, HA, HJ35, Z0, Z1, HB⟩ := hcut
              cases kq with
              | zero => exact absurd HA.out (by simp [r22_Check.j3])
              | succ kj35 =>
               have H := HA.out
               clear HA
               simp only [r22_Check.j3] at H
               by_cases c51 : x91_35 = true
               ·subst c51
                have H1 : (some 220) = some r := by rw [if_pos rfl] at H; exact H
                clear H
                have H := H1
                clear H1
                obtain rfl := yY H
                go_wp2
                go_ret
                exact ⟨by first | rfl | (simp [errW_none, errW_some] <;> rfl) | (simp [*, errW_none, errW_some] <;> rfl), by repeat (first | (with_reducible first | exact HB.out | apply zJ | apply zD | apply zE | refine zI ?_ Z3.out | refine zI ?_ Z4.out) | exact HB.out)⟩
               ·replace c51 := yh.mpr c51
                subst c51
                have H1 : (if 0 ≤ x68_3 then (if x68_3 ≤ (l0_5.length : Int) then ((some (l0_5.take (x68_3 : Int).toNat : List (S74))).bind fun y204 => (r22_Check.l1 kj35 a1 l0_5 (l0_5.length : Int) x68_3 y204 (y204.length : Int) 0 a0_0 a0_1 a0_2 a0_3 a0_4 l0_5 ((rd_T74 l0_5 x68_3).f0) ((rd_T74 l0_5 x68_3).f1))) else (none)) else (none)) = some r := by rw [if_neg (show ¬ (false = true) by decide)] at H; exact H
                clear H
                have H := H1
                clear H1
                by_cases c52 : 0 ≤ x68_3
                ·rw [if_pos c52] at H
                 have c52b0 := yg c52
                 have c52b1 : decide (0 ≤ x68_3) = true := yC c52
                 clear c52
                 by_cases c53 : x68_3 ≤ (l0_5.length : Int)
                 ·rw [if_pos c53] at H
                  have c53b0 := yg c53
                  have c53b1 : decide (x68_3 ≤ (l0_5.length : Int)) = true := yC c53
                  clear c53
                  obtain ⟨y204, hy204⟩ : ∃ y_ : List (S74), y_ = (l0_5.take (x68_3 : Int).toNat) := ⟨_, rfl⟩
                  replace H : (r22_Check.l1 kj35 a1 l0_5 (l0_5.length : Int) x68_3 y204 (y204.length : Int) 0 a0_0 a0_1 a0_2 a0_3 a0_4 l0_5 ((rd_T74 l0_5 x68_3).f0) ((rd_T74 l0_5 x68_3).f1)) = some r := by first | (rw [hy204]; with_reducible exact H) | (have H2_ := (yV _ _).symm.trans H; rw [hy204]; with_reducible exact H2_) | (have H2_ := (yV _ _).symm.trans H; with_reducible exact H2_) | with_reducible exact H | (rw [hy204]; exact H) | exact H
                  have Ny204 := zK hy204
                  clear hy204
                  have H' := zK H
                  clear H
                  have hnb54 := Z9.out
                  have hnc54 := Z11.out
                  have hcz55_0 : wc.cell? ⟨Z15, 0, none⟩ = some (.int .i64 a0_0) := (zO Z0.out 0).trans rfl
                  have hcz55_1 : wc.cell? ⟨Z15, 1, none⟩ = some (.int .i64 a0_1) := (zO Z0.out 1).trans rfl
                  have hcz55_2 : wc.cell? ⟨Z15, 2, none⟩ = some (.int .i64 a0_2) := (zO Z0.out 2).trans rfl
                  have hcz55_3 : wc.cell? ⟨Z15, 3, none⟩ = some (.int .i64 a0_3) := (zO Z0.out 3).trans rfl
                  have hcz55_4 : wc.cell? ⟨Z15, 4, none⟩ = some (.int .i64 a0_4) := (zO Z0.out 4).trans rfl
                  have hcz55_5 : wc.cell? ⟨Z15, 5, none⟩ = some (.slice (some ad202) l0_5.length c0_5) := (zO Z0.out 5).trans rfl
                  have hfz55_0 := yE Z0.out 0
                  have hfz55_1 := yE Z0.out 1
                  have hfz55_2 := yE Z0.out 2
                  have hfz55_3 := yE Z0.out 3
                  have hfz55_4 := yE Z0.out 4
                  have hfz55_5 := yE Z0.out 5
                  have q56 : (x68_3 : Int) ≤ ((l0_5.length : Int) : Int) := yB (by first | (with_reducible assumption) | assumption)
                  obtain ⟨i056, hi056, _, hsz56, _⟩ := yj info74
                  have hroom56 : l0_5.length ≤ c0_5 := HC0_5.out
                  have hC56 : Kd.C k74 _ (some ad202) l0_5.length l0_5 := HR0_5.out
                  have hcut56 := cut_to (P := Try.prog) 29 74 .i64 Try.underlying29 hi056 (some ad202) l0_5.length c0_5 x68_3 (yB (by first | (with_reducible assumption) | assumption)) q56 hroom56
                  have hr56 := Kd.C_take (m := (x68_3 : Int).toNat) hC56 (by omega)
                  have hy56 : y204.length = (x68_3 : Int).toNat := (by rw [Ny204.out, yF]; omega)
                  rw [← Ny204.out] at hr56
                  rw [← hy56] at hcut56
                  have HR207 := zK hr56
                  have HC207 := zK (show y204.length ≤ c0_5 from by omega)
                  clear hr56 hC56 hroom56 hi056 hsz56
                  have KY56 := zK hy56
                  clear hy56
                  replace q56 := yg q56
                  go_wp2
                  go_loopg [97] kj35 (fun kq v97 w' => ∃ (x97_5 : Int), v97 = .int .i64 x97_5 ∧ Aside0 (r22_Check.l1 kq a1 l0_5 (l0_5.length : Int) x68_3 y204 (y204.length : Int) x97_5 a0_0 a0_1 a0_2 a0_3 a0_4 l0_5 ((rd_T74 l0_5 x68_3).f0) ((rd_T74 l0_5 x68_3).f1) = some r) ∧ Aside0 (kq ≤ kj35) ∧ Aside0 (w'.heap[Z15]? = some (.cells #[.int .i64 a0_0, .int .i64 a0_1, .int .i64 a0_2, .int .i64 a0_3, .int .i64 a0_4, (.slice (some ad202) l0_5.length c0_5)] 31 (0, 0))) ∧ Aside0 (w'.heap[Z16]? = some (.cells #[.int .i64 ((rd_T74 l0_5 x68_3).f0), .int .i64 ((rd_T74 l0_5 x68_3).f1)] 74 (0, 0))) ∧ Aside0 (Below w.heap.size w w'))
                  case atStart => exact ⟨(0), (by first | rfl | (simp; done) | (simp [*]; done)), H', ⟨yN _⟩, ⟨by (with_reducible repeat (first | refine zF ?_ _ | refine zH ?_ | refine zG ?_ _)); exact Z0.out⟩, ⟨by (with_reducible repeat (first | refine zF ?_ _ | refine zH ?_ | refine zG ?_ _)); exact Z1.out⟩, ⟨by repeat (first | (with_reducible first | exact HB.out | apply zJ | apply zD | apply zE | refine zI ?_ Z3.out | refine zI ?_ Z4.out) | exact HB.out)⟩⟩
                  case round =>
                   clear H'
                   try clear c1
                   try clear c2
                   try clear p2
                   try clear q2
                   try clear hx2
                   try clear c3
                   try clear c4
                   try clear c5
                   try clear c5b0
                   try clear q5
                   try clear c6
                   try clear c6b0
                   try clear c7
                   try clear c7b0
                   try clear c9
                   try clear c9b0
                   try clear c11
                   try clear c11b0
                   try clear c14
                   try clear c15
                   try clear c16
                   try clear c16b0
                   try clear c18
                   try clear c18b0
                   try clear c20
                   try clear c20b0
                   try clear p20
                   try clear q20
                   try clear hx20
                   try clear c22
                   try clear c22b0
                   try clear c25
                   try clear c25b0
                   try clear c25b1
                   try clear c31
                   try clear c33
                   try clear c33b0
                   try clear c34
                   try clear c34b0
                   try clear c35
                   try clear c35b0
                   try clear c38
                   try clear c40
                   try clear c40b0
                   try clear c41
                   try clear c43
                   try clear c43b0
                   try clear c44
                   try clear c46
                   try clear c46b0
                   try clear c47
                   try clear c49
                   try clear c51
                   try clear c52
                   try clear c52b0
                   try clear c52b1
                   try clear c53
                   try clear c53b0
                   try clear c53b1
                   try clear c54
                   try clear q56
                   try clear hcz10_0
                   try clear hcz10_1
                   try clear hcz10_2
                   try clear hcz10_3
                   try clear hcz10_4
                   try clear hcz10_5
                   try clear hcz12_0
                   try clear hcz12_1
                   try clear hcz12_2
                   try clear hcz12_3
                   try clear hcz12_4
                   try clear hcz12_5
                   try clear hcz13_0
                   try clear hcz13_1
                   try clear hcz13_2
                   try clear hcz13_3
                   try clear hcz13_4
                   try clear hcz13_5
                   try clear hcz17_0
                   try clear hcz17_1
                   try clear hcz17_2
                   try clear hcz17_3
                   try clear hcz17_4
                   try clear hcz17_5
                   try clear hcz19_0
                   try clear hcz19_1
                   try clear hcz19_2
                   try clear hcz19_3
                   try clear hcz19_4
                   try clear hcz19_5
                   try clear hcz21_0
                   try clear hcz21_1
                   try clear hcz21_2
                   try clear hcz21_3
                   try clear hcz21_4
                   try clear hcz21_5
                   try clear hcz23_0
                   try clear hcz23_1
                   try clear hcz23_2
                   try clear hcz23_3
                   try clear hcz23_4
                   try clear hcz23_5
                   try clear hcz26_0
                   try clear hcz26_1
                   try clear hcz26_2
                   try clear hcz26_3
                   try clear hcz26_4
                   try clear hcz26_5
                   try clear hcz28_0
                   try clear hcz28_1
                   try clear hcz28_2
                   try clear hcz28_3
                   try clear hcz28_4
                   try clear hcz28_5
                   try clear hcz30_0
                   try clear hcz30_1
                   try clear hcz30_2
                   try clear hcz30_3
                   try clear hcz30_4
                   try clear hcz30_5
                   try clear hcz32_0
                   try clear hcz32_1
                   try clear hcz32_2
                   try clear hcz32_3
                   try clear hcz32_4
                   try clear hcz32_5
                   try clear hcz39_0
                   try clear hcz39_1
                   try clear hcz42_0
                   try clear hcz42_1
                   try clear hcz45_0
                   try clear hcz45_1
                   try clear hcz48_0
                   try clear hcz48_1
                   try clear hcz50_0
                   try clear hcz50_1
                   try clear hcz55_0
                   try clear hcz55_1
                   try clear hcz55_2
                   try clear hcz55_3
                   try clear hcz55_4
                   try clear hcz55_5
                   try clear hcz8_0
                   try clear hcz8_1
                   try clear hcz8_2
                   try clear hcz8_3
                   try clear hcz8_4
                   try clear hcz8_5
                   try clear hfz10_0
                   try clear hfz10_1
                   try clear hfz10_2
                   try clear hfz10_3
                   try clear hfz10_4
                   try clear hfz10_5
                   try clear hfz12_0
                   try clear hfz12_1
                   try clear hfz12_2
                   try clear hfz12_3
                   try clear hfz12_4
                   try clear hfz12_5
                   try clear hfz13_0
                   try clear hfz13_1
                   try clear hfz13_2
                   try clear hfz13_3
                   try clear hfz13_4
                   try clear hfz13_5
                   try clear hfz17_0
                   try clear hfz17_1
                   try clear hfz17_2
                   try clear hfz17_3
                   try clear hfz17_4
                   try clear hfz17_5
                   try clear hfz19_0
                   try clear hfz19_1
                   try clear hfz19_2
                   try clear hfz19_3
                   try clear hfz19_4
                   try clear hfz19_5
                   try clear hfz21_0
                   try clear hfz21_1
                   try clear hfz21_2
                   try clear hfz21_3
                   try clear hfz21_4
                   try clear hfz21_5
                   try clear hfz23_0
                   try clear hfz23_1
                   try clear hfz23_2
                   try clear hfz23_3
                   try clear hfz23_4
                   try clear hfz23_5
                   try clear hfz26_0
                   try clear hfz26_1
                   try clear hfz26_2
                   try clear hfz26_3
                   try clear hfz26_4
                   try clear hfz26_5
                   try clear hfz28_0
                   try clear hfz28_1
                   try clear hfz28_2
                   try clear hfz28_3
                   try clear hfz28_4
                   try clear hfz28_5
                   try clear hfz30_0
                   try clear hfz30_1
                   try clear hfz30_2
                   try clear hfz30_3
                   try clear hfz30_4
                   try clear hfz30_5
                   try clear hfz32_0
                   try clear hfz32_1
                   try clear hfz32_2
                   try clear hfz32_3
                   try clear hfz32_4
                   try clear hfz32_5
                   try clear hfz39_0
                   try clear hfz39_1
                   try clear hfz42_0
                   try clear hfz42_1
                   try clear hfz45_0
                   try clear hfz45_1
                   try clear hfz48_0
                   try clear hfz48_1
                   try clear hfz50_0
                   try clear hfz50_1
                   try clear hfz55_0
                   try clear hfz55_1
                   try clear hfz55_2
                   try clear hfz55_3
                   try clear hfz55_4
                   try clear hfz55_5
                   try clear hfz8_0
                   try clear hfz8_1
                   try clear hfz8_2
                   try clear hfz8_3
                   try clear hfz8_4
                   try clear hfz8_5
                   try clear hx202_0
                   try clear hx202_1
                   try clear p2
                   try clear p20
                   try clear p202
                   try clear q2
                   try clear q20
                   try clear q202
                   try clear q56
                   obtain ⟨x97_5, rfl, HA, HK5, Z0, Z1, HB⟩ := hrel
                   cases gk with
                   | zero => exact absurd HA.out (by simp [r22_Check.l1])
                   | succ k5 =>
                    have H := HA.out
                    clear HA
                    simp only [r22_Check.l1] at H
                    by_cases c57 : x97_5 < (y204.length : Int)
                    ·rw [if_pos c57] at H
                     have c57b0 : decide (x97_5 < (y204.length : Int)) = true := yC c57
                     clear c57
                     by_cases c58 : 0 ≤ x97_5
                     ·rw [if_pos c58] at H
                      have c58b0 : decide (0 ≤ x97_5) = true := yC c58
                      clear c58
                      by_cases c59 : x97_5 < (y204.length : Int)
                      ·rw [if_pos c59] at H
                       have c59b0 : decide (x97_5 < (y204.length : Int)) = true := yC c59
                       clear c59
                       by_cases c60 : ((rd_T74 y204 x97_5).f0) = ((rd_T74 l0_5 x68_3).f0)
                       ·rw [if_pos c60] at H
                        have c60b0 : (((rd_T74 y204 x97_5).f0) == ((rd_T74 l0_5 x68_3).f0)) = true := beq_iff_eq.mpr c60
                        have c60b1 : (((rd_T74 y204 x97_5).f0) != ((rd_T74 l0_5 x68_3).f0)) = false := bne_eq_false_iff_eq.mpr c60
                        clear c60
                        obtain rfl := yY H
                        have p208 : 0 ≤ (x97_5 : Int) := yB (by first | (with_reducible assumption) | assumption)
                        have q208 : x97_5 < (y204.length : Int) := yB (by first | (with_reducible assumption) | assumption)
                        obtain ⟨ad208, e208, hx208_0, hx208_1⟩ := at_T74 HR207.out x97_5 p208 q208
                        obtain rfl : ad202 = ad208 := (by injection e208)
                        replace hx208_0 := (HB.out.cell (World.block_lt_of_cell? w _ hx208_0)).trans hx208_0
                        replace hx208_1 := (HB.out.cell (World.block_lt_of_cell? w _ hx208_1)).trans hx208_1
                        replace p208 := yg p208
                        replace q208 := yg q208
                        go_wp2_with (first | ((with_reducible refine gate_dst (N := 8) rfl ?_); refine box_event ?hg (N := 8) ?hd (cs := #[.int .i64 0, .int .i64 0]) (t := 74) ?hr ?_; (case hd => rfl); (case hg => rfl); (case hr => first | (go_simp; done) | (go_simp; rfl)); intro Z17 hg w61 hbox hb; have n0_ := zK (zP (g := Z15) (o := .cells #[.int .i64 a0_0, .int .i64 a0_1, .int .i64 a0_2, .int .i64 a0_3, .int .i64 a0_4, .slice (some ad202) l0_5.length c0_5] 31 (0, 0)) (by (with_reducible repeat (first | refine zF ?_ _ | refine zH ?_ | refine zG ?_ _)); exact Z0.out) hb); have n1_ := zK (zP (g := Z16) (o := .cells #[.int .i64 ((rd_T74 l0_5 x68_3).f0), .int .i64 ((rd_T74 l0_5 x68_3).f1)] 74 (0, 0)) (by (with_reducible repeat (first | refine zF ?_ _ | refine zH ?_ | refine zG ?_ _)); exact Z1.out) hb); have n2_ := zK (yL (by repeat (first | (with_reducible first | exact HB.out | apply zJ | apply zD | apply zE | refine zI ?_ Z3.out | refine zI ?_ Z4.out) | exact HB.out)) hb); have n3_ := zK (hbox); have n4_ := zK ((by rw [hg]; exact (yK (by repeat (first | (with_reducible first | exact HB.out | apply zJ | apply zD | apply zE | refine zI ?_ Z3.out | refine zI ?_ Z4.out) | exact HB.out))) : w.heap.size ≤ Z17)); have n5_ := zK ((by rw [hg]; exact (yK (by repeat (first | (with_reducible first | exact HB.out | apply zJ | apply zD | apply zE | refine zI ?_ Z3.out | refine zI ?_ Z4.out) | exact HB.out))) : w.heap.size ≤ Z17)); have n6_ := zK ((by rw [hg]; exact ym (yo (g := Z15) (o := .cells #[.int .i64 a0_0, .int .i64 a0_1, .int .i64 a0_2, .int .i64 a0_3, .int .i64 a0_4, .slice (some ad202) l0_5.length c0_5] 31 (0, 0)) (by (with_reducible repeat (first | refine zF ?_ _ | refine zH ?_ | refine zG ?_ _)); exact Z0.out)) : Z15 ≠ Z17)); have n7_ := zK ((by rw [hg]; exact yn (yo (g := Z15) (o := .cells #[.int .i64 a0_0, .int .i64 a0_1, .int .i64 a0_2, .int .i64 a0_3, .int .i64 a0_4, .slice (some ad202) l0_5.length c0_5] 31 (0, 0)) (by (with_reducible repeat (first | refine zF ?_ _ | refine zH ?_ | refine zG ?_ _)); exact Z0.out)) : Z17 ≠ Z15)); have n8_ := zK ((by rw [hg]; exact ym (yo (g := Z16) (o := .cells #[.int .i64 ((rd_T74 l0_5 x68_3).f0), .int .i64 ((rd_T74 l0_5 x68_3).f1)] 74 (0, 0)) (by (with_reducible repeat (first | refine zF ?_ _ | refine zH ?_ | refine zG ?_ _)); exact Z1.out)) : Z16 ≠ Z17)); have n9_ := zK ((by rw [hg]; exact yn (yo (g := Z16) (o := .cells #[.int .i64 ((rd_T74 l0_5 x68_3).f0), .int .i64 ((rd_T74 l0_5 x68_3).f1)] 74 (0, 0)) (by (with_reducible repeat (first | refine zF ?_ _ | refine zH ?_ | refine zG ?_ _)); exact Z1.out)) : Z17 ≠ Z16)); clear Z0 Z1 HB; have Z0 := n0_; have Z1 := n1_; have HB := n2_; have Z2 := n3_; have Z8 := n4_; have Z5 := n5_; have Z10 := n6_; have Z13 := n7_; have Z12 := n8_; have Z14 := n9_; clear n0_ n1_ n2_ n3_ n4_ n5_ n6_ n7_ n8_ n9_ hb hbox hg; have hnb62 := Z13.out; have hnc62 := Z10.out; have hnb63 := Z14.out; have hnc63 := Z12.out; have hcz64_0 : w61.cell? ⟨Z17, 0, none⟩ = some (.int .i64 0) := (zO Z2.out 0).trans rfl; have hcz64_1 : w61.cell? ⟨Z17, 1, none⟩ = some (.int .i64 0) := (zO Z2.out 1).trans rfl; have hfz64_0 := yE Z2.out 0; have hfz64_1 := yE Z2.out 1; have hnb65 := Z11.out; have hnc65 := Z9.out; have hcz66_0 : w61.cell? ⟨Z16, 0, none⟩ = some (.int .i64 ((rd_T74 l0_5 x68_3).f0)) := (zO Z1.out 0).trans rfl; have hcz66_1 : w61.cell? ⟨Z16, 1, none⟩ = some (.int .i64 ((rd_T74 l0_5 x68_3).f1)) := (zO Z1.out 1).trans rfl; have hfz66_0 := yE Z1.out 0; have hfz66_1 := yE Z1.out 1))
                        go_ret
                        exact ⟨by first | rfl | (simp [errW_none, errW_some] <;> rfl) | (simp [*, errW_none, errW_some] <;> rfl), by repeat (first | (with_reducible first | exact HB.out | apply zJ | apply zD | apply zE | refine zI ?_ Z3.out | refine zI ?_ Z4.out | refine zI ?_ Z5.out) | exact HB.out)⟩
                       ·rw [if_neg c60] at H
                        have c60b0 : (((rd_T74 y204 x97_5).f0) == ((rd_T74 l0_5 x68_3).f0)) = false := beq_eq_false_iff_ne.mpr c60
                        have c60b1 : (((rd_T74 y204 x97_5).f0) != ((rd_T74 l0_5 x68_3).f0)) = true := bne_iff_ne.mpr c60
                        have H' := zK H
                        clear H
                        have p208 : 0 ≤ (x97_5 : Int) := yB (by first | (with_reducible assumption) | assumption)
                        have q208 : x97_5 < (y204.length : Int) := yB (by first | (with_reducible assumption) | assumption)
                        obtain ⟨ad208, e208, hx208_0, hx208_1⟩ := at_T74 HR207.out x97_5 p208 q208
                        obtain rfl : ad202 = ad208 := (by injection e208)
                        replace hx208_0 := (HB.out.cell (World.block_lt_of_cell? w _ hx208_0)).trans hx208_0
                        replace hx208_1 := (HB.out.cell (World.block_lt_of_cell? w _ hx208_1)).trans hx208_1
                        replace p208 := yg p208
                        replace q208 := yg q208
                        go_wp2_with (first | ((with_reducible refine gate_dst (N := 8) rfl ?_); refine box_event ?hg (N := 8) ?hd (cs := #[.int .i64 0, .int .i64 0]) (t := 74) ?hr ?_; (case hd => rfl); (case hg => rfl); (case hr => first | (go_simp; done) | (go_simp; rfl)); intro Z17 hg w67 hbox hb; have n0_ := zK (zP (g := Z15) (o := .cells #[.int .i64 a0_0, .int .i64 a0_1, .int .i64 a0_2, .int .i64 a0_3, .int .i64 a0_4, .slice (some ad202) l0_5.length c0_5] 31 (0, 0)) (by (with_reducible repeat (first | refine zF ?_ _ | refine zH ?_ | refine zG ?_ _)); exact Z0.out) hb); have n1_ := zK (zP (g := Z16) (o := .cells #[.int .i64 ((rd_T74 l0_5 x68_3).f0), .int .i64 ((rd_T74 l0_5 x68_3).f1)] 74 (0, 0)) (by (with_reducible repeat (first | refine zF ?_ _ | refine zH ?_ | refine zG ?_ _)); exact Z1.out) hb); have n2_ := zK (yL (by repeat (first | (with_reducible first | exact HB.out | apply zJ | apply zD | apply zE | refine zI ?_ Z3.out | refine zI ?_ Z4.out) | exact HB.out)) hb); have n3_ := zK (hbox); have n4_ := zK ((by rw [hg]; exact (yK (by repeat (first | (with_reducible first | exact HB.out | apply zJ | apply zD | apply zE | refine zI ?_ Z3.out | refine zI ?_ Z4.out) | exact HB.out))) : w.heap.size ≤ Z17)); have n5_ := zK ((by rw [hg]; exact (yK (by repeat (first | (with_reducible first | exact HB.out | apply zJ | apply zD | apply zE | refine zI ?_ Z3.out | refine zI ?_ Z4.out) | exact HB.out))) : w.heap.size ≤ Z17)); have n6_ := zK ((by rw [hg]; exact ym (yo (g := Z15) (o := .cells #[.int .i64 a0_0, .int .i64 a0_1, .int .i64 a0_2, .int .i64 a0_3, .int .i64 a0_4, .slice (some ad202) l0_5.length c0_5] 31 (0, 0)) (by (with_reducible repeat (first | refine zF ?_ _ | refine zH ?_ | refine zG ?_ _)); exact Z0.out)) : Z15 ≠ Z17)); have n7_ := zK ((by rw [hg]; exact yn (yo (g := Z15) (o := .cells #[.int .i64 a0_0, .int .i64 a0_1, .int .i64 a0_2, .int .i64 a0_3, .int .i64 a0_4, .slice (some ad202) l0_5.length c0_5] 31 (0, 0)) (by (with_reducible repeat (first | refine zF ?_ _ | refine zH ?_ | refine zG ?_ _)); exact Z0.out)) : Z17 ≠ Z15)); have n8_ := zK ((by rw [hg]; exact ym (yo (g := Z16) (o := .cells #[.int .i64 ((rd_T74 l0_5 x68_3).f0), .int .i64 ((rd_T74 l0_5 x68_3).f1)] 74 (0, 0)) (by (with_reducible repeat (first | refine zF ?_ _ | refine zH ?_ | refine zG ?_ _)); exact Z1.out)) : Z16 ≠ Z17)); have n9_ := zK ((by rw [hg]; exact yn (yo (g := Z16) (o := .cells #[.int .i64 ((rd_T74 l0_5 x68_3).f0), .int .i64 ((rd_T74 l0_5 x68_3).f1)] 74 (0, 0)) (by (with_reducible repeat (first | refine zF ?_ _ | refine zH ?_ | refine zG ?_ _)); exact Z1.out)) : Z17 ≠ Z16)); clear Z0 Z1 HB; have Z0 := n0_; have Z1 := n1_; have HB := n2_; have Z2 := n3_; have Z8 := n4_; have Z5 := n5_; have Z10 := n6_; have Z13 := n7_; have Z12 := n8_; have Z14 := n9_; clear n0_ n1_ n2_ n3_ n4_ n5_ n6_ n7_ n8_ n9_ hb hbox hg; have hnb68 := Z13.out; have hnc68 := Z10.out; have hnb69 := Z14.out; have hnc69 := Z12.out; have hcz70_0 : w67.cell? ⟨Z17, 0, none⟩ = some (.int .i64 0) := (zO Z2.out 0).trans rfl; have hcz70_1 : w67.cell? ⟨Z17, 1, none⟩ = some (.int .i64 0) := (zO Z2.out 1).trans rfl; have hfz70_0 := yE Z2.out 0; have hfz70_1 := yE Z2.out 1; have hnb71 := Z11.out; have hnc71 := Z9.out; have hcz72_0 : w67.cell? ⟨Z16, 0, none⟩ = some (.int .i64 ((rd_T74 l0_5 x68_3).f0)) := (zO Z1.out 0).trans rfl; have hcz72_1 : w67.cell? ⟨Z16, 1, none⟩ = some (.int .i64 ((rd_T74 l0_5 x68_3).f1)) := (zO Z1.out 1).trans rfl; have hfz72_0 := yE Z1.out 0; have hfz72_1 := yE Z1.out 1))
                        go_roundg k5
                        case measure => have := HJ2.out; have := HJ14.out; have := HK3.out; have := HJ35.out; have := HK5.out; omega
                        case rel => exact ⟨(wrap64 (x97_5 + 1)), (by first | rfl | (simp; done) | (simp [*]; done)), H', ⟨by have := HJ2.out; have := HJ14.out; have := HK3.out; have := HJ35.out; have := HK5.out; omega⟩, ⟨by (with_reducible repeat (first | refine zF ?_ _ | refine zH ?_ | refine zG ?_ _)); refine blk_far ?_ Z10.out _; (with_reducible repeat (first | refine zF ?_ _ | refine zH ?_ | refine zG ?_ _)); refine blk_far ?_ Z10.out _; (with_reducible repeat (first | refine zF ?_ _ | refine zH ?_ | refine zG ?_ _)); exact Z0.out⟩, ⟨by (with_reducible repeat (first | refine zF ?_ _ | refine zH ?_ | refine zG ?_ _)); refine blk_far ?_ Z12.out _; (with_reducible repeat (first | refine zF ?_ _ | refine zH ?_ | refine zG ?_ _)); refine blk_far ?_ Z12.out _; (with_reducible repeat (first | refine zF ?_ _ | refine zH ?_ | refine zG ?_ _)); exact Z1.out⟩, ⟨by repeat (first | (with_reducible first | exact HB.out | apply zJ | apply zD | apply zE | refine zI ?_ Z3.out | refine zI ?_ Z4.out | refine zI ?_ Z5.out) | exact HB.out)⟩⟩
                      ·rw [if_neg c59] at H
                       exact absurd H (by simp)
                     ·rw [if_neg c58] at H
                      exact absurd H (by simp)
                    ·rw [if_neg c57] at H
                     have c57b0 : decide (x97_5 < (y204.length : Int)) = false := yD c57
                     clear c57
                     have H' := zK H
                     clear H
                     go_wp2
                     go_roundg k5
                     case measure => have := HJ2.out; have := HJ14.out; have := HK3.out; have := HJ35.out; have := HK5.out; omega
                     case rel => exact ⟨(wrap64 (x68_3 + 1)), (by first | rfl | (simp; done) | (simp [*]; done)), H', ⟨by have := HJ2.out; have := HJ14.out; have := HK3.out; have := HJ35.out; have := HK5.out; omega⟩, ⟨by (with_reducible repeat (first | refine zF ?_ _ | refine zH ?_ | refine zG ?_ _)); exact Z0.out⟩, ⟨by repeat (first | (with_reducible first | exact HB.out | apply zJ | apply zD | apply zE | refine zI ?_ Z3.out | refine zI ?_ Z4.out) | exact HB.out)⟩⟩
                 ·rw [if_neg c53] at H
                  exact absurd H (by simp)
                ·rw [if_neg c52] at H
                 exact absurd H (by simp)
            ·rw [if_neg c35] at H
             exact absurd H (by simp)
           ·rw [if_neg c34] at H
            exact absurd H (by simp)
          ·rw [if_neg c33] at H
           have c33b0 : decide (x68_3 < (l0_5.length : Int)) = false := yD c33
           clear c33
           obtain rfl := yY H
           go_wp2
           go_ret
           exact ⟨by first | rfl | (simp [errW_none, errW_some] <;> rfl) | (simp [*, errW_none, errW_some] <;> rfl), by repeat (first | (with_reducible first | exact HB.out | apply zJ | apply zD | apply zE | refine zI ?_ Z3.out) | exact HB.out)⟩

end Go.Proofs.Ythmckhfjaleomaa.T
