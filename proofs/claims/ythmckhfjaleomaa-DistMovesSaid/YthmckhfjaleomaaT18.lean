-- Printed by this session's own driver (wip/tools/xprint.py) over the kit's printer; given functions are this session's own.
import Derived.Test.YthmckhfjaleomaaT0
namespace Go.Proofs.Ythmckhfjaleomaa.T
open Go.RowKit Go.Proofs.YthmckhfjaleomaaW.PrintWords Go.Proofs.YthmckhfjaleomaaW.PrintLast Go.Proofs.YthmckhfjaleomaaW.PrintMore
attribute [local go_sem] max2_int min2_int max_two min_two max_three min_three max_four min_four   -- for this text's walks alone
set_option linter.unusedVariables false
set_option linter.unusedSimpArgs false

/-! ### w22_score: function 24 -/
def w22_score.l0 : Nat → Int → Int → List (S46) → Int → Int → Option (Int)
  | 0, _, _, _, _, _ => none
  | k + 1, x2, x7, x16, x17, x18 => if x18 < x17 then (if 0 ≤ x18 then (if x18 < (x16.length : Int) then (if ((rd_T46 x16 x18).f0) = x2 then (w22_score.l0 k x2 (wrap64 (x7 + ((rd_T46 x16 x18).f1))) x16 x17 (wrap64 (x18 + 1))) else (w22_score.l0 k x2 x7 x16 x17 (wrap64 (x18 + 1)))) else (none)) else (none)) else (some x7)
def w22_score.f (k : Nat) (l0_0 : List Int) (l0_1 : List Bool) (a1_0 : Int) (a1_1 : Int) (a1_2 : Int) (a1_3 : Int) (a1_4 : Int) (l1_5 : List (S46)) (a2 : Int) : Option (Int) := if 0 ≤ a2 then (if a2 < (l0_0.length : Int) then (w22_score.l0 k a2 (rd l0_0 a2) l1_5 (l1_5.length : Int) 0) else (none)) else (none)
theorem w22_score.mono_l : ∀ k, (∀ y0 y1 y2 y3 y4, LeO (w22_score.l0 k y0 y1 y2 y3 y4) (w22_score.l0 (k + 1) y0 y1 y2 y3 y4))
  | 0 => fun _ _ _ _ _ r h => by simp [w22_score.l0] at h
  | k + 1 => by
    have ih0 := w22_score.mono_l k
    intros
    unfold w22_score.l0
    all_goals repeat' first
      | (with_reducible exact ih0 _ _ _ _ _)
      | (with_reducible exact yR _)
      | (with_reducible exact yO _)
      | (with_reducible refine yQ ?_ ?_)
      | (with_reducible refine yP ?_ (fun _ => ?_))
      | exact ih0 _ _ _ _ _
      | exact yO _
      | refine yQ ?_ ?_
      | refine yP ?_ (fun _ => ?_)
theorem w22_score.mono : ∀ a0 a1 a2 a3 a4 a5 a6 a7 a8 k, LeO (w22_score.f k a0 a1 a2 a3 a4 a5 a6 a7 a8) (w22_score.f (k + 1) a0 a1 a2 a3 a4 a5 a6 a7 a8) := by
  intro a0 a1 a2 a3 a4 a5 a6 a7 a8 k
  have ih0 := w22_score.mono_l k
  unfold w22_score.f
  repeat' first
      | (with_reducible exact ih0 _ _ _ _ _)
      | (with_reducible exact yR _)
      | (with_reducible exact yO _)
      | (with_reducible refine yQ ?_ ?_)
      | (with_reducible refine yP ?_ (fun _ => ?_))
      | exact ih0 _ _ _ _ _
      | exact yO _
      | refine yQ ?_ ?_
      | refine yP ?_ (fun _ => ?_)
set_option maxHeartbeats 8000000 in
set_option maxRecDepth 100000 in
theorem w22_score.calls (k : Nat) (A0_0 : Option Addr) (c0_0 : Nat) (l0_0 : List Int) (A0_1 : Option Addr) (c0_1 : Nat) (l0_1 : List Bool) (a1_0 : Int) (a1_1 : Int) (a1_2 : Int) (a1_3 : Int) (a1_4 : Int) (A1_5 : Option Addr) (c1_5 : Nat) (l1_5 : List (S46)) (a2 : Int) (r : Int) (w : World) (hr0_0 : Kd.C (Kd.int .i64) w A0_0 l0_0.length l0_0) (hc0_0 : l0_0.length ≤ c0_0) (hr0_1 : Kd.C Kd.bool w A0_1 l0_1.length l0_1) (hc0_1 : l0_1.length ≤ c0_1) (hr1_5 : Kd.C k46 w A1_5 l1_5.length l1_5) (hc1_5 : l1_5.length ≤ c1_5) (h : w22_score.f k l0_0 l0_1 a1_0 a1_1 a1_2 a1_3 a1_4 l1_5 a2 = some r) :
    Calls Try.prog 24 #[.agg #[.slice A0_0 l0_0.length c0_0, .slice A0_1 l0_1.length c0_1], .agg #[.int .i64 a1_0, .int .i64 a1_1, .int .i64 a1_2, .int .i64 a1_3, .int .i64 a1_4, .slice A1_5 l1_5.length c1_5], .int .i64 a2] w fun e w' => e = .returned (.int .i64 r) ∧ Below w.heap.size w w' := by
  have hu39 := Try.underlying39
  have hu24 := Try.underlying24
  have hu46 := Try.underlying46
  have HR0_0 := zK hr0_0
  have HC0_0 := zK hc0_0
  clear hr0_0 hc0_0
  have HR0_1 := zK hr0_1
  have HC0_1 := zK hc0_1
  clear hr0_1 hc0_1
  have HR1_5 := zK hr1_5
  have HC1_5 := zK hc1_5
  clear hr1_5 hc1_5
  have HB := zK (Below.refl w.heap.size w)
  have H : (if 0 ≤ a2 then (if a2 < (l0_0.length : Int) then (w22_score.l0 k a2 (rd l0_0 a2) l1_5 (l1_5.length : Int) 0) else (none)) else (none)) = some r := h
  clear h
  by_cases c4 : 0 ≤ a2
  ·rw [if_pos c4] at H
   have c4b0 : decide (0 ≤ a2) = true := yC c4
   clear c4
   by_cases c5 : a2 < (l0_0.length : Int)
   ·rw [if_pos c5] at H
    have c5b0 : decide (a2 < (l0_0.length : Int)) = true := yC c5
    clear c5
    have H' := zK H
    clear H
    go_enter Try.func24, Try.ntmps24
    go_wp2_with (first | ((with_reducible refine gate_dst (N := 3) rfl ?_); refine box_event ?hg (N := 3) ?hd (cs := #[.slice A0_0 l0_0.length c0_0, .slice A0_1 l0_1.length c0_1]) (t := 39) ?hr ?_; (case hd => rfl); (case hg => rfl); (case hr => first | (go_simp; done) | (go_simp; rfl)); intro Z15 hg w6 hbox hb; have n0_ := zK (yL (by repeat (first | (with_reducible first | exact HB.out | apply zJ | apply zD | apply zE) | exact HB.out)) hb); have n1_ := zK (hbox); have n2_ := zK ((by rw [hg]; exact (yK (by repeat (first | (with_reducible first | exact HB.out | apply zJ | apply zD | apply zE) | exact HB.out))) : w.heap.size ≤ Z15)); have n3_ := zK ((by rw [hg]; exact (yK (by repeat (first | (with_reducible first | exact HB.out | apply zJ | apply zD | apply zE) | exact HB.out))) : w.heap.size ≤ Z15)); clear HB; have HB := n0_; have Z0 := n1_; have Z6 := n2_; have Z3 := n3_; clear n0_ n1_ n2_ n3_ hb hbox hg) | ((with_reducible refine gate_dst (N := 4) rfl ?_); refine box_event ?hg (N := 4) ?hd (cs := #[.int .i64 a1_0, .int .i64 a1_1, .int .i64 a1_2, .int .i64 a1_3, .int .i64 a1_4, .slice A1_5 l1_5.length c1_5]) (t := 24) ?hr ?_; (case hd => rfl); (case hg => rfl); (case hr => first | (go_simp; done) | (go_simp; rfl)); intro Z16 hg w7 hbox hb; have n0_ := zK (zP (g := Z15) (o := .cells #[.slice A0_0 l0_0.length c0_0, .slice A0_1 l0_1.length c0_1] 39 (0, 0)) (by (with_reducible repeat (first | refine zF ?_ _ | refine zH ?_ | refine zG ?_ _)); exact Z0.out) hb); have n1_ := zK (yL (by repeat (first | (with_reducible first | exact HB.out | apply zJ | apply zD | apply zE | refine zI ?_ Z3.out) | exact HB.out)) hb); have n2_ := zK (hbox); have n3_ := zK ((by rw [hg]; exact (yK (by repeat (first | (with_reducible first | exact HB.out | apply zJ | apply zD | apply zE | refine zI ?_ Z3.out) | exact HB.out))) : w.heap.size ≤ Z16)); have n4_ := zK ((by rw [hg]; exact (yK (by repeat (first | (with_reducible first | exact HB.out | apply zJ | apply zD | apply zE | refine zI ?_ Z3.out) | exact HB.out))) : w.heap.size ≤ Z16)); have n5_ := zK ((by rw [hg]; exact ym (yo (g := Z15) (o := .cells #[.slice A0_0 l0_0.length c0_0, .slice A0_1 l0_1.length c0_1] 39 (0, 0)) (by (with_reducible repeat (first | refine zF ?_ _ | refine zH ?_ | refine zG ?_ _)); exact Z0.out)) : Z15 ≠ Z16)); have n6_ := zK ((by rw [hg]; exact yn (yo (g := Z15) (o := .cells #[.slice A0_0 l0_0.length c0_0, .slice A0_1 l0_1.length c0_1] 39 (0, 0)) (by (with_reducible repeat (first | refine zF ?_ _ | refine zH ?_ | refine zG ?_ _)); exact Z0.out)) : Z16 ≠ Z15)); clear Z0 HB; have Z0 := n0_; have HB := n1_; have Z1 := n2_; have Z7 := n3_; have Z4 := n4_; have Z9 := n5_; have Z11 := n6_; clear n0_ n1_ n2_ n3_ n4_ n5_ n6_ hb hbox hg; have hnb8 := Z9.out; have hnc8 := Z11.out; have hcz9_0 : w7.cell? ⟨Z15, 0, none⟩ = some (.slice A0_0 l0_0.length c0_0) := (zO Z0.out 0).trans rfl; have hcz9_1 : w7.cell? ⟨Z15, 1, none⟩ = some (.slice A0_1 l0_1.length c0_1) := (zO Z0.out 1).trans rfl; have hfz9_0 := yE Z0.out 0; have hfz9_1 := yE Z0.out 1; have p437 : 0 ≤ (a2 : Int) := yB (by first | (with_reducible assumption) | assumption); have q437 : a2 < (l0_0.length : Int) := yB (by first | (with_reducible assumption) | assumption); obtain ⟨ad437, e437, hx437_0⟩ := Kd.at_int HR0_0.out a2 p437 q437; cases e437; replace hx437_0 := (HB.out.cell (World.block_lt_of_cell? w _ hx437_0)).trans hx437_0; replace p437 := yg p437; replace q437 := yg q437; have hcz10_0 : w7.cell? ⟨Z16, 0, none⟩ = some (.int .i64 a1_0) := (zO Z1.out 0).trans rfl; have hcz10_1 : w7.cell? ⟨Z16, 1, none⟩ = some (.int .i64 a1_1) := (zO Z1.out 1).trans rfl; have hcz10_2 : w7.cell? ⟨Z16, 2, none⟩ = some (.int .i64 a1_2) := (zO Z1.out 2).trans rfl; have hcz10_3 : w7.cell? ⟨Z16, 3, none⟩ = some (.int .i64 a1_3) := (zO Z1.out 3).trans rfl; have hcz10_4 : w7.cell? ⟨Z16, 4, none⟩ = some (.int .i64 a1_4) := (zO Z1.out 4).trans rfl; have hcz10_5 : w7.cell? ⟨Z16, 5, none⟩ = some (.slice A1_5 l1_5.length c1_5) := (zO Z1.out 5).trans rfl; have hfz10_0 := yE Z1.out 0; have hfz10_1 := yE Z1.out 1; have hfz10_2 := yE Z1.out 2; have hfz10_3 := yE Z1.out 3; have hfz10_4 := yE Z1.out 4; have hfz10_5 := yE Z1.out 5))
    go_loopg [7, 18] k (fun kq v7 v18 w' => ∃ (x7_1 : Int) (x18_1 : Int), v7 = .int .i64 x7_1 ∧ v18 = .int .i64 x18_1 ∧ Aside0 (w22_score.l0 kq a2 x7_1 l1_5 (l1_5.length : Int) x18_1 = some r) ∧ Aside0 (kq ≤ k) ∧ Aside0 (w'.heap[Z15]? = some (.cells #[(.slice (some ad437) l0_0.length c0_0), (.slice A0_1 l0_1.length c0_1)] 39 (0, 0))) ∧ Aside0 (w'.heap[Z16]? = some (.cells #[.int .i64 a1_0, .int .i64 a1_1, .int .i64 a1_2, .int .i64 a1_3, .int .i64 a1_4, (.slice A1_5 l1_5.length c1_5)] 24 (0, 0))) ∧ Aside0 (Below w.heap.size w w'))
    case atStart => exact ⟨(rd l0_0 a2), (0), (by first | rfl | (simp; done) | (simp [*]; done)), (by first | rfl | (simp; done) | (simp [*]; done)), H', ⟨yN _⟩, ⟨by (with_reducible repeat (first | refine zF ?_ _ | refine zH ?_ | refine zG ?_ _)); exact Z0.out⟩, ⟨by (with_reducible repeat (first | refine zF ?_ _ | refine zH ?_ | refine zG ?_ _)); exact Z1.out⟩, ⟨by repeat (first | (with_reducible first | exact HB.out | apply zJ | apply zD | apply zE | refine zI ?_ Z3.out | refine zI ?_ Z4.out) | exact HB.out)⟩⟩
    case round =>
     clear H'
     try clear c1
     try clear c2
     try clear p2
     try clear c4
     try clear c4b0
     try clear p4
     try clear q4
     try clear hx4
     try clear c5
     try clear c5b0
     try clear c8
     try clear hcz10_0
     try clear hcz10_1
     try clear hcz10_2
     try clear hcz10_3
     try clear hcz10_4
     try clear hcz10_5
     try clear hcz9_0
     try clear hcz9_1
     try clear hfz10_0
     try clear hfz10_1
     try clear hfz10_2
     try clear hfz10_3
     try clear hfz10_4
     try clear hfz10_5
     try clear hfz9_0
     try clear hfz9_1
     try clear hx437_0
     try clear p437
     try clear q437
     obtain ⟨x7_1, x18_1, rfl, rfl, HA, HK1, Z0, Z1, HB⟩ := hrel
     cases gk with
     | zero => exact absurd HA.out (by simp [w22_score.l0])
     | succ k1 =>
      have H := HA.out
      clear HA
      simp only [w22_score.l0] at H
      by_cases c11 : x18_1 < (l1_5.length : Int)
      ·rw [if_pos c11] at H
       have c11b0 : decide (x18_1 < (l1_5.length : Int)) = true := yC c11
       clear c11
       by_cases c12 : 0 ≤ x18_1
       ·rw [if_pos c12] at H
        have c12b0 : decide (0 ≤ x18_1) = true := yC c12
        clear c12
        by_cases c13 : x18_1 < (l1_5.length : Int)
        ·rw [if_pos c13] at H
         have c13b0 : decide (x18_1 < (l1_5.length : Int)) = true := yC c13
         clear c13
         by_cases c14 : ((rd_T46 l1_5 x18_1).f0) = a2
         ·rw [if_pos c14] at H
          have c14b0 : (((rd_T46 l1_5 x18_1).f0) == a2) = true := beq_iff_eq.mpr c14
          have c14b1 : (((rd_T46 l1_5 x18_1).f0) != a2) = false := bne_eq_false_iff_eq.mpr c14
          clear c14
          have H' := zK H
          clear H
          have p438 : 0 ≤ (x18_1 : Int) := yB (by first | (with_reducible assumption) | assumption)
          have q438 : x18_1 < (l1_5.length : Int) := yB (by first | (with_reducible assumption) | assumption)
          obtain ⟨ad438, e438, hx438_0, hx438_1⟩ := at_T46 HR1_5.out x18_1 p438 q438
          cases e438
          replace hx438_0 := (HB.out.cell (World.block_lt_of_cell? w _ hx438_0)).trans hx438_0
          replace hx438_1 := (HB.out.cell (World.block_lt_of_cell? w _ hx438_1)).trans hx438_1
          replace p438 := yg p438
          replace q438 := yg q438
          go_wp2_with (first | ((with_reducible refine gate_dst (N := 9) rfl ?_); refine box_event ?hg (N := 9) ?hd (cs := #[.int .i64 0, .int .i64 0]) (t := 46) ?hr ?_; (case hd => rfl); (case hg => rfl); (case hr => first | (go_simp; done) | (go_simp; rfl)); intro Z17 hg w15 hbox hb; have n0_ := zK (zP (g := Z15) (o := .cells #[.slice (some ad437) l0_0.length c0_0, .slice A0_1 l0_1.length c0_1] 39 (0, 0)) (by (with_reducible repeat (first | refine zF ?_ _ | refine zH ?_ | refine zG ?_ _)); exact Z0.out) hb); have n1_ := zK (zP (g := Z16) (o := .cells #[.int .i64 a1_0, .int .i64 a1_1, .int .i64 a1_2, .int .i64 a1_3, .int .i64 a1_4, .slice (some ad438) l1_5.length c1_5] 24 (0, 0)) (by (with_reducible repeat (first | refine zF ?_ _ | refine zH ?_ | refine zG ?_ _)); exact Z1.out) hb); have n2_ := zK (yL (by repeat (first | (with_reducible first | exact HB.out | apply zJ | apply zD | apply zE | refine zI ?_ Z3.out | refine zI ?_ Z4.out) | exact HB.out)) hb); have n3_ := zK (hbox); have n4_ := zK ((by rw [hg]; exact (yK (by repeat (first | (with_reducible first | exact HB.out | apply zJ | apply zD | apply zE | refine zI ?_ Z3.out | refine zI ?_ Z4.out) | exact HB.out))) : w.heap.size ≤ Z17)); have n5_ := zK ((by rw [hg]; exact (yK (by repeat (first | (with_reducible first | exact HB.out | apply zJ | apply zD | apply zE | refine zI ?_ Z3.out | refine zI ?_ Z4.out) | exact HB.out))) : w.heap.size ≤ Z17)); have n6_ := zK ((by rw [hg]; exact ym (yo (g := Z15) (o := .cells #[.slice (some ad437) l0_0.length c0_0, .slice A0_1 l0_1.length c0_1] 39 (0, 0)) (by (with_reducible repeat (first | refine zF ?_ _ | refine zH ?_ | refine zG ?_ _)); exact Z0.out)) : Z15 ≠ Z17)); have n7_ := zK ((by rw [hg]; exact yn (yo (g := Z15) (o := .cells #[.slice (some ad437) l0_0.length c0_0, .slice A0_1 l0_1.length c0_1] 39 (0, 0)) (by (with_reducible repeat (first | refine zF ?_ _ | refine zH ?_ | refine zG ?_ _)); exact Z0.out)) : Z17 ≠ Z15)); have n8_ := zK ((by rw [hg]; exact ym (yo (g := Z16) (o := .cells #[.int .i64 a1_0, .int .i64 a1_1, .int .i64 a1_2, .int .i64 a1_3, .int .i64 a1_4, .slice (some ad438) l1_5.length c1_5] 24 (0, 0)) (by (with_reducible repeat (first | refine zF ?_ _ | refine zH ?_ | refine zG ?_ _)); exact Z1.out)) : Z16 ≠ Z17)); have n9_ := zK ((by rw [hg]; exact yn (yo (g := Z16) (o := .cells #[.int .i64 a1_0, .int .i64 a1_1, .int .i64 a1_2, .int .i64 a1_3, .int .i64 a1_4, .slice (some ad438) l1_5.length c1_5] 24 (0, 0)) (by (with_reducible repeat (first | refine zF ?_ _ | refine zH ?_ | refine zG ?_ _)); exact Z1.out)) : Z17 ≠ Z16)); clear Z0 Z1 HB; have Z0 := n0_; have Z1 := n1_; have HB := n2_; have Z2 := n3_; have Z8 := n4_; have Z5 := n5_; have Z10 := n6_; have Z13 := n7_; have Z12 := n8_; have Z14 := n9_; clear n0_ n1_ n2_ n3_ n4_ n5_ n6_ n7_ n8_ n9_ hb hbox hg; have hnb16 := Z13.out; have hnc16 := Z10.out; have hnb17 := Z14.out; have hnc17 := Z12.out; have hcz18_0 : w15.cell? ⟨Z17, 0, none⟩ = some (.int .i64 0) := (zO Z2.out 0).trans rfl; have hcz18_1 : w15.cell? ⟨Z17, 1, none⟩ = some (.int .i64 0) := (zO Z2.out 1).trans rfl; have hfz18_0 := yE Z2.out 0; have hfz18_1 := yE Z2.out 1))
          go_roundg k1
          case measure => have := HK1.out; omega
          case rel => exact ⟨(wrap64 (x7_1 + ((rd_T46 l1_5 x18_1).f1))), (wrap64 (x18_1 + 1)), (by first | rfl | (simp; done) | (simp [*]; done)), (by first | rfl | (simp; done) | (simp [*]; done)), H', ⟨by have := HK1.out; omega⟩, ⟨by (with_reducible repeat (first | refine zF ?_ _ | refine zH ?_ | refine zG ?_ _)); refine blk_far ?_ Z10.out _; (with_reducible repeat (first | refine zF ?_ _ | refine zH ?_ | refine zG ?_ _)); refine blk_far ?_ Z10.out _; (with_reducible repeat (first | refine zF ?_ _ | refine zH ?_ | refine zG ?_ _)); exact Z0.out⟩, ⟨by (with_reducible repeat (first | refine zF ?_ _ | refine zH ?_ | refine zG ?_ _)); refine blk_far ?_ Z12.out _; (with_reducible repeat (first | refine zF ?_ _ | refine zH ?_ | refine zG ?_ _)); refine blk_far ?_ Z12.out _; (with_reducible repeat (first | refine zF ?_ _ | refine zH ?_ | refine zG ?_ _)); exact Z1.out⟩, ⟨by repeat (first | (with_reducible first | exact HB.out | apply zJ | apply zD | apply zE | refine zI ?_ Z3.out | refine zI ?_ Z4.out | refine zI ?_ Z5.out) | exact HB.out)⟩⟩
         ·rw [if_neg c14] at H
          have c14b0 : (((rd_T46 l1_5 x18_1).f0) == a2) = false := beq_eq_false_iff_ne.mpr c14
          have c14b1 : (((rd_T46 l1_5 x18_1).f0) != a2) = true := bne_iff_ne.mpr c14
          have H' := zK H
          clear H
          have p438 : 0 ≤ (x18_1 : Int) := yB (by first | (with_reducible assumption) | assumption)
          have q438 : x18_1 < (l1_5.length : Int) := yB (by first | (with_reducible assumption) | assumption)
          obtain ⟨ad438, e438, hx438_0, hx438_1⟩ := at_T46 HR1_5.out x18_1 p438 q438
          cases e438
          replace hx438_0 := (HB.out.cell (World.block_lt_of_cell? w _ hx438_0)).trans hx438_0
          replace hx438_1 := (HB.out.cell (World.block_lt_of_cell? w _ hx438_1)).trans hx438_1
          replace p438 := yg p438
          replace q438 := yg q438
          go_wp2_with (first | ((with_reducible refine gate_dst (N := 9) rfl ?_); refine box_event ?hg (N := 9) ?hd (cs := #[.int .i64 0, .int .i64 0]) (t := 46) ?hr ?_; (case hd => rfl); (case hg => rfl); (case hr => first | (go_simp; done) | (go_simp; rfl)); intro Z17 hg w19 hbox hb; have n0_ := zK (zP (g := Z15) (o := .cells #[.slice (some ad437) l0_0.length c0_0, .slice A0_1 l0_1.length c0_1] 39 (0, 0)) (by (with_reducible repeat (first | refine zF ?_ _ | refine zH ?_ | refine zG ?_ _)); exact Z0.out) hb); have n1_ := zK (zP (g := Z16) (o := .cells #[.int .i64 a1_0, .int .i64 a1_1, .int .i64 a1_2, .int .i64 a1_3, .int .i64 a1_4, .slice (some ad438) l1_5.length c1_5] 24 (0, 0)) (by (with_reducible repeat (first | refine zF ?_ _ | refine zH ?_ | refine zG ?_ _)); exact Z1.out) hb); have n2_ := zK (yL (by repeat (first | (with_reducible first | exact HB.out | apply zJ | apply zD | apply zE | refine zI ?_ Z3.out | refine zI ?_ Z4.out) | exact HB.out)) hb); have n3_ := zK (hbox); have n4_ := zK ((by rw [hg]; exact (yK (by repeat (first | (with_reducible first | exact HB.out | apply zJ | apply zD | apply zE | refine zI ?_ Z3.out | refine zI ?_ Z4.out) | exact HB.out))) : w.heap.size ≤ Z17)); have n5_ := zK ((by rw [hg]; exact (yK (by repeat (first | (with_reducible first | exact HB.out | apply zJ | apply zD | apply zE | refine zI ?_ Z3.out | refine zI ?_ Z4.out) | exact HB.out))) : w.heap.size ≤ Z17)); have n6_ := zK ((by rw [hg]; exact ym (yo (g := Z15) (o := .cells #[.slice (some ad437) l0_0.length c0_0, .slice A0_1 l0_1.length c0_1] 39 (0, 0)) (by (with_reducible repeat (first | refine zF ?_ _ | refine zH ?_ | refine zG ?_ _)); exact Z0.out)) : Z15 ≠ Z17)); have n7_ := zK ((by rw [hg]; exact yn (yo (g := Z15) (o := .cells #[.slice (some ad437) l0_0.length c0_0, .slice A0_1 l0_1.length c0_1] 39 (0, 0)) (by (with_reducible repeat (first | refine zF ?_ _ | refine zH ?_ | refine zG ?_ _)); exact Z0.out)) : Z17 ≠ Z15)); have n8_ := zK ((by rw [hg]; exact ym (yo (g := Z16) (o := .cells #[.int .i64 a1_0, .int .i64 a1_1, .int .i64 a1_2, .int .i64 a1_3, .int .i64 a1_4, .slice (some ad438) l1_5.length c1_5] 24 (0, 0)) (by (with_reducible repeat (first | refine zF ?_ _ | refine zH ?_ | refine zG ?_ _)); exact Z1.out)) : Z16 ≠ Z17)); have n9_ := zK ((by rw [hg]; exact yn (yo (g := Z16) (o := .cells #[.int .i64 a1_0, .int .i64 a1_1, .int .i64 a1_2, .int .i64 a1_3, .int .i64 a1_4, .slice (some ad438) l1_5.length c1_5] 24 (0, 0)) (by (with_reducible repeat (first | refine zF ?_ _ | refine zH ?_ | refine zG ?_ _)); exact Z1.out)) : Z17 ≠ Z16)); clear Z0 Z1 HB; have Z0 := n0_; have Z1 := n1_; have HB := n2_; have Z2 := n3_; have Z8 := n4_; have Z5 := n5_; have Z10 := n6_; have Z13 := n7_; have Z12 := n8_; have Z14 := n9_; clear n0_ n1_ n2_ n3_ n4_ n5_ n6_ n7_ n8_ n9_ hb hbox hg; have hnb20 := Z13.out; have hnc20 := Z10.out; have hnb21 := Z14.out; have hnc21 := Z12.out; have hcz22_0 : w19.cell? ⟨Z17, 0, none⟩ = some (.int .i64 0) := (zO Z2.out 0).trans rfl; have hcz22_1 : w19.cell? ⟨Z17, 1, none⟩ = some (.int .i64 0) := (zO Z2.out 1).trans rfl; have hfz22_0 := yE Z2.out 0; have hfz22_1 := yE Z2.out 1))
          go_roundg k1
          case measure => have := HK1.out; omega
          case rel => exact ⟨(x7_1), (wrap64 (x18_1 + 1)), (by first | rfl | (simp; done) | (simp [*]; done)), (by first | rfl | (simp; done) | (simp [*]; done)), H', ⟨by have := HK1.out; omega⟩, ⟨by (with_reducible repeat (first | refine zF ?_ _ | refine zH ?_ | refine zG ?_ _)); refine blk_far ?_ Z10.out _; (with_reducible repeat (first | refine zF ?_ _ | refine zH ?_ | refine zG ?_ _)); refine blk_far ?_ Z10.out _; (with_reducible repeat (first | refine zF ?_ _ | refine zH ?_ | refine zG ?_ _)); exact Z0.out⟩, ⟨by (with_reducible repeat (first | refine zF ?_ _ | refine zH ?_ | refine zG ?_ _)); refine blk_far ?_ Z12.out _; (with_reducible repeat (first | refine zF ?_ _ | refine zH ?_ | refine zG ?_ _)); refine blk_far ?_ Z12.out _; (with_reducible repeat (first | refine zF ?_ _ | refine zH ?_ | refine zG ?_ _)); exact Z1.out⟩, ⟨by repeat (first | (with_reducible first | exact HB.out | apply zJ | apply zD | apply zE | refine zI ?_ Z3.out | refine zI ?_ Z4.out | refine zI ?_ Z5.out) | exact HB.out)⟩⟩
        ·rw [if_neg c13] at H
         exact absurd H (by simp)
       ·rw [if_neg c12] at H
        exact absurd H (by simp)
      ·rw [if_neg c11] at H
       have c11b0 : decide (x18_1 < (l1_5.length : Int)) = false := yD c11
       clear c11
       obtain rfl := yY H
       go_wp2
       go_ret
       exact ⟨by first | rfl | (simp [errW_none, errW_some] <;> rfl) | (simp [*, errW_none, errW_some] <;> rfl), by repeat (first | (with_reducible first | exact HB.out | apply zJ | apply zD | apply zE | refine zI ?_ Z3.out | refine zI ?_ Z4.out) | exact HB.out)⟩
   ·rw [if_neg c5] at H
    exact absurd H (by simp)
  ·rw [if_neg c4] at H
   exact absurd H (by simp)

end Go.Proofs.Ythmckhfjaleomaa.T
