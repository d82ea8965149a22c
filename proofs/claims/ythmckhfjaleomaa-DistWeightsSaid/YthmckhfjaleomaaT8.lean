-- Printed by this session's own driver (wip/tools/xprint.py) over the kit's printer; given functions are this session's own.
import Derived.Test.YthmckhfjaleomaaT0
namespace Go.Proofs.Ythmckhfjaleomaa.T
open Go.RowKit Go.Proofs.YthmckhfjaleomaaW.PrintWords Go.Proofs.YthmckhfjaleomaaW.PrintLast Go.Proofs.YthmckhfjaleomaaW.PrintMore
attribute [local go_sem] max2_int min2_int max_two min_two max_three min_three max_four min_four   -- for this text's walks alone
set_option linter.unusedVariables false
set_option linter.unusedSimpArgs false

/-! ### w22_plain: function 16 -/
def w22_plain.l0 : Nat → List (S46) → Int → Int → Int → Int → Int → Int → Int → List (S74) → Option (Int × Int × Int × Int × Int × (List (S74)))
  | 0, _, _, _, _, _, _, _, _, _ => none
  | k + 1, x18, x19, x20, Y0, Y1, Y2, Y3, Y4, Y5 => if x20 < x19 then (if 0 ≤ x20 then (if x20 < (x18.length : Int) then (if Y5.length < 8796093022208 then (w22_plain.l0 k x18 x19 (wrap64 (x20 + 1)) Y0 Y1 Y2 Y3 Y4 (Y5 ++ [(⟨(rd_T46 x18 x20).f0, (rd_T46 x18 x20).f1⟩ : S74)])) else (none)) else (none)) else (none)) else (some (Y0, Y1, Y2, Y3, Y4, Y5))
def w22_plain.f (k : Nat) (a0_0 : Int) (a0_1 : Int) (a0_2 : Int) (a0_3 : Int) (a0_4 : Int) (l0_5 : List (S46)) : Option (Int × Int × Int × Int × Int × (List (S74))) := w22_plain.l0 k l0_5 (l0_5.length : Int) 0 a0_0 a0_1 a0_2 a0_3 a0_4 ([] : List (S74))
theorem w22_plain.mono_l : ∀ k, (∀ y0 y1 y2 y3 y4 y5 y6 y7 y8, LeO (w22_plain.l0 k y0 y1 y2 y3 y4 y5 y6 y7 y8) (w22_plain.l0 (k + 1) y0 y1 y2 y3 y4 y5 y6 y7 y8))
  | 0 => fun _ _ _ _ _ _ _ _ _ r h => by simp [w22_plain.l0] at h
  | k + 1 => by
    have ih0 := w22_plain.mono_l k
    intros
    unfold w22_plain.l0
    all_goals repeat' first
      | (with_reducible exact ih0 _ _ _ _ _ _ _ _ _)
      | (with_reducible exact yR _)
      | (with_reducible exact yO _)
      | (with_reducible refine yQ ?_ ?_)
      | (with_reducible refine yP ?_ (fun _ => ?_))
      | exact ih0 _ _ _ _ _ _ _ _ _
      | exact yO _
      | refine yQ ?_ ?_
      | refine yP ?_ (fun _ => ?_)
theorem w22_plain.mono : ∀ a0 a1 a2 a3 a4 a5 k, LeO (w22_plain.f k a0 a1 a2 a3 a4 a5) (w22_plain.f (k + 1) a0 a1 a2 a3 a4 a5) := by
  intro a0 a1 a2 a3 a4 a5 k
  have ih0 := w22_plain.mono_l k
  unfold w22_plain.f
  repeat' first
      | (with_reducible exact ih0 _ _ _ _ _ _ _ _ _)
      | (with_reducible exact yR _)
      | (with_reducible exact yO _)
      | (with_reducible refine yQ ?_ ?_)
      | (with_reducible refine yP ?_ (fun _ => ?_))
      | exact ih0 _ _ _ _ _ _ _ _ _
      | exact yO _
      | refine yQ ?_ ?_
      | refine yP ?_ (fun _ => ?_)
set_option maxHeartbeats 8000000 in
set_option maxRecDepth 100000 in
theorem w22_plain.calls (k : Nat) (a0_0 : Int) (a0_1 : Int) (a0_2 : Int) (a0_3 : Int) (a0_4 : Int) (A0_5 : Option Addr) (c0_5 : Nat) (l0_5 : List (S46)) (r1 : Int) (r2 : Int) (r3 : Int) (r4 : Int) (r5 : Int) (r6 : List (S74)) (w : World) (hr0_5 : Kd.C k46 w A0_5 l0_5.length l0_5) (hc0_5 : l0_5.length ≤ c0_5) (h : w22_plain.f k a0_0 a0_1 a0_2 a0_3 a0_4 l0_5 = some (r1, r2, r3, r4, r5, r6)) :
    Calls Try.prog 16 #[.agg #[.int .i64 a0_0, .int .i64 a0_1, .int .i64 a0_2, .int .i64 a0_3, .int .i64 a0_4, .slice A0_5 l0_5.length c0_5]] w fun e w' => ∃ v5_ : Value, e = .returned (.agg #[.int .i64 r1, .int .i64 r2, .int .i64 r3, .int .i64 r4, .int .i64 r5, v5_]) ∧ Kd.R k74 74 w' w.heap.size (fun _ => True) v5_ r6 ∧ Below w.heap.size w w' := by
  have hu24 := Try.underlying24
  have hu31 := Try.underlying31
  have hu46 := Try.underlying46
  have hu74 := Try.underlying74
  have HR0_5 := zK hr0_5
  have HC0_5 := zK hc0_5
  clear hr0_5 hc0_5
  have HB := zK (Below.refl w.heap.size w)
  have H : (w22_plain.l0 k l0_5 (l0_5.length : Int) 0 a0_0 a0_1 a0_2 a0_3 a0_4 ([] : List (S74))) = some (r1, r2, r3, r4, r5, r6) := h
  clear h
  have H' := zK H
  clear H
  go_enter Try.func16, Try.ntmps16
  go_wp2_with (first | ((with_reducible refine gate_dst (N := 1) rfl ?_); refine box_event ?hg (N := 1) ?hd (cs := #[.int .i64 a0_0, .int .i64 a0_1, .int .i64 a0_2, .int .i64 a0_3, .int .i64 a0_4, .slice A0_5 l0_5.length c0_5]) (t := 24) ?hr ?_; (case hd => rfl); (case hg => rfl); (case hr => first | (go_simp; done) | (go_simp; rfl)); intro Z24 hg w2 hbox hb; have n0_ := zK (yL (by repeat (first | (with_reducible first | exact HB.out | apply zJ | apply zD | apply zE) | exact HB.out)) hb); have n1_ := zK (hbox); have n2_ := zK ((by rw [hg]; exact (yK (by repeat (first | (with_reducible first | exact HB.out | apply zJ | apply zD | apply zE) | exact HB.out))) : w.heap.size ≤ Z24)); have n3_ := zK ((by rw [hg]; exact (yK (by repeat (first | (with_reducible first | exact HB.out | apply zJ | apply zD | apply zE) | exact HB.out))) : w.heap.size ≤ Z24)); clear HB; have HB := n0_; have Z0 := n1_; have Z8 := n2_; have Z4 := n3_; clear n0_ n1_ n2_ n3_ hb hbox hg) | ((with_reducible refine gate_dst (N := 2) rfl ?_); refine box_event ?hg (N := 2) ?hd (cs := #[.int .i64 0, .int .i64 0, .int .i64 0, .int .i64 0, .int .i64 0, .slice none 0 0]) (t := 31) ?hr ?_; (case hd => rfl); (case hg => rfl); (case hr => first | (go_simp; done) | (go_simp; rfl)); intro Z25 hg w3 hbox hb; have n0_ := zK (zP (g := Z24) (o := .cells #[.int .i64 a0_0, .int .i64 a0_1, .int .i64 a0_2, .int .i64 a0_3, .int .i64 a0_4, .slice A0_5 l0_5.length c0_5] 24 (0, 0)) (by (with_reducible repeat (first | refine zF ?_ _ | refine zH ?_ | refine zG ?_ _)); exact Z0.out) hb); have n1_ := zK (yL (by repeat (first | (with_reducible first | exact HB.out | apply zJ | apply zD | apply zE | refine zI ?_ Z4.out) | exact HB.out)) hb); have n2_ := zK (hbox); have n3_ := zK ((by rw [hg]; exact (yK (by repeat (first | (with_reducible first | exact HB.out | apply zJ | apply zD | apply zE | refine zI ?_ Z4.out) | exact HB.out))) : w.heap.size ≤ Z25)); have n4_ := zK ((by rw [hg]; exact (yK (by repeat (first | (with_reducible first | exact HB.out | apply zJ | apply zD | apply zE | refine zI ?_ Z4.out) | exact HB.out))) : w.heap.size ≤ Z25)); have n5_ := zK ((by rw [hg]; exact ym (yo (g := Z24) (o := .cells #[.int .i64 a0_0, .int .i64 a0_1, .int .i64 a0_2, .int .i64 a0_3, .int .i64 a0_4, .slice A0_5 l0_5.length c0_5] 24 (0, 0)) (by (with_reducible repeat (first | refine zF ?_ _ | refine zH ?_ | refine zG ?_ _)); exact Z0.out)) : Z24 ≠ Z25)); have n6_ := zK ((by rw [hg]; exact yn (yo (g := Z24) (o := .cells #[.int .i64 a0_0, .int .i64 a0_1, .int .i64 a0_2, .int .i64 a0_3, .int .i64 a0_4, .slice A0_5 l0_5.length c0_5] 24 (0, 0)) (by (with_reducible repeat (first | refine zF ?_ _ | refine zH ?_ | refine zG ?_ _)); exact Z0.out)) : Z25 ≠ Z24)); clear Z0 HB; have Z0 := n0_; have HB := n1_; have Z1 := n2_; have Z9 := n3_; have Z5 := n4_; have Z12 := n5_; have Z15 := n6_; clear n0_ n1_ n2_ n3_ n4_ n5_ n6_ hb hbox hg; have hnb4 := Z12.out; have hnc4 := Z15.out; have hcz5_0 : w3.cell? ⟨Z24, 0, none⟩ = some (.int .i64 a0_0) := (zO Z0.out 0).trans rfl; have hcz5_1 : w3.cell? ⟨Z24, 1, none⟩ = some (.int .i64 a0_1) := (zO Z0.out 1).trans rfl; have hcz5_2 : w3.cell? ⟨Z24, 2, none⟩ = some (.int .i64 a0_2) := (zO Z0.out 2).trans rfl; have hcz5_3 : w3.cell? ⟨Z24, 3, none⟩ = some (.int .i64 a0_3) := (zO Z0.out 3).trans rfl; have hcz5_4 : w3.cell? ⟨Z24, 4, none⟩ = some (.int .i64 a0_4) := (zO Z0.out 4).trans rfl; have hcz5_5 : w3.cell? ⟨Z24, 5, none⟩ = some (.slice A0_5 l0_5.length c0_5) := (zO Z0.out 5).trans rfl; have hfz5_0 := yE Z0.out 0; have hfz5_1 := yE Z0.out 1; have hfz5_2 := yE Z0.out 2; have hfz5_3 := yE Z0.out 3; have hfz5_4 := yE Z0.out 4; have hfz5_5 := yE Z0.out 5) | ((with_reducible refine gate_dst (N := 3) rfl ?_); refine box_event ?hg (N := 3) ?hd (cs := #[.int .i64 0, .int .i64 0, .int .i64 0, .int .i64 0, .int .i64 0, .slice none 0 0]) (t := 31) ?hr ?_; (case hd => rfl); (case hg => rfl); (case hr => first | (go_simp; done) | (go_simp; rfl)); intro Z26 hg w6 hbox hb; have n0_ := zK (zP (g := Z24) (o := .cells #[.int .i64 a0_0, .int .i64 a0_1, .int .i64 a0_2, .int .i64 a0_3, .int .i64 a0_4, .slice A0_5 l0_5.length c0_5] 24 (0, 0)) (by (with_reducible repeat (first | refine zF ?_ _ | refine zH ?_ | refine zG ?_ _)); exact Z0.out) hb); have n1_ := zK (zP (g := Z25) (o := .cells #[.int .i64 0, .int .i64 0, .int .i64 0, .int .i64 0, .int .i64 0, .slice none 0 0] 31 (0, 0)) (by (with_reducible repeat (first | refine zF ?_ _ | refine zH ?_ | refine zG ?_ _)); exact Z1.out) hb); have n2_ := zK (yL (by repeat (first | (with_reducible first | exact HB.out | apply zJ | apply zD | apply zE | refine zI ?_ Z4.out | refine zI ?_ Z5.out) | exact HB.out)) hb); have n3_ := zK (hbox); have n4_ := zK ((by rw [hg]; exact (yK (by repeat (first | (with_reducible first | exact HB.out | apply zJ | apply zD | apply zE | refine zI ?_ Z4.out | refine zI ?_ Z5.out) | exact HB.out))) : w.heap.size ≤ Z26)); have n5_ := zK ((by rw [hg]; exact (yK (by repeat (first | (with_reducible first | exact HB.out | apply zJ | apply zD | apply zE | refine zI ?_ Z4.out | refine zI ?_ Z5.out) | exact HB.out))) : w.heap.size ≤ Z26)); have n6_ := zK ((by rw [hg]; exact ym (yo (g := Z24) (o := .cells #[.int .i64 a0_0, .int .i64 a0_1, .int .i64 a0_2, .int .i64 a0_3, .int .i64 a0_4, .slice A0_5 l0_5.length c0_5] 24 (0, 0)) (by (with_reducible repeat (first | refine zF ?_ _ | refine zH ?_ | refine zG ?_ _)); exact Z0.out)) : Z24 ≠ Z26)); have n7_ := zK ((by rw [hg]; exact yn (yo (g := Z24) (o := .cells #[.int .i64 a0_0, .int .i64 a0_1, .int .i64 a0_2, .int .i64 a0_3, .int .i64 a0_4, .slice A0_5 l0_5.length c0_5] 24 (0, 0)) (by (with_reducible repeat (first | refine zF ?_ _ | refine zH ?_ | refine zG ?_ _)); exact Z0.out)) : Z26 ≠ Z24)); have n8_ := zK ((by rw [hg]; exact ym (yo (g := Z25) (o := .cells #[.int .i64 0, .int .i64 0, .int .i64 0, .int .i64 0, .int .i64 0, .slice none 0 0] 31 (0, 0)) (by (with_reducible repeat (first | refine zF ?_ _ | refine zH ?_ | refine zG ?_ _)); exact Z1.out)) : Z25 ≠ Z26)); have n9_ := zK ((by rw [hg]; exact yn (yo (g := Z25) (o := .cells #[.int .i64 0, .int .i64 0, .int .i64 0, .int .i64 0, .int .i64 0, .slice none 0 0] 31 (0, 0)) (by (with_reducible repeat (first | refine zF ?_ _ | refine zH ?_ | refine zG ?_ _)); exact Z1.out)) : Z26 ≠ Z25)); clear Z0 Z1 HB; have Z0 := n0_; have Z1 := n1_; have HB := n2_; have Z2 := n3_; have Z10 := n4_; have Z6 := n5_; have Z13 := n6_; have Z18 := n7_; have Z16 := n8_; have Z19 := n9_; clear n0_ n1_ n2_ n3_ n4_ n5_ n6_ n7_ n8_ n9_ hb hbox hg; have hnb7 := Z18.out; have hnc7 := Z13.out; have hnb8 := Z19.out; have hnc8 := Z16.out; have hcz9_0 : w6.cell? ⟨Z26, 0, none⟩ = some (.int .i64 0) := (zO Z2.out 0).trans rfl; have hcz9_1 : w6.cell? ⟨Z26, 1, none⟩ = some (.int .i64 0) := (zO Z2.out 1).trans rfl; have hcz9_2 : w6.cell? ⟨Z26, 2, none⟩ = some (.int .i64 0) := (zO Z2.out 2).trans rfl; have hcz9_3 : w6.cell? ⟨Z26, 3, none⟩ = some (.int .i64 0) := (zO Z2.out 3).trans rfl; have hcz9_4 : w6.cell? ⟨Z26, 4, none⟩ = some (.int .i64 0) := (zO Z2.out 4).trans rfl; have hcz9_5 : w6.cell? ⟨Z26, 5, none⟩ = some (.slice none 0 0) := (zO Z2.out 5).trans rfl; have hfz9_0 := yE Z2.out 0; have hfz9_1 := yE Z2.out 1; have hfz9_2 := yE Z2.out 2; have hfz9_3 := yE Z2.out 3; have hfz9_4 := yE Z2.out 4; have hfz9_5 := yE Z2.out 5; have hcz10_0 : w6.cell? ⟨Z24, 0, none⟩ = some (.int .i64 a0_0) := (zO Z0.out 0).trans rfl; have hcz10_1 : w6.cell? ⟨Z24, 1, none⟩ = some (.int .i64 a0_1) := (zO Z0.out 1).trans rfl; have hcz10_2 : w6.cell? ⟨Z24, 2, none⟩ = some (.int .i64 a0_2) := (zO Z0.out 2).trans rfl; have hcz10_3 : w6.cell? ⟨Z24, 3, none⟩ = some (.int .i64 a0_3) := (zO Z0.out 3).trans rfl; have hcz10_4 : w6.cell? ⟨Z24, 4, none⟩ = some (.int .i64 a0_4) := (zO Z0.out 4).trans rfl; have hcz10_5 : w6.cell? ⟨Z24, 5, none⟩ = some (.slice A0_5 l0_5.length c0_5) := (zO Z0.out 5).trans rfl; have hfz10_0 := yE Z0.out 0; have hfz10_1 := yE Z0.out 1; have hfz10_2 := yE Z0.out 2; have hfz10_3 := yE Z0.out 3; have hfz10_4 := yE Z0.out 4; have hfz10_5 := yE Z0.out 5))
  go_loopg [20] k (fun kq v20 w' => ∃ (x20_1 : Int) (x213005_1 : List (S74)) (u213005 : Value), v20 = .int .i64 x20_1 ∧ Aside0 (w22_plain.l0 kq l0_5 (l0_5.length : Int) x20_1 a0_0 a0_1 a0_2 a0_3 a0_4 x213005_1 = some (r1, r2, r3, r4, r5, r6)) ∧ Aside0 (kq ≤ k) ∧ Aside0 (Kd.R k74 74 w' w.heap.size (fun _ => True) u213005 x213005_1) ∧ Aside0 (w'.heap[Z24]? = some (.cells #[.int .i64 a0_0, .int .i64 a0_1, .int .i64 a0_2, .int .i64 a0_3, .int .i64 a0_4, (.slice A0_5 l0_5.length c0_5)] 24 (0, 0))) ∧ Aside0 (w'.heap[Z25]? = some (.cells #[.int .i64 0, .int .i64 0, .int .i64 0, .int .i64 0, .int .i64 0, (.slice none 0 0)] 31 (0, 0))) ∧ Aside0 (w'.heap[Z26]? = some (.cells #[.int .i64 a0_0, .int .i64 a0_1, .int .i64 a0_2, .int .i64 a0_3, .int .i64 a0_4, u213005] 31 (0, 0))) ∧ Aside0 (Below w.heap.size w w'))
  case atStart => exact ⟨(0), (([] : List (S74))), (.slice none 0 0), (by first | rfl | (simp; done) | (simp [*]; done)), H', ⟨yN _⟩, ⟨by first | exact Kd.R_nil _ _ _ _ _ | exact Kd.N_nil _ _ _ _ _ | exact Kd.V_nil _ _ _ _ _ | exact Kd.Q_nil _ _ _ _ _ | exact Kd.S_nil _ _ _ _ _⟩, ⟨by (with_reducible repeat (first | refine zF ?_ _ | refine zH ?_ | refine zG ?_ _)); refine blk_far ?_ Z13.out _; (with_reducible repeat (first | refine zF ?_ _ | refine zH ?_ | refine zG ?_ _)); refine blk_far ?_ Z13.out _; (with_reducible repeat (first | refine zF ?_ _ | refine zH ?_ | refine zG ?_ _)); refine blk_far ?_ Z13.out _; (with_reducible repeat (first | refine zF ?_ _ | refine zH ?_ | refine zG ?_ _)); refine blk_far ?_ Z13.out _; (with_reducible repeat (first | refine zF ?_ _ | refine zH ?_ | refine zG ?_ _)); refine blk_far ?_ Z13.out _; (with_reducible repeat (first | refine zF ?_ _ | refine zH ?_ | refine zG ?_ _)); refine blk_far ?_ Z13.out _; (with_reducible repeat (first | refine zF ?_ _ | refine zH ?_ | refine zG ?_ _)); exact Z0.out⟩, ⟨by (with_reducible repeat (first | refine zF ?_ _ | refine zH ?_ | refine zG ?_ _)); refine blk_far ?_ Z16.out _; (with_reducible repeat (first | refine zF ?_ _ | refine zH ?_ | refine zG ?_ _)); refine blk_far ?_ Z16.out _; (with_reducible repeat (first | refine zF ?_ _ | refine zH ?_ | refine zG ?_ _)); refine blk_far ?_ Z16.out _; (with_reducible repeat (first | refine zF ?_ _ | refine zH ?_ | refine zG ?_ _)); refine blk_far ?_ Z16.out _; (with_reducible repeat (first | refine zF ?_ _ | refine zH ?_ | refine zG ?_ _)); refine blk_far ?_ Z16.out _; (with_reducible repeat (first | refine zF ?_ _ | refine zH ?_ | refine zG ?_ _)); refine blk_far ?_ Z16.out _; (with_reducible repeat (first | refine zF ?_ _ | refine zH ?_ | refine zG ?_ _)); exact Z1.out⟩, ⟨by (with_reducible repeat (first | refine zF ?_ _ | refine zH ?_ | refine zG ?_ _)); refine blk_put (cs := #[.int .i64 a0_0, .int .i64 a0_1, .int .i64 a0_2, .int .i64 a0_3, .int .i64 a0_4, .slice none 0 0]) ?_ 5 _ rfl; (with_reducible repeat (first | refine zF ?_ _ | refine zH ?_ | refine zG ?_ _)); refine blk_put (cs := #[.int .i64 a0_0, .int .i64 a0_1, .int .i64 a0_2, .int .i64 a0_3, .int .i64 0, .slice none 0 0]) ?_ 4 _ rfl; (with_reducible repeat (first | refine zF ?_ _ | refine zH ?_ | refine zG ?_ _)); refine blk_put (cs := #[.int .i64 a0_0, .int .i64 a0_1, .int .i64 a0_2, .int .i64 0, .int .i64 0, .slice none 0 0]) ?_ 3 _ rfl; (with_reducible repeat (first | refine zF ?_ _ | refine zH ?_ | refine zG ?_ _)); refine blk_put (cs := #[.int .i64 a0_0, .int .i64 a0_1, .int .i64 0, .int .i64 0, .int .i64 0, .slice none 0 0]) ?_ 2 _ rfl; (with_reducible repeat (first | refine zF ?_ _ | refine zH ?_ | refine zG ?_ _)); refine blk_put (cs := #[.int .i64 a0_0, .int .i64 0, .int .i64 0, .int .i64 0, .int .i64 0, .slice none 0 0]) ?_ 1 _ rfl; (with_reducible repeat (first | refine zF ?_ _ | refine zH ?_ | refine zG ?_ _)); refine blk_put (cs := #[.int .i64 0, .int .i64 0, .int .i64 0, .int .i64 0, .int .i64 0, .slice none 0 0]) ?_ 0 _ rfl; (with_reducible repeat (first | refine zF ?_ _ | refine zH ?_ | refine zG ?_ _)); exact Z2.out⟩, ⟨by repeat (first | (with_reducible first | exact HB.out | apply zJ | apply zD | apply zE | refine zI ?_ Z4.out | refine zI ?_ Z5.out | refine zI ?_ Z6.out) | exact HB.out)⟩⟩
  case round =>
   clear H'
   try clear c1
   try clear p2
   try clear c4
   try clear c7
   try clear c8
   try clear hcz10_0
   try clear hcz10_1
   try clear hcz10_2
   try clear hcz10_3
   try clear hcz10_4
   try clear hcz10_5
   try clear hcz5_0
   try clear hcz5_1
   try clear hcz5_2
   try clear hcz5_3
   try clear hcz5_4
   try clear hcz5_5
   try clear hcz9_0
   try clear hcz9_1
   try clear hcz9_2
   try clear hcz9_3
   try clear hcz9_4
   try clear hcz9_5
   try clear hfz10_0
   try clear hfz10_1
   try clear hfz10_2
   try clear hfz10_3
   try clear hfz10_4
   try clear hfz10_5
   try clear hfz5_0
   try clear hfz5_1
   try clear hfz5_2
   try clear hfz5_3
   try clear hfz5_4
   try clear hfz5_5
   try clear hfz9_0
   try clear hfz9_1
   try clear hfz9_2
   try clear hfz9_3
   try clear hfz9_4
   try clear hfz9_5
   obtain ⟨x20_1, x213005_1, u213005, rfl, HA, HK1, HO_213005, Z0, Z1, Z2, HB⟩ := hrel
   cases gk with
   | zero => exact absurd HA.out (by simp [w22_plain.l0])
   | succ k1 =>
    have H := HA.out
    clear HA
    simp only [w22_plain.l0] at H
    by_cases c11 : x20_1 < (l0_5.length : Int)
    ·rw [if_pos c11] at H
     have c11b0 : decide (x20_1 < (l0_5.length : Int)) = true := yC c11
     clear c11
     by_cases c12 : 0 ≤ x20_1
     ·rw [if_pos c12] at H
      have c12b0 : decide (0 ≤ x20_1) = true := yC c12
      clear c12
      by_cases c13 : x20_1 < (l0_5.length : Int)
      ·rw [if_pos c13] at H
       have c13b0 : decide (x20_1 < (l0_5.length : Int)) = true := yC c13
       clear c13
       by_cases c14 : x213005_1.length < 8796093022208
       ·rw [if_pos c14] at H
        have LMc14 := zK c14
        clear c14
        obtain ⟨y215, hy215⟩ : ∃ y_ : List (S74), y_ = (x213005_1 ++ [(⟨(rd_T46 l0_5 x20_1).f0, (rd_T46 l0_5 x20_1).f1⟩ : S74)]) := ⟨_, rfl⟩
        replace H : (w22_plain.l0 k1 l0_5 (l0_5.length : Int) (wrap64 (x20_1 + 1)) a0_0 a0_1 a0_2 a0_3 a0_4 y215) = some (r1, r2, r3, r4, r5, r6) := by first | (rw [hy215]; with_reducible exact H) | (have H2_ := (yV _ _).symm.trans H; rw [hy215]; with_reducible exact H2_) | (have H2_ := (yV _ _).symm.trans H; with_reducible exact H2_) | with_reducible exact H | (rw [hy215]; exact H) | exact H
        have Ny215 := zK hy215
        clear hy215
        have H' := zK H
        clear H
        have p213 : 0 ≤ (x20_1 : Int) := yB (by first | (with_reducible assumption) | assumption)
        have q213 : x20_1 < (l0_5.length : Int) := yB (by first | (with_reducible assumption) | assumption)
        obtain ⟨ad213, e213, hx213_0, hx213_1⟩ := at_T46 HR0_5.out x20_1 p213 q213
        cases e213
        replace hx213_0 := (HB.out.cell (World.block_lt_of_cell? w _ hx213_0)).trans hx213_0
        replace hx213_1 := (HB.out.cell (World.block_lt_of_cell? w _ hx213_1)).trans hx213_1
        replace p213 := yg p213
        replace q213 := yg q213
        go_wp2_with (first | ((with_reducible refine gate_dst (N := 5) rfl ?_); refine box_event ?hg (N := 5) ?hd (cs := #[.int .i64 0, .int .i64 0]) (t := 46) ?hr ?_; (case hd => rfl); (case hg => rfl); (case hr => first | (go_simp; done) | (go_simp; rfl)); intro Z27 hg w15 hbox hb; have n0_ := zK (yb (by (with_reducible repeat (first | apply zL | apply zM | apply zN)); exact HO_213005.out) hb); have n1_ := zK (zP (g := Z24) (o := .cells #[.int .i64 a0_0, .int .i64 a0_1, .int .i64 a0_2, .int .i64 a0_3, .int .i64 a0_4, .slice (some ad213) l0_5.length c0_5] 24 (0, 0)) (by (with_reducible repeat (first | refine zF ?_ _ | refine zH ?_ | refine zG ?_ _)); exact Z0.out) hb); have n2_ := zK (zP (g := Z25) (o := .cells #[.int .i64 0, .int .i64 0, .int .i64 0, .int .i64 0, .int .i64 0, .slice none 0 0] 31 (0, 0)) (by (with_reducible repeat (first | refine zF ?_ _ | refine zH ?_ | refine zG ?_ _)); exact Z1.out) hb); have n3_ := zK (zP (g := Z26) (o := .cells #[.int .i64 a0_0, .int .i64 a0_1, .int .i64 a0_2, .int .i64 a0_3, .int .i64 a0_4, u213005] 31 (0, 0)) (by (with_reducible repeat (first | refine zF ?_ _ | refine zH ?_ | refine zG ?_ _)); exact Z2.out) hb); have n4_ := zK (yL (by repeat (first | (with_reducible first | exact HB.out | apply zJ | apply zD | apply zE | refine zI ?_ Z4.out | refine zI ?_ Z5.out | refine zI ?_ Z6.out) | exact HB.out)) hb); have n5_ := zK (hbox); have n6_ := zK ((by rw [hg]; exact (yK (by repeat (first | (with_reducible first | exact HB.out | apply zJ | apply zD | apply zE | refine zI ?_ Z4.out | refine zI ?_ Z5.out | refine zI ?_ Z6.out) | exact HB.out))) : w.heap.size ≤ Z27)); have n7_ := zK ((by rw [hg]; exact (yK (by repeat (first | (with_reducible first | exact HB.out | apply zJ | apply zD | apply zE | refine zI ?_ Z4.out | refine zI ?_ Z5.out | refine zI ?_ Z6.out) | exact HB.out))) : w.heap.size ≤ Z27)); have n8_ := zK ((by rw [hg]; exact ym (yo (g := Z24) (o := .cells #[.int .i64 a0_0, .int .i64 a0_1, .int .i64 a0_2, .int .i64 a0_3, .int .i64 a0_4, .slice (some ad213) l0_5.length c0_5] 24 (0, 0)) (by (with_reducible repeat (first | refine zF ?_ _ | refine zH ?_ | refine zG ?_ _)); exact Z0.out)) : Z24 ≠ Z27)); have n9_ := zK ((by rw [hg]; exact yn (yo (g := Z24) (o := .cells #[.int .i64 a0_0, .int .i64 a0_1, .int .i64 a0_2, .int .i64 a0_3, .int .i64 a0_4, .slice (some ad213) l0_5.length c0_5] 24 (0, 0)) (by (with_reducible repeat (first | refine zF ?_ _ | refine zH ?_ | refine zG ?_ _)); exact Z0.out)) : Z27 ≠ Z24)); have n10_ := zK ((by rw [hg]; exact ym (yo (g := Z25) (o := .cells #[.int .i64 0, .int .i64 0, .int .i64 0, .int .i64 0, .int .i64 0, .slice none 0 0] 31 (0, 0)) (by (with_reducible repeat (first | refine zF ?_ _ | refine zH ?_ | refine zG ?_ _)); exact Z1.out)) : Z25 ≠ Z27)); have n11_ := zK ((by rw [hg]; exact yn (yo (g := Z25) (o := .cells #[.int .i64 0, .int .i64 0, .int .i64 0, .int .i64 0, .int .i64 0, .slice none 0 0] 31 (0, 0)) (by (with_reducible repeat (first | refine zF ?_ _ | refine zH ?_ | refine zG ?_ _)); exact Z1.out)) : Z27 ≠ Z25)); have n12_ := zK ((by rw [hg]; exact ym (yo (g := Z26) (o := .cells #[.int .i64 a0_0, .int .i64 a0_1, .int .i64 a0_2, .int .i64 a0_3, .int .i64 a0_4, u213005] 31 (0, 0)) (by (with_reducible repeat (first | refine zF ?_ _ | refine zH ?_ | refine zG ?_ _)); exact Z2.out)) : Z26 ≠ Z27)); have n13_ := zK ((by rw [hg]; exact yn (yo (g := Z26) (o := .cells #[.int .i64 a0_0, .int .i64 a0_1, .int .i64 a0_2, .int .i64 a0_3, .int .i64 a0_4, u213005] 31 (0, 0)) (by (with_reducible repeat (first | refine zF ?_ _ | refine zH ?_ | refine zG ?_ _)); exact Z2.out)) : Z27 ≠ Z26)); clear HO_213005 Z0 Z1 Z2 HB; have HO_213005 := n0_; have Z0 := n1_; have Z1 := n2_; have Z2 := n3_; have HB := n4_; have Z3 := n5_; have Z11 := n6_; have Z7 := n7_; have Z14 := n8_; have Z21 := n9_; have Z17 := n10_; have Z22 := n11_; have Z20 := n12_; have Z23 := n13_; clear n0_ n1_ n2_ n3_ n4_ n5_ n6_ n7_ n8_ n9_ n10_ n11_ n12_ n13_ hb hbox hg; have hnb16 := Z21.out; have hnc16 := Z14.out; have hnb17 := Z22.out; have hnc17 := Z17.out; have hnb18 := Z23.out; have hnc18 := Z20.out; have hcz19_0 : w15.cell? ⟨Z27, 0, none⟩ = some (.int .i64 0) := (zO Z3.out 0).trans rfl; have hcz19_1 : w15.cell? ⟨Z27, 1, none⟩ = some (.int .i64 0) := (zO Z3.out 1).trans rfl; have hfz19_0 := yE Z3.out 0; have hfz19_1 := yE Z3.out 1; have hnb20 := Z18.out; have hnc20 := Z13.out; have hnb21 := Z19.out; have hnc21 := Z16.out; have hcz22_0 : w15.cell? ⟨Z26, 0, none⟩ = some (.int .i64 a0_0) := (zO Z2.out 0).trans rfl; have hcz22_1 : w15.cell? ⟨Z26, 1, none⟩ = some (.int .i64 a0_1) := (zO Z2.out 1).trans rfl; have hcz22_2 : w15.cell? ⟨Z26, 2, none⟩ = some (.int .i64 a0_2) := (zO Z2.out 2).trans rfl; have hcz22_3 : w15.cell? ⟨Z26, 3, none⟩ = some (.int .i64 a0_3) := (zO Z2.out 3).trans rfl; have hcz22_4 : w15.cell? ⟨Z26, 4, none⟩ = some (.int .i64 a0_4) := (zO Z2.out 4).trans rfl; have hcz22_5 : w15.cell? ⟨Z26, 5, none⟩ = some (u213005) := (zO Z2.out 5).trans rfl; have hfz22_0 := yE Z2.out 0; have hfz22_1 := yE Z2.out 1; have hfz22_2 := yE Z2.out 2; have hfz22_3 := yE Z2.out 3; have hfz22_4 := yE Z2.out 4; have hfz22_5 := yE Z2.out 5) | ((with_reducible refine gate_builtin (b := .append) (xs := #[.tmp 25, .tmp 31]) rfl ?_); at_builtin; refine Kd.R_append k74 (w0 := w) w.heap.size rfl (.tmp 25) (.tmp 31) 29 74 (.agg #[(.int .i64 0), (.int .i64 0)]) 16 rfl Try.underlying29 info74 rfl (by decide) (by omega) u213005 x213005_1 (⟨(rd_T46 l0_5 x20_1).f0, (rd_T46 l0_5 x20_1).f1⟩ : S74) [.int .i64 ((rd_T46 l0_5 x20_1).f0), .int .i64 ((rd_T46 l0_5 x20_1).f1)] (fun _ => True) (fun _ => False) rfl (by first | (go_simp; done) | (go_simp; rfl)) ?aP (fun _ hk => hk.elim) ?aF ?aO ?aB ?aS ?aL ?_; (case aP => exact k74_mkM _ _ _ (⟨(rd_T46 l0_5 x20_1).f0, (rd_T46 l0_5 x20_1).f1⟩ : S74)); (case aB => exact (by repeat (first | (with_reducible first | exact HB.out | apply zJ | apply zD | apply zE | refine zI ?_ Z4.out | refine zI ?_ Z5.out | refine zI ?_ Z6.out | refine zI ?_ Z7.out) | exact HB.out))); (case aF => exact (fun _ _ => trivial)); (case aO => exact (by (with_reducible repeat (first | apply zL | apply zM | apply zN)); exact yd (Kd.R_far (p := ⟨Z27, 1, none⟩) (Kd.R_far (p := ⟨Z27, 0, none⟩) (Kd.R_types HO_213005.out Z3.out (by decide)) (fun _ hk => hk.2) (.int .i64 ((rd_T46 l0_5 x20_1).f0))) (fun _ hk => hk.2) (.int .i64 ((rd_T46 l0_5 x20_1).f1))) (fun _ hk => trivial))); (case aS => exact (yK (by repeat (first | (with_reducible first | exact HB.out | apply zJ | apply zD | apply zE | refine zI ?_ Z4.out | refine zI ?_ Z5.out | refine zI ?_ Z6.out | refine zI ?_ Z7.out) | exact HB.out)))); (case aL => have := LMc14.out; omega); intro v216 w23 ho hb hg hat; rw [← Ny215.out] at ho; have n0_ := zK (blk_grown (g := Z24) (o := .cells #[.int .i64 a0_0, .int .i64 a0_1, .int .i64 a0_2, .int .i64 a0_3, .int .i64 a0_4, .slice (some ad213) l0_5.length c0_5] 24 (0, 0)) (by (with_reducible repeat (first | refine zF ?_ _ | refine zH ?_ | refine zG ?_ _)); refine blk_far ?_ Z14.out _; (with_reducible repeat (first | refine zF ?_ _ | refine zH ?_ | refine zG ?_ _)); refine blk_far ?_ Z14.out _; (with_reducible repeat (first | refine zF ?_ _ | refine zH ?_ | refine zG ?_ _)); exact Z0.out) hg (Kd.R_ne HO_213005.out Z0.out (by decide))); have n1_ := zK (blk_grown (g := Z25) (o := .cells #[.int .i64 0, .int .i64 0, .int .i64 0, .int .i64 0, .int .i64 0, .slice none 0 0] 31 (0, 0)) (by (with_reducible repeat (first | refine zF ?_ _ | refine zH ?_ | refine zG ?_ _)); refine blk_far ?_ Z17.out _; (with_reducible repeat (first | refine zF ?_ _ | refine zH ?_ | refine zG ?_ _)); refine blk_far ?_ Z17.out _; (with_reducible repeat (first | refine zF ?_ _ | refine zH ?_ | refine zG ?_ _)); exact Z1.out) hg (Kd.R_ne HO_213005.out Z1.out (by decide))); have n2_ := zK (blk_grown (g := Z26) (o := .cells #[.int .i64 a0_0, .int .i64 a0_1, .int .i64 a0_2, .int .i64 a0_3, .int .i64 a0_4, u213005] 31 (0, 0)) (by (with_reducible repeat (first | refine zF ?_ _ | refine zH ?_ | refine zG ?_ _)); refine blk_far ?_ Z20.out _; (with_reducible repeat (first | refine zF ?_ _ | refine zH ?_ | refine zG ?_ _)); refine blk_far ?_ Z20.out _; (with_reducible repeat (first | refine zF ?_ _ | refine zH ?_ | refine zG ?_ _)); exact Z2.out) hg (Kd.R_ne HO_213005.out Z2.out (by decide))); have n3_ := zK (blk_grown (g := Z27) (o := .cells #[.int .i64 ((rd_T46 l0_5 x20_1).f0), .int .i64 ((rd_T46 l0_5 x20_1).f1)] 46 (0, 0)) (by (with_reducible repeat (first | refine zF ?_ _ | refine zH ?_ | refine zG ?_ _)); refine blk_put (cs := #[.int .i64 ((rd_T46 l0_5 x20_1).f0), .int .i64 0]) ?_ 1 _ rfl; (with_reducible repeat (first | refine zF ?_ _ | refine zH ?_ | refine zG ?_ _)); refine blk_put (cs := #[.int .i64 0, .int .i64 0]) ?_ 0 _ rfl; (with_reducible repeat (first | refine zF ?_ _ | refine zH ?_ | refine zG ?_ _)); exact Z3.out) hg (Kd.R_ne HO_213005.out Z3.out (by decide))); have n4_ := zK (hb); have n5_ := zK (ho); clear Z0 Z1 Z2 Z3 HB HO_213005; have Z0 := n0_; have Z1 := n1_; have Z2 := n2_; have Z3 := n3_; have HB := n4_; have HO217 := n5_; clear n0_ n1_ n2_ n3_ n4_ n5_ ho hb hg hat; obtain ⟨Ao24, co24, eo24⟩ := Kd.R_slice HO217.out; subst eo24; have hcz25_0 : w23.cell? ⟨Z26, 0, none⟩ = some (.int .i64 a0_0) := (zO Z2.out 0).trans rfl; have hcz25_1 : w23.cell? ⟨Z26, 1, none⟩ = some (.int .i64 a0_1) := (zO Z2.out 1).trans rfl; have hcz25_2 : w23.cell? ⟨Z26, 2, none⟩ = some (.int .i64 a0_2) := (zO Z2.out 2).trans rfl; have hcz25_3 : w23.cell? ⟨Z26, 3, none⟩ = some (.int .i64 a0_3) := (zO Z2.out 3).trans rfl; have hcz25_4 : w23.cell? ⟨Z26, 4, none⟩ = some (.int .i64 a0_4) := (zO Z2.out 4).trans rfl; have hcz25_5 : w23.cell? ⟨Z26, 5, none⟩ = some (u213005) := (zO Z2.out 5).trans rfl; have hfz25_0 := yE Z2.out 0; have hfz25_1 := yE Z2.out 1; have hfz25_2 := yE Z2.out 2; have hfz25_3 := yE Z2.out 3; have hfz25_4 := yE Z2.out 4; have hfz25_5 := yE Z2.out 5))
        go_roundg k1
        case measure => have := HK1.out; omega
        case rel => exact ⟨(wrap64 (x20_1 + 1)), (y215), (.slice Ao24 y215.length co24), (by first | rfl | (simp; done) | (simp [*]; done)), H', ⟨by have := HK1.out; omega⟩, ⟨by (with_reducible repeat (first | apply zL | apply zM | apply zN)); exact yd (Kd.R_far (p := ⟨Z26, 5, none⟩) (Kd.R_types HO217.out Z2.out (by decide)) (fun _ hk => hk.2) (.slice Ao24 y215.length co24)) (fun _ hk => trivial)⟩, ⟨by (with_reducible repeat (first | refine zF ?_ _ | refine zH ?_ | refine zG ?_ _)); refine blk_far ?_ Z13.out _; (with_reducible repeat (first | refine zF ?_ _ | refine zH ?_ | refine zG ?_ _)); exact Z0.out⟩, ⟨by (with_reducible repeat (first | refine zF ?_ _ | refine zH ?_ | refine zG ?_ _)); refine blk_far ?_ Z16.out _; (with_reducible repeat (first | refine zF ?_ _ | refine zH ?_ | refine zG ?_ _)); exact Z1.out⟩, ⟨by (with_reducible repeat (first | refine zF ?_ _ | refine zH ?_ | refine zG ?_ _)); refine blk_put (cs := #[.int .i64 a0_0, .int .i64 a0_1, .int .i64 a0_2, .int .i64 a0_3, .int .i64 a0_4, u213005]) ?_ 5 _ rfl; (with_reducible repeat (first | refine zF ?_ _ | refine zH ?_ | refine zG ?_ _)); exact Z2.out⟩, ⟨by repeat (first | (with_reducible first | exact HB.out | apply zJ | apply zD | apply zE | refine zI ?_ Z4.out | refine zI ?_ Z5.out | refine zI ?_ Z6.out | refine zI ?_ Z7.out) | exact HB.out)⟩⟩
       ·rw [if_neg c14] at H
        exact absurd H (by simp)
      ·rw [if_neg c13] at H
       exact absurd H (by simp)
     ·rw [if_neg c12] at H
      exact absurd H (by simp)
    ·rw [if_neg c11] at H
     have c11b0 : decide (x20_1 < (l0_5.length : Int)) = false := yD c11
     clear c11
     simp only [yZ, ya] at H
     obtain ⟨rfl, rfl, rfl, rfl, rfl, rfl⟩ := H
     have hnb26 := Z18.out
     have hnc26 := Z13.out
     have hnb27 := Z19.out
     have hnc27 := Z16.out
     have hcz28_0 : wr.cell? ⟨Z26, 0, none⟩ = some (.int .i64 a0_0) := (zO Z2.out 0).trans rfl
     have hcz28_1 : wr.cell? ⟨Z26, 1, none⟩ = some (.int .i64 a0_1) := (zO Z2.out 1).trans rfl
     have hcz28_2 : wr.cell? ⟨Z26, 2, none⟩ = some (.int .i64 a0_2) := (zO Z2.out 2).trans rfl
     have hcz28_3 : wr.cell? ⟨Z26, 3, none⟩ = some (.int .i64 a0_3) := (zO Z2.out 3).trans rfl
     have hcz28_4 : wr.cell? ⟨Z26, 4, none⟩ = some (.int .i64 a0_4) := (zO Z2.out 4).trans rfl
     have hcz28_5 : wr.cell? ⟨Z26, 5, none⟩ = some (u213005) := (zO Z2.out 5).trans rfl
     have hfz28_0 := yE Z2.out 0
     have hfz28_1 := yE Z2.out 1
     have hfz28_2 := yE Z2.out 2
     have hfz28_3 := yE Z2.out 3
     have hfz28_4 := yE Z2.out 4
     have hfz28_5 := yE Z2.out 5
     have hnb29 := Z15.out
     have hnc29 := Z12.out
     have hcz30_0 : wr.cell? ⟨Z25, 0, none⟩ = some (.int .i64 0) := (zO Z1.out 0).trans rfl
     have hcz30_1 : wr.cell? ⟨Z25, 1, none⟩ = some (.int .i64 0) := (zO Z1.out 1).trans rfl
     have hcz30_2 : wr.cell? ⟨Z25, 2, none⟩ = some (.int .i64 0) := (zO Z1.out 2).trans rfl
     have hcz30_3 : wr.cell? ⟨Z25, 3, none⟩ = some (.int .i64 0) := (zO Z1.out 3).trans rfl
     have hcz30_4 : wr.cell? ⟨Z25, 4, none⟩ = some (.int .i64 0) := (zO Z1.out 4).trans rfl
     have hcz30_5 : wr.cell? ⟨Z25, 5, none⟩ = some (.slice none 0 0) := (zO Z1.out 5).trans rfl
     have hfz30_0 := yE Z1.out 0
     have hfz30_1 := yE Z1.out 1
     have hfz30_2 := yE Z1.out 2
     have hfz30_3 := yE Z1.out 3
     have hfz30_4 := yE Z1.out 4
     have hfz30_5 := yE Z1.out 5
     obtain ⟨Ao31, co31, eo31⟩ := Kd.R_slice HO_213005.out
     subst eo31
     go_wp2
     refine bodyPost_ret (results_cell_row rfl _ _ Z25 31 #[.int .i64 a0_0, .int .i64 a0_1, .int .i64 a0_2, .int .i64 a0_3, .int .i64 a0_4, .slice Ao31 x213005_1.length co31] (0, 0) _ rfl (by (with_reducible repeat (first | refine zF ?_ _ | refine zH ?_ | refine zG ?_ _)); refine blk_put (cs := #[.int .i64 a0_0, .int .i64 a0_1, .int .i64 a0_2, .int .i64 a0_3, .int .i64 a0_4, .slice none 0 0]) ?_ 5 _ rfl; (with_reducible repeat (first | refine zF ?_ _ | refine zH ?_ | refine zG ?_ _)); refine blk_put (cs := #[.int .i64 a0_0, .int .i64 a0_1, .int .i64 a0_2, .int .i64 a0_3, .int .i64 0, .slice none 0 0]) ?_ 4 _ rfl; (with_reducible repeat (first | refine zF ?_ _ | refine zH ?_ | refine zG ?_ _)); refine blk_put (cs := #[.int .i64 a0_0, .int .i64 a0_1, .int .i64 a0_2, .int .i64 0, .int .i64 0, .slice none 0 0]) ?_ 3 _ rfl; (with_reducible repeat (first | refine zF ?_ _ | refine zH ?_ | refine zG ?_ _)); refine blk_put (cs := #[.int .i64 a0_0, .int .i64 a0_1, .int .i64 0, .int .i64 0, .int .i64 0, .slice none 0 0]) ?_ 2 _ rfl; (with_reducible repeat (first | refine zF ?_ _ | refine zH ?_ | refine zG ?_ _)); refine blk_put (cs := #[.int .i64 a0_0, .int .i64 0, .int .i64 0, .int .i64 0, .int .i64 0, .slice none 0 0]) ?_ 1 _ rfl; (with_reducible repeat (first | refine zF ?_ _ | refine zH ?_ | refine zG ?_ _)); refine blk_put (cs := #[.int .i64 0, .int .i64 0, .int .i64 0, .int .i64 0, .int .i64 0, .slice none 0 0]) ?_ 0 _ rfl; (with_reducible repeat (first | refine zF ?_ _ | refine zH ?_ | refine zG ?_ _)); exact Z1.out) Try.underlying31 rfl (by kernel_rfl)) rfl ?_
     exact ⟨_, by first | rfl | (simp [errW_none, errW_some] <;> rfl) | (simp [*, errW_none, errW_some] <;> rfl), by (with_reducible repeat (first | apply zL | apply zM | apply zN)); exact yd (Kd.R_far (p := ⟨Z25, 5, none⟩) (Kd.R_far (p := ⟨Z25, 4, none⟩) (Kd.R_far (p := ⟨Z25, 3, none⟩) (Kd.R_far (p := ⟨Z25, 2, none⟩) (Kd.R_far (p := ⟨Z25, 1, none⟩) (Kd.R_far (p := ⟨Z25, 0, none⟩) (Kd.R_types HO_213005.out Z1.out (by decide)) (fun _ hk => hk.2) (.int .i64 a0_0)) (fun _ hk => hk.2) (.int .i64 a0_1)) (fun _ hk => hk.2) (.int .i64 a0_2)) (fun _ hk => hk.2) (.int .i64 a0_3)) (fun _ hk => hk.2) (.int .i64 a0_4)) (fun _ hk => hk.2) (.slice Ao31 x213005_1.length co31)) (fun _ hk => trivial), by repeat (first | (with_reducible first | exact HB.out | apply zJ | apply zD | apply zE | refine zI ?_ Z4.out | refine zI ?_ Z5.out | refine zI ?_ Z6.out) | exact HB.out)⟩

end Go.Proofs.Ythmckhfjaleomaa.T
