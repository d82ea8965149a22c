-- Printed by this session's own driver (wip/tools/xprint.py) over the kit's printer; given functions are this session's own.
import Derived.Test.YtdkcfacmbjboeaaR0
import Derived.Test.YtdkcfacmbjboeaaR1
namespace Go.Proofs.Ytdkcfacmbjboeaa.R
open Go.RowKit Go.Proofs.YtdkcfacmbjboeaaW.PrintWords Go.Proofs.YtdkcfacmbjboeaaW.PrintLast Go.Proofs.YtdkcfacmbjboeaaW.PrintMore
attribute [local go_sem] max2_int min2_int max_two min_two max_three min_three max_four min_four   -- for this text's walks alone
set_option linter.unusedVariables false
set_option linter.unusedSimpArgs false

/-! ### admit_Need: function 19 -/
mutual
def admit_Need.j0 : Nat → Bool → Int → Int → Int → Int → Int → Int → List Int → Int → Int → Int → Int → Int → List (S111) → Int → Int → Int → List Bool → List (S114) → ByteArray → Option (Int × Int)
  | 0, _, _, _, _, _, _, _, _, _, _, _, _, _, _, _, _, _, _, _, _ => none
  | k + 1, x14, Y0, Y1, Y2, Y3, Y4, Y5, Y6, Y7, Y8, Y9, Y10, Y11, Y12, Y13, Y14, Y15, Y16, Y17, Y18 => if x14 = true then (some (0, 251)) else (if Y14 < 0 then (admit_Need.j1 k true Y0 Y1 Y2 Y3 Y4 Y5 Y6 Y7 Y8 Y9 Y10 Y11 Y12 Y13 Y14 Y15 Y16 Y17 Y18) else (if Y14 > 16 then (admit_Need.j1 k true Y0 Y1 Y2 Y3 Y4 Y5 Y6 Y7 Y8 Y9 Y10 Y11 Y12 Y13 Y14 Y15 Y16 Y17 Y18) else (if Y15 < 0 then (admit_Need.j1 k true Y0 Y1 Y2 Y3 Y4 Y5 Y6 Y7 Y8 Y9 Y10 Y11 Y12 Y13 Y14 Y15 Y16 Y17 Y18) else (admit_Need.j1 k (decide (Y15 > 8)) Y0 Y1 Y2 Y3 Y4 Y5 Y6 Y7 Y8 Y9 Y10 Y11 Y12 Y13 Y14 Y15 Y16 Y17 Y18))))
def admit_Need.j1 : Nat → Bool → Int → Int → Int → Int → Int → Int → List Int → Int → Int → Int → Int → Int → List (S111) → Int → Int → Int → List Bool → List (S114) → ByteArray → Option (Int × Int)
  | 0, _, _, _, _, _, _, _, _, _, _, _, _, _, _, _, _, _, _, _, _ => none
  | k + 1, x23, Y0, Y1, Y2, Y3, Y4, Y5, Y6, Y7, Y8, Y9, Y10, Y11, Y12, Y13, Y14, Y15, Y16, Y17, Y18 => if x23 = true then (some (0, 252)) else (if (Y6.length : Int) = 0 then (some (0, 212)) else (if (Y6.length : Int) > 512 then (some (0, 212)) else ((admit_Blocks.f k Y0 Y1 Y2 Y3 Y4 Y5 (wrap64 ((wrap64 ((Y6.length : Int) + Y13)) - 1))).bind fun bt132 => ((admit_uses.f Y6 Y7 Y8 Y9 Y10 Y11 Y12 Y13 Y14 Y15 Y16 Y17 Y18).bind fun t134 => (if t134 = true then (some (wrap64 (bt132.1 * 2), bt132.2)) else (some (bt132.1, bt132.2)))))))
end
def admit_Need.f (k : Nat) (a0_0 : Int) (a0_1 : Int) (a0_2 : Int) (a0_3 : Int) (a0_4 : Int) (a0_5 : Int) (l1_0 : List Int) (a1_1 : Int) (a1_2 : Int) (a1_3 : Int) (a1_4 : Int) (a1_5 : Int) (l1_6 : List (S111)) (a1_7 : Int) (a1_8 : Int) (a1_9 : Int) (l1_10 : List Bool) (l1_11 : List (S114)) (a1_12 : ByteArray) : Option (Int × Int) := (admit_Check.f k a0_0 a0_1 a0_2 a0_3 a0_4 a0_5).bind fun t131 => (if t131 = 0 then (if a1_7 < 1 then (admit_Need.j0 k true a0_0 a0_1 a0_2 a0_3 a0_4 a0_5 l1_0 a1_1 a1_2 a1_3 a1_4 a1_5 l1_6 a1_7 a1_8 a1_9 l1_10 l1_11 a1_12) else (admit_Need.j0 k (decide (a1_7 > 512)) a0_0 a0_1 a0_2 a0_3 a0_4 a0_5 l1_0 a1_1 a1_2 a1_3 a1_4 a1_5 l1_6 a1_7 a1_8 a1_9 l1_10 l1_11 a1_12)) else (some (0, t131)))
theorem admit_Need.mono_l : ∀ k, (∀ y0 y1 y2 y3 y4 y5 y6 y7 y8 y9 y10 y11 y12 y13 y14 y15 y16 y17 y18 y19, LeO (admit_Need.j0 k y0 y1 y2 y3 y4 y5 y6 y7 y8 y9 y10 y11 y12 y13 y14 y15 y16 y17 y18 y19) (admit_Need.j0 (k + 1) y0 y1 y2 y3 y4 y5 y6 y7 y8 y9 y10 y11 y12 y13 y14 y15 y16 y17 y18 y19)) ∧ (∀ y0 y1 y2 y3 y4 y5 y6 y7 y8 y9 y10 y11 y12 y13 y14 y15 y16 y17 y18 y19, LeO (admit_Need.j1 k y0 y1 y2 y3 y4 y5 y6 y7 y8 y9 y10 y11 y12 y13 y14 y15 y16 y17 y18 y19) (admit_Need.j1 (k + 1) y0 y1 y2 y3 y4 y5 y6 y7 y8 y9 y10 y11 y12 y13 y14 y15 y16 y17 y18 y19))
  | 0 => ⟨fun _ _ _ _ _ _ _ _ _ _ _ _ _ _ _ _ _ _ _ _ r h => by simp [admit_Need.j0] at h, fun _ _ _ _ _ _ _ _ _ _ _ _ _ _ _ _ _ _ _ _ r h => by simp [admit_Need.j1] at h⟩
  | k + 1 => by
    obtain ⟨ih0, ih1⟩ := admit_Need.mono_l k
    refine ⟨?_, ?_⟩
    · intro y0 y1 y2 y3 y4 y5 y6 y7 y8 y9 y10 y11 y12 y13 y14 y15 y16 y17 y18 y19
      unfold admit_Need.j0
      repeat' first
      | (with_reducible exact ih0 _ _ _ _ _ _ _ _ _ _ _ _ _ _ _ _ _ _ _ _)
      | (with_reducible exact ih1 _ _ _ _ _ _ _ _ _ _ _ _ _ _ _ _ _ _ _ _)
      | (with_reducible exact admit_Blocks.mono _ _ _ _ _ _ _ _)
      | (with_reducible exact admit_Check.mono _ _ _ _ _ _ _)
      | (with_reducible exact LeO.refl _)
      | (with_reducible exact LeO.none _)
      | (with_reducible refine LeO.ite ?_ ?_)
      | (with_reducible refine LeO.bind ?_ (fun _ => ?_))
      | exact ih0 _ _ _ _ _ _ _ _ _ _ _ _ _ _ _ _ _ _ _ _
      | exact ih1 _ _ _ _ _ _ _ _ _ _ _ _ _ _ _ _ _ _ _ _
      | exact admit_Blocks.mono _ _ _ _ _ _ _ _
      | exact admit_Check.mono _ _ _ _ _ _ _
      | exact LeO.none _
      | refine LeO.ite ?_ ?_
      | refine LeO.bind ?_ (fun _ => ?_)
    · intro y0 y1 y2 y3 y4 y5 y6 y7 y8 y9 y10 y11 y12 y13 y14 y15 y16 y17 y18 y19
      unfold admit_Need.j1
      repeat' first
      | (with_reducible exact ih0 _ _ _ _ _ _ _ _ _ _ _ _ _ _ _ _ _ _ _ _)
      | (with_reducible exact ih1 _ _ _ _ _ _ _ _ _ _ _ _ _ _ _ _ _ _ _ _)
      | (with_reducible exact admit_Blocks.mono _ _ _ _ _ _ _ _)
      | (with_reducible exact admit_Check.mono _ _ _ _ _ _ _)
      | (with_reducible exact LeO.refl _)
      | (with_reducible exact LeO.none _)
      | (with_reducible refine LeO.ite ?_ ?_)
      | (with_reducible refine LeO.bind ?_ (fun _ => ?_))
      | exact ih0 _ _ _ _ _ _ _ _ _ _ _ _ _ _ _ _ _ _ _ _
      | exact ih1 _ _ _ _ _ _ _ _ _ _ _ _ _ _ _ _ _ _ _ _
      | exact admit_Blocks.mono _ _ _ _ _ _ _ _
      | exact admit_Check.mono _ _ _ _ _ _ _
      | exact LeO.none _
      | refine LeO.ite ?_ ?_
      | refine LeO.bind ?_ (fun _ => ?_)
theorem admit_Need.mono : ∀ a0 a1 a2 a3 a4 a5 a6 a7 a8 a9 a10 a11 a12 a13 a14 a15 a16 a17 a18 k, LeO (admit_Need.f k a0 a1 a2 a3 a4 a5 a6 a7 a8 a9 a10 a11 a12 a13 a14 a15 a16 a17 a18) (admit_Need.f (k + 1) a0 a1 a2 a3 a4 a5 a6 a7 a8 a9 a10 a11 a12 a13 a14 a15 a16 a17 a18) := by
  intro a0 a1 a2 a3 a4 a5 a6 a7 a8 a9 a10 a11 a12 a13 a14 a15 a16 a17 a18 k
  obtain ⟨ih0, ih1⟩ := admit_Need.mono_l k
  unfold admit_Need.f
  repeat' first
      | (with_reducible exact ih0 _ _ _ _ _ _ _ _ _ _ _ _ _ _ _ _ _ _ _ _)
      | (with_reducible exact ih1 _ _ _ _ _ _ _ _ _ _ _ _ _ _ _ _ _ _ _ _)
      | (with_reducible exact admit_Blocks.mono _ _ _ _ _ _ _ _)
      | (with_reducible exact admit_Check.mono _ _ _ _ _ _ _)
      | (with_reducible exact LeO.refl _)
      | (with_reducible exact LeO.none _)
      | (with_reducible refine LeO.ite ?_ ?_)
      | (with_reducible refine LeO.bind ?_ (fun _ => ?_))
      | exact ih0 _ _ _ _ _ _ _ _ _ _ _ _ _ _ _ _ _ _ _ _
      | exact ih1 _ _ _ _ _ _ _ _ _ _ _ _ _ _ _ _ _ _ _ _
      | exact admit_Blocks.mono _ _ _ _ _ _ _ _
      | exact admit_Check.mono _ _ _ _ _ _ _
      | exact LeO.none _
      | refine LeO.ite ?_ ?_
      | refine LeO.bind ?_ (fun _ => ?_)
set_option maxHeartbeats 8000000 in
set_option maxRecDepth 100000 in
theorem admit_Need.calls (k : Nat) (a0_0 : Int) (a0_1 : Int) (a0_2 : Int) (a0_3 : Int) (a0_4 : Int) (a0_5 : Int) (A1_0 : Option Addr) (c1_0 : Nat) (l1_0 : List Int) (a1_1 : Int) (a1_2 : Int) (a1_3 : Int) (a1_4 : Int) (a1_5 : Int) (A1_6 : Option Addr) (c1_6 : Nat) (l1_6 : List (S111)) (a1_7 : Int) (a1_8 : Int) (a1_9 : Int) (A1_10 : Option Addr) (c1_10 : Nat) (l1_10 : List Bool) (A1_11 : Option Addr) (c1_11 : Nat) (l1_11 : List (S114)) (a1_12 : ByteArray) (r1 : Int) (r2 : Int) (w : World) (hr1_0 : Kd.C (Kd.int .i64) w A1_0 l1_0.length l1_0) (hc1_0 : l1_0.length ≤ c1_0) (hr1_6 : Kd.C k111 w A1_6 l1_6.length l1_6) (hc1_6 : l1_6.length ≤ c1_6) (hr1_10 : Kd.C Kd.bool w A1_10 l1_10.length l1_10) (hc1_10 : l1_10.length ≤ c1_10) (hr1_11 : Kd.C k114 w A1_11 l1_11.length l1_11) (hc1_11 : l1_11.length ≤ c1_11) (h : admit_Need.f k a0_0 a0_1 a0_2 a0_3 a0_4 a0_5 l1_0 a1_1 a1_2 a1_3 a1_4 a1_5 l1_6 a1_7 a1_8 a1_9 l1_10 l1_11 a1_12 = some (r1, r2)) :
    Calls Try.prog 19 #[.agg #[.int .i64 a0_0, .int .i64 a0_1, .int .i64 a0_2, .int .i64 a0_3, .int .i64 a0_4, .int .i64 a0_5], .agg #[.slice A1_0 l1_0.length c1_0, .int .i64 a1_1, .int .i64 a1_2, .int .i64 a1_3, .int .i64 a1_4, .int .i64 a1_5, .slice A1_6 l1_6.length c1_6, .int .i64 a1_7, .int .i64 a1_8, .int .i64 a1_9, .slice A1_10 l1_10.length c1_10, .slice A1_11 l1_11.length c1_11, .string a1_12]] w fun e w' => e = .returned (.tuple #[.int .i64 r1, .int .i64 r2]) ∧ Below w.heap.size w w' := by
  have hu23 := Try.underlying23
  have hu46 := Try.underlying46
  have HR1_0 := Aside0.mk hr1_0
  have HC1_0 := Aside0.mk hc1_0
  clear hr1_0 hc1_0
  have HR1_6 := Aside0.mk hr1_6
  have HC1_6 := Aside0.mk hc1_6
  clear hr1_6 hc1_6
  have HR1_10 := Aside0.mk hr1_10
  have HC1_10 := Aside0.mk hc1_10
  clear hr1_10 hc1_10
  have HR1_11 := Aside0.mk hr1_11
  have HC1_11 := Aside0.mk hc1_11
  clear hr1_11 hc1_11
  have HB := Aside0.mk (Below.refl w.heap.size w)
  have H : ((admit_Check.f k a0_0 a0_1 a0_2 a0_3 a0_4 a0_5).bind fun t131 => (if t131 = 0 then (if a1_7 < 1 then (admit_Need.j0 k true a0_0 a0_1 a0_2 a0_3 a0_4 a0_5 l1_0 a1_1 a1_2 a1_3 a1_4 a1_5 l1_6 a1_7 a1_8 a1_9 l1_10 l1_11 a1_12) else (admit_Need.j0 k (decide (a1_7 > 512)) a0_0 a0_1 a0_2 a0_3 a0_4 a0_5 l1_0 a1_1 a1_2 a1_3 a1_4 a1_5 l1_6 a1_7 a1_8 a1_9 l1_10 l1_11 a1_12)) else (some (0, t131)))) = some (r1, r2) := h
  clear h
  replace H := Option.bind_eq_some_iff.mp H
  obtain ⟨t131, A30, H⟩ := H
  replace H : (if t131 = 0 then (if a1_7 < 1 then (admit_Need.j0 k true a0_0 a0_1 a0_2 a0_3 a0_4 a0_5 l1_0 a1_1 a1_2 a1_3 a1_4 a1_5 l1_6 a1_7 a1_8 a1_9 l1_10 l1_11 a1_12) else (admit_Need.j0 k (decide (a1_7 > 512)) a0_0 a0_1 a0_2 a0_3 a0_4 a0_5 l1_0 a1_1 a1_2 a1_3 a1_4 a1_5 l1_6 a1_7 a1_8 a1_9 l1_10 l1_11 a1_12)) else (some (0, t131))) = some (r1, r2) := H
  have A3 := Aside0.mk A30
  clear A30
  by_cases c4 : t131 = 0
  · rw [if_pos c4] at H
    have c4b0 : (t131 == 0) = true := beq_iff_eq.mpr c4
    have c4b1 : (t131 != 0) = false := bne_eq_false_iff_eq.mpr c4
    clear c4
    have HC5 := Aside0.mk H
    clear H
    go_enter Try.func19, Try.ntmps19
    go_upto_region 4 with (first | ((with_reducible refine gate_dst (N := 2) rfl ?_); (try (refine gate_guard (by rfl) ?_; dsimp only)); refine box_event ?hg (N := 2) ?hd (cs := #[.int .i64 a0_0, .int .i64 a0_1, .int .i64 a0_2, .int .i64 a0_3, .int .i64 a0_4, .int .i64 a0_5]) (t := 23) ?hr ?_; (case hd => rfl); (case hg => rfl); (case hr => first | (go_simp; done) | (go_simp; rfl)); intro gb129 hg w6 hbox hb; have n0_ := Aside0.mk (below_step (by repeat (first | (with_reducible first | exact HB.out | apply below_alloc | apply pw_below_drewN | apply below_drew1) | exact HB.out)) hb); have n1_ := Aside0.mk (hbox); have n2_ := Aside0.mk ((by rw [hg]; exact (below_size (by repeat (first | (with_reducible first | exact HB.out | apply below_alloc | apply pw_below_drewN | apply below_drew1) | exact HB.out))) : w.heap.size ≤ gb129)); have n3_ := Aside0.mk ((by rw [hg]; exact (below_size (by repeat (first | (with_reducible first | exact HB.out | apply below_alloc | apply pw_below_drewN | apply below_drew1) | exact HB.out))) : w.heap.size ≤ gb129)); clear HB; have HB := n0_; have BK129 := n1_; have GW129 := n2_; have GE129 := n3_; clear n0_ n1_ n2_ n3_; clear hb hbox hg) | ((with_reducible refine gate_dst (N := 3) rfl ?_); (try (refine gate_guard (by rfl) ?_; dsimp only)); refine box_event ?hg (N := 3) ?hd (cs := #[.slice A1_0 l1_0.length c1_0, .int .i64 a1_1, .int .i64 a1_2, .int .i64 a1_3, .int .i64 a1_4, .int .i64 a1_5, .slice A1_6 l1_6.length c1_6, .int .i64 a1_7, .int .i64 a1_8, .int .i64 a1_9, .slice A1_10 l1_10.length c1_10, .slice A1_11 l1_11.length c1_11, .string a1_12]) (t := 46) ?hr ?_; (case hd => rfl); (case hg => rfl); (case hr => first | (go_simp; done) | (go_simp; rfl)); intro gb130 hg w7 hbox hb; have n0_ := Aside0.mk (blk_below (g := gb129) (o := .cells #[.int .i64 a0_0, .int .i64 a0_1, .int .i64 a0_2, .int .i64 a0_3, .int .i64 a0_4, .int .i64 a0_5] 23 (0, 0)) (by (with_reducible repeat (first | refine blk_drewN ?_ _ | refine blk_drew ?_ | refine blk_alloc ?_ _)); exact BK129.out) hb); have n1_ := Aside0.mk (below_step (by repeat (first | (with_reducible first | exact HB.out | apply below_alloc | apply pw_below_drewN | apply below_drew1 | refine below_set ?_ GE129.out) | exact HB.out)) hb); have n2_ := Aside0.mk (hbox); have n3_ := Aside0.mk ((by rw [hg]; exact (below_size (by repeat (first | (with_reducible first | exact HB.out | apply below_alloc | apply pw_below_drewN | apply below_drew1 | refine below_set ?_ GE129.out) | exact HB.out))) : w.heap.size ≤ gb130)); have n4_ := Aside0.mk ((by rw [hg]; exact (below_size (by repeat (first | (with_reducible first | exact HB.out | apply below_alloc | apply pw_below_drewN | apply below_drew1 | refine below_set ?_ GE129.out) | exact HB.out))) : w.heap.size ≤ gb130)); have n5_ := Aside0.mk ((by rw [hg]; exact Nat.ne_of_lt (blk_lt (g := gb129) (o := .cells #[.int .i64 a0_0, .int .i64 a0_1, .int .i64 a0_2, .int .i64 a0_3, .int .i64 a0_4, .int .i64 a0_5] 23 (0, 0)) (by (with_reducible repeat (first | refine blk_drewN ?_ _ | refine blk_drew ?_ | refine blk_alloc ?_ _)); exact BK129.out)) : gb129 ≠ gb130)); have n6_ := Aside0.mk ((by rw [hg]; exact Nat.ne_of_gt (blk_lt (g := gb129) (o := .cells #[.int .i64 a0_0, .int .i64 a0_1, .int .i64 a0_2, .int .i64 a0_3, .int .i64 a0_4, .int .i64 a0_5] 23 (0, 0)) (by (with_reducible repeat (first | refine blk_drewN ?_ _ | refine blk_drew ?_ | refine blk_alloc ?_ _)); exact BK129.out)) : gb130 ≠ gb129)); clear BK129; clear HB; have BK129 := n0_; have HB := n1_; have BK130 := n2_; have GW130 := n3_; have GE130 := n4_; have NB129_130 := n5_; have NB130_129 := n6_; clear n0_ n1_ n2_ n3_ n4_ n5_ n6_; clear hb hbox hg; have hnb8 := NB129_130.out; have hnc8 := NB130_129.out; have hcz9_0 : w7.cell? ⟨gb129, 0, none⟩ = some (.int .i64 a0_0) := (blk_cell BK129.out 0).trans rfl; have hcz9_1 : w7.cell? ⟨gb129, 1, none⟩ = some (.int .i64 a0_1) := (blk_cell BK129.out 1).trans rfl; have hcz9_2 : w7.cell? ⟨gb129, 2, none⟩ = some (.int .i64 a0_2) := (blk_cell BK129.out 2).trans rfl; have hcz9_3 : w7.cell? ⟨gb129, 3, none⟩ = some (.int .i64 a0_3) := (blk_cell BK129.out 3).trans rfl; have hcz9_4 : w7.cell? ⟨gb129, 4, none⟩ = some (.int .i64 a0_4) := (blk_cell BK129.out 4).trans rfl; have hcz9_5 : w7.cell? ⟨gb129, 5, none⟩ = some (.int .i64 a0_5) := (blk_cell BK129.out 5).trans rfl; have hfz9_0 := blk_frozen BK129.out 0; have hfz9_1 := blk_frozen BK129.out 1; have hfz9_2 := blk_frozen BK129.out 2; have hfz9_3 := blk_frozen BK129.out 3; have hfz9_4 := blk_frozen BK129.out 4; have hfz9_5 := blk_frozen BK129.out 5) | ((with_reducible refine gate_callee (f := 15) rfl ?_); refine goesL_ (some 10) rfl rfl Try.func15 (by kernel_rfl) rfl #[.agg #[.int .i64 a0_0, .int .i64 a0_1, .int .i64 a0_2, .int .i64 a0_3, .int .i64 a0_4, .int .i64 a0_5]] rfl (by (try simp only [List.map_toArray, List.map_cons, List.map_nil]); first | done | rfl | (simp only [List.length_drop, List.length_take]; rfl)) ?_; (with_reducible refine (admit_Check.calls k a0_0 a0_1 a0_2 a0_3 a0_4 a0_5 t131 _ A3.out).mono ?_); rintro e w10 ⟨rfl, hb⟩; refine ⟨_, rfl, ?_⟩; have n0_ := Aside0.mk (blk_below (g := gb129) (o := .cells #[.int .i64 a0_0, .int .i64 a0_1, .int .i64 a0_2, .int .i64 a0_3, .int .i64 a0_4, .int .i64 a0_5] 23 (0, 0)) (by (with_reducible repeat (first | refine blk_drewN ?_ _ | refine blk_drew ?_ | refine blk_alloc ?_ _)); exact BK129.out) hb); have n1_ := Aside0.mk (blk_below (g := gb130) (o := .cells #[.slice A1_0 l1_0.length c1_0, .int .i64 a1_1, .int .i64 a1_2, .int .i64 a1_3, .int .i64 a1_4, .int .i64 a1_5, .slice A1_6 l1_6.length c1_6, .int .i64 a1_7, .int .i64 a1_8, .int .i64 a1_9, .slice A1_10 l1_10.length c1_10, .slice A1_11 l1_11.length c1_11, .string a1_12] 46 (0, 0)) (by (with_reducible repeat (first | refine blk_drewN ?_ _ | refine blk_drew ?_ | refine blk_alloc ?_ _)); exact BK130.out) hb); have n2_ := Aside0.mk (below_step (by repeat (first | (with_reducible first | exact HB.out | apply below_alloc | apply pw_below_drewN | apply below_drew1 | refine below_set ?_ GE129.out | refine below_set ?_ GE130.out) | exact HB.out)) hb); clear BK129; clear BK130; clear HB; have BK129 := n0_; have BK130 := n1_; have HB := n2_; clear n0_ n1_ n2_; (try clear hb); (try clear hb2); (try clear hk); (try clear hi)))
    (try simp only [Act.put, List.setIfInBounds_toArray, List.set_cons_zero, List.set_cons_succ])
    go_cut [14] (fun v14 wc => ∃ (kq : Nat) (x14_4 : Bool), v14 = .bool x14_4 ∧ Aside0 (admit_Need.j0 kq x14_4 a0_0 a0_1 a0_2 a0_3 a0_4 a0_5 l1_0 a1_1 a1_2 a1_3 a1_4 a1_5 l1_6 a1_7 a1_8 a1_9 l1_10 l1_11 a1_12 = some (r1, r2)) ∧ Aside0 (kq ≤ k) ∧ Aside0 (wc.heap[gb129]? = some (.cells #[.int .i64 a0_0, .int .i64 a0_1, .int .i64 a0_2, .int .i64 a0_3, .int .i64 a0_4, .int .i64 a0_5] 23 (0, 0))) ∧ Aside0 (wc.heap[gb130]? = some (.cells #[(.slice A1_0 l1_0.length c1_0), .int .i64 a1_1, .int .i64 a1_2, .int .i64 a1_3, .int .i64 a1_4, .int .i64 a1_5, (.slice A1_6 l1_6.length c1_6), .int .i64 a1_7, .int .i64 a1_8, .int .i64 a1_9, (.slice A1_10 l1_10.length c1_10), (.slice A1_11 l1_11.length c1_11), .string a1_12] 46 (0, 0))) ∧ Aside0 (Below w.heap.size w wc))
    case first =>
      have H := HC5.out
      clear HC5
      by_cases c11 : a1_7 < 1
      · rw [if_pos c11] at H
        have c11b0 : decide (a1_7 < 1) = true := decide_eq_true c11
        clear c11
        (first | rw [c11b0] | (simp only [i64_w, i32_w]; rw [c11b0]) | skip)
        have H' := Aside0.mk H
        clear H
        have hnb12 := NB130_129.out
        have hnc12 := NB129_130.out
        have hcz13_0 : w10.cell? ⟨gb130, 0, none⟩ = some (.slice A1_0 l1_0.length c1_0) := (blk_cell BK130.out 0).trans rfl
        have hcz13_1 : w10.cell? ⟨gb130, 1, none⟩ = some (.int .i64 a1_1) := (blk_cell BK130.out 1).trans rfl
        have hcz13_2 : w10.cell? ⟨gb130, 2, none⟩ = some (.int .i64 a1_2) := (blk_cell BK130.out 2).trans rfl
        have hcz13_3 : w10.cell? ⟨gb130, 3, none⟩ = some (.int .i64 a1_3) := (blk_cell BK130.out 3).trans rfl
        have hcz13_4 : w10.cell? ⟨gb130, 4, none⟩ = some (.int .i64 a1_4) := (blk_cell BK130.out 4).trans rfl
        have hcz13_5 : w10.cell? ⟨gb130, 5, none⟩ = some (.int .i64 a1_5) := (blk_cell BK130.out 5).trans rfl
        have hcz13_6 : w10.cell? ⟨gb130, 6, none⟩ = some (.slice A1_6 l1_6.length c1_6) := (blk_cell BK130.out 6).trans rfl
        have hcz13_7 : w10.cell? ⟨gb130, 7, none⟩ = some (.int .i64 a1_7) := (blk_cell BK130.out 7).trans rfl
        have hcz13_8 : w10.cell? ⟨gb130, 8, none⟩ = some (.int .i64 a1_8) := (blk_cell BK130.out 8).trans rfl
        have hcz13_9 : w10.cell? ⟨gb130, 9, none⟩ = some (.int .i64 a1_9) := (blk_cell BK130.out 9).trans rfl
        have hcz13_10 : w10.cell? ⟨gb130, 10, none⟩ = some (.slice A1_10 l1_10.length c1_10) := (blk_cell BK130.out 10).trans rfl
        have hcz13_11 : w10.cell? ⟨gb130, 11, none⟩ = some (.slice A1_11 l1_11.length c1_11) := (blk_cell BK130.out 11).trans rfl
        have hcz13_12 : w10.cell? ⟨gb130, 12, none⟩ = some (.string a1_12) := (blk_cell BK130.out 12).trans rfl
        have hfz13_0 := blk_frozen BK130.out 0
        have hfz13_1 := blk_frozen BK130.out 1
        have hfz13_2 := blk_frozen BK130.out 2
        have hfz13_3 := blk_frozen BK130.out 3
        have hfz13_4 := blk_frozen BK130.out 4
        have hfz13_5 := blk_frozen BK130.out 5
        have hfz13_6 := blk_frozen BK130.out 6
        have hfz13_7 := blk_frozen BK130.out 7
        have hfz13_8 := blk_frozen BK130.out 8
        have hfz13_9 := blk_frozen BK130.out 9
        have hfz13_10 := blk_frozen BK130.out 10
        have hfz13_11 := blk_frozen BK130.out 11
        have hfz13_12 := blk_frozen BK130.out 12
        go_wp2
        go_meet
        case rel => exact ⟨_, (true), (by first | rfl | (simp; done) | (simp [*]; done)), H', ⟨by first | omega | exact Nat.le_refl _⟩, ⟨by (with_reducible repeat (first | refine blk_drewN ?_ _ | refine blk_drew ?_ | refine blk_alloc ?_ _)); exact BK129.out⟩, ⟨by (with_reducible repeat (first | refine blk_drewN ?_ _ | refine blk_drew ?_ | refine blk_alloc ?_ _)); exact BK130.out⟩, ⟨by repeat (first | (with_reducible first | exact HB.out | apply below_alloc | apply pw_below_drewN | apply below_drew1 | refine below_set ?_ GE129.out | refine below_set ?_ GE130.out) | exact HB.out)⟩⟩
      · rw [if_neg c11] at H
        have c11b0 : decide (a1_7 < 1) = false := decide_eq_false c11
        clear c11
        (first | rw [c11b0] | (simp only [i64_w, i32_w]; rw [c11b0]) | skip)
        have H' := Aside0.mk H
        clear H
        have hnb14 := NB130_129.out
        have hnc14 := NB129_130.out
        have hcz15_0 : w10.cell? ⟨gb130, 0, none⟩ = some (.slice A1_0 l1_0.length c1_0) := (blk_cell BK130.out 0).trans rfl
        have hcz15_1 : w10.cell? ⟨gb130, 1, none⟩ = some (.int .i64 a1_1) := (blk_cell BK130.out 1).trans rfl
        have hcz15_2 : w10.cell? ⟨gb130, 2, none⟩ = some (.int .i64 a1_2) := (blk_cell BK130.out 2).trans rfl
        have hcz15_3 : w10.cell? ⟨gb130, 3, none⟩ = some (.int .i64 a1_3) := (blk_cell BK130.out 3).trans rfl
        have hcz15_4 : w10.cell? ⟨gb130, 4, none⟩ = some (.int .i64 a1_4) := (blk_cell BK130.out 4).trans rfl
        have hcz15_5 : w10.cell? ⟨gb130, 5, none⟩ = some (.int .i64 a1_5) := (blk_cell BK130.out 5).trans rfl
        have hcz15_6 : w10.cell? ⟨gb130, 6, none⟩ = some (.slice A1_6 l1_6.length c1_6) := (blk_cell BK130.out 6).trans rfl
        have hcz15_7 : w10.cell? ⟨gb130, 7, none⟩ = some (.int .i64 a1_7) := (blk_cell BK130.out 7).trans rfl
        have hcz15_8 : w10.cell? ⟨gb130, 8, none⟩ = some (.int .i64 a1_8) := (blk_cell BK130.out 8).trans rfl
        have hcz15_9 : w10.cell? ⟨gb130, 9, none⟩ = some (.int .i64 a1_9) := (blk_cell BK130.out 9).trans rfl
        have hcz15_10 : w10.cell? ⟨gb130, 10, none⟩ = some (.slice A1_10 l1_10.length c1_10) := (blk_cell BK130.out 10).trans rfl
        have hcz15_11 : w10.cell? ⟨gb130, 11, none⟩ = some (.slice A1_11 l1_11.length c1_11) := (blk_cell BK130.out 11).trans rfl
        have hcz15_12 : w10.cell? ⟨gb130, 12, none⟩ = some (.string a1_12) := (blk_cell BK130.out 12).trans rfl
        have hfz15_0 := blk_frozen BK130.out 0
        have hfz15_1 := blk_frozen BK130.out 1
        have hfz15_2 := blk_frozen BK130.out 2
        have hfz15_3 := blk_frozen BK130.out 3
        have hfz15_4 := blk_frozen BK130.out 4
        have hfz15_5 := blk_frozen BK130.out 5
        have hfz15_6 := blk_frozen BK130.out 6
        have hfz15_7 := blk_frozen BK130.out 7
        have hfz15_8 := blk_frozen BK130.out 8
        have hfz15_9 := blk_frozen BK130.out 9
        have hfz15_10 := blk_frozen BK130.out 10
        have hfz15_11 := blk_frozen BK130.out 11
        have hfz15_12 := blk_frozen BK130.out 12
        go_wp2
        go_meet
        case rel => exact ⟨_, (decide (a1_7 > 512)), (by first | rfl | (simp; done) | (simp [*]; done)), H', ⟨by first | omega | exact Nat.le_refl _⟩, ⟨by (with_reducible repeat (first | refine blk_drewN ?_ _ | refine blk_drew ?_ | refine blk_alloc ?_ _)); exact BK129.out⟩, ⟨by (with_reducible repeat (first | refine blk_drewN ?_ _ | refine blk_drew ?_ | refine blk_alloc ?_ _)); exact BK130.out⟩, ⟨by repeat (first | (with_reducible first | exact HB.out | apply below_alloc | apply pw_below_drewN | apply below_drew1 | refine below_set ?_ GE129.out | refine below_set ?_ GE130.out) | exact HB.out)⟩⟩
    case rest =>
      clear HC5
      try clear c1
      try clear p2
      try clear c4
      try clear c4b0
      try clear c4b1
      try clear c8
      try clear c11
      try clear c11b0
      try clear c12
      try clear c14
      try clear c15
      try clear hcz13_0
      try clear hcz13_1
      try clear hcz13_10
      try clear hcz13_11
      try clear hcz13_12
      try clear hcz13_2
      try clear hcz13_3
      try clear hcz13_4
      try clear hcz13_5
      try clear hcz13_6
      try clear hcz13_7
      try clear hcz13_8
      try clear hcz13_9
      try clear hcz15_0
      try clear hcz15_1
      try clear hcz15_10
      try clear hcz15_11
      try clear hcz15_12
      try clear hcz15_2
      try clear hcz15_3
      try clear hcz15_4
      try clear hcz15_5
      try clear hcz15_6
      try clear hcz15_7
      try clear hcz15_8
      try clear hcz15_9
      try clear hcz9_0
      try clear hcz9_1
      try clear hcz9_2
      try clear hcz9_3
      try clear hcz9_4
      try clear hcz9_5
      try clear hfz13_0
      try clear hfz13_1
      try clear hfz13_10
      try clear hfz13_11
      try clear hfz13_12
      try clear hfz13_2
      try clear hfz13_3
      try clear hfz13_4
      try clear hfz13_5
      try clear hfz13_6
      try clear hfz13_7
      try clear hfz13_8
      try clear hfz13_9
      try clear hfz15_0
      try clear hfz15_1
      try clear hfz15_10
      try clear hfz15_11
      try clear hfz15_12
      try clear hfz15_2
      try clear hfz15_3
      try clear hfz15_4
      try clear hfz15_5
      try clear hfz15_6
      try clear hfz15_7
      try clear hfz15_8
      try clear hfz15_9
      try clear hfz9_0
      try clear hfz9_1
      try clear hfz9_2
      try clear hfz9_3
      try clear hfz9_4
      try clear hfz9_5
      obtain ⟨kq, x14_4, rfl, HA, HJ4, BK129, BK130, HB⟩ := hcut
      cases kq with
      | zero => exact absurd HA.out (by simp [admit_Need.j0])
      | succ kj4 =>
        have H := HA.out
        clear HA
        simp only [admit_Need.j0] at H
        by_cases c16 : x14_4 = true
        · subst c16
          have H1 : (some (0, 251)) = some (r1, r2) := by rw [if_pos rfl] at H; exact H
          clear H
          have H := H1
          clear H1
          simp only [Option.some.injEq, Prod.mk.injEq] at H
          obtain ⟨rfl, rfl⟩ := H
          go_wp2
          go_ret2
          exact ⟨by first | rfl | (simp [errW_none, errW_some] <;> rfl) | (simp [*, errW_none, errW_some] <;> rfl), by repeat (first | (with_reducible first | exact HB.out | apply below_alloc | apply pw_below_drewN | apply below_drew1 | refine below_set ?_ GE129.out | refine below_set ?_ GE130.out) | exact HB.out)⟩
        · replace c16 := Bool.eq_false_iff.mpr c16
          subst c16
          have H1 : (if a1_8 < 0 then (admit_Need.j1 kj4 true a0_0 a0_1 a0_2 a0_3 a0_4 a0_5 l1_0 a1_1 a1_2 a1_3 a1_4 a1_5 l1_6 a1_7 a1_8 a1_9 l1_10 l1_11 a1_12) else (if a1_8 > 16 then (admit_Need.j1 kj4 true a0_0 a0_1 a0_2 a0_3 a0_4 a0_5 l1_0 a1_1 a1_2 a1_3 a1_4 a1_5 l1_6 a1_7 a1_8 a1_9 l1_10 l1_11 a1_12) else (if a1_9 < 0 then (admit_Need.j1 kj4 true a0_0 a0_1 a0_2 a0_3 a0_4 a0_5 l1_0 a1_1 a1_2 a1_3 a1_4 a1_5 l1_6 a1_7 a1_8 a1_9 l1_10 l1_11 a1_12) else (admit_Need.j1 kj4 (decide (a1_9 > 8)) a0_0 a0_1 a0_2 a0_3 a0_4 a0_5 l1_0 a1_1 a1_2 a1_3 a1_4 a1_5 l1_6 a1_7 a1_8 a1_9 l1_10 l1_11 a1_12)))) = some (r1, r2) := by rw [if_neg (show ¬ (false = true) by decide)] at H; exact H
          clear H
          have H := H1
          clear H1
          have HC17 := Aside0.mk H
          clear H
          go_upto_region 6 with (fail)
          go_cut [23] (fun v23 wc => ∃ (kq : Nat) (x23_16 : Bool), v23 = .bool x23_16 ∧ Aside0 (admit_Need.j1 kq x23_16 a0_0 a0_1 a0_2 a0_3 a0_4 a0_5 l1_0 a1_1 a1_2 a1_3 a1_4 a1_5 l1_6 a1_7 a1_8 a1_9 l1_10 l1_11 a1_12 = some (r1, r2)) ∧ Aside0 (kq ≤ kj4) ∧ Aside0 (wc.heap[gb129]? = some (.cells #[.int .i64 a0_0, .int .i64 a0_1, .int .i64 a0_2, .int .i64 a0_3, .int .i64 a0_4, .int .i64 a0_5] 23 (0, 0))) ∧ Aside0 (wc.heap[gb130]? = some (.cells #[(.slice A1_0 l1_0.length c1_0), .int .i64 a1_1, .int .i64 a1_2, .int .i64 a1_3, .int .i64 a1_4, .int .i64 a1_5, (.slice A1_6 l1_6.length c1_6), .int .i64 a1_7, .int .i64 a1_8, .int .i64 a1_9, (.slice A1_10 l1_10.length c1_10), (.slice A1_11 l1_11.length c1_11), .string a1_12] 46 (0, 0))) ∧ Aside0 (Below w.heap.size w wc))
          case first =>
            have H := HC17.out
            clear HC17
            by_cases c18 : a1_8 < 0
            · rw [if_pos c18] at H
              have c18b0 : decide (a1_8 < 0) = true := decide_eq_true c18
              clear c18
              (first | rw [c18b0] | (simp only [i64_w, i32_w]; rw [c18b0]) | skip)
              have H' := Aside0.mk H
              clear H
              have hnb19 := NB130_129.out
              have hnc19 := NB129_130.out
              have hcz20_0 : wc.cell? ⟨gb130, 0, none⟩ = some (.slice A1_0 l1_0.length c1_0) := (blk_cell BK130.out 0).trans rfl
              have hcz20_1 : wc.cell? ⟨gb130, 1, none⟩ = some (.int .i64 a1_1) := (blk_cell BK130.out 1).trans rfl
              have hcz20_2 : wc.cell? ⟨gb130, 2, none⟩ = some (.int .i64 a1_2) := (blk_cell BK130.out 2).trans rfl
              have hcz20_3 : wc.cell? ⟨gb130, 3, none⟩ = some (.int .i64 a1_3) := (blk_cell BK130.out 3).trans rfl
              have hcz20_4 : wc.cell? ⟨gb130, 4, none⟩ = some (.int .i64 a1_4) := (blk_cell BK130.out 4).trans rfl
              have hcz20_5 : wc.cell? ⟨gb130, 5, none⟩ = some (.int .i64 a1_5) := (blk_cell BK130.out 5).trans rfl
              have hcz20_6 : wc.cell? ⟨gb130, 6, none⟩ = some (.slice A1_6 l1_6.length c1_6) := (blk_cell BK130.out 6).trans rfl
              have hcz20_7 : wc.cell? ⟨gb130, 7, none⟩ = some (.int .i64 a1_7) := (blk_cell BK130.out 7).trans rfl
              have hcz20_8 : wc.cell? ⟨gb130, 8, none⟩ = some (.int .i64 a1_8) := (blk_cell BK130.out 8).trans rfl
              have hcz20_9 : wc.cell? ⟨gb130, 9, none⟩ = some (.int .i64 a1_9) := (blk_cell BK130.out 9).trans rfl
              have hcz20_10 : wc.cell? ⟨gb130, 10, none⟩ = some (.slice A1_10 l1_10.length c1_10) := (blk_cell BK130.out 10).trans rfl
              have hcz20_11 : wc.cell? ⟨gb130, 11, none⟩ = some (.slice A1_11 l1_11.length c1_11) := (blk_cell BK130.out 11).trans rfl
              have hcz20_12 : wc.cell? ⟨gb130, 12, none⟩ = some (.string a1_12) := (blk_cell BK130.out 12).trans rfl
              have hfz20_0 := blk_frozen BK130.out 0
              have hfz20_1 := blk_frozen BK130.out 1
              have hfz20_2 := blk_frozen BK130.out 2
              have hfz20_3 := blk_frozen BK130.out 3
              have hfz20_4 := blk_frozen BK130.out 4
              have hfz20_5 := blk_frozen BK130.out 5
              have hfz20_6 := blk_frozen BK130.out 6
              have hfz20_7 := blk_frozen BK130.out 7
              have hfz20_8 := blk_frozen BK130.out 8
              have hfz20_9 := blk_frozen BK130.out 9
              have hfz20_10 := blk_frozen BK130.out 10
              have hfz20_11 := blk_frozen BK130.out 11
              have hfz20_12 := blk_frozen BK130.out 12
              go_wp2
              go_meet
              case rel => exact ⟨_, (true), (by first | rfl | (simp; done) | (simp [*]; done)), H', ⟨by have := HJ4.out; first | omega | exact Nat.le_refl _⟩, ⟨by (with_reducible repeat (first | refine blk_drewN ?_ _ | refine blk_drew ?_ | refine blk_alloc ?_ _)); exact BK129.out⟩, ⟨by (with_reducible repeat (first | refine blk_drewN ?_ _ | refine blk_drew ?_ | refine blk_alloc ?_ _)); exact BK130.out⟩, ⟨by repeat (first | (with_reducible first | exact HB.out | apply below_alloc | apply pw_below_drewN | apply below_drew1 | refine below_set ?_ GE129.out | refine below_set ?_ GE130.out) | exact HB.out)⟩⟩
            · rw [if_neg c18] at H
              have c18b0 : decide (a1_8 < 0) = false := decide_eq_false c18
              clear c18
              (first | rw [c18b0] | (simp only [i64_w, i32_w]; rw [c18b0]) | skip)
              by_cases c21 : a1_8 > 16
              · rw [if_pos c21] at H
                have c21b0 : decide (16 < a1_8) = true := decide_eq_true c21
                clear c21
                have H' := Aside0.mk H
                clear H
                have hnb22 := NB130_129.out
                have hnc22 := NB129_130.out
                have hcz23_0 : wc.cell? ⟨gb130, 0, none⟩ = some (.slice A1_0 l1_0.length c1_0) := (blk_cell BK130.out 0).trans rfl
                have hcz23_1 : wc.cell? ⟨gb130, 1, none⟩ = some (.int .i64 a1_1) := (blk_cell BK130.out 1).trans rfl
                have hcz23_2 : wc.cell? ⟨gb130, 2, none⟩ = some (.int .i64 a1_2) := (blk_cell BK130.out 2).trans rfl
                have hcz23_3 : wc.cell? ⟨gb130, 3, none⟩ = some (.int .i64 a1_3) := (blk_cell BK130.out 3).trans rfl
                have hcz23_4 : wc.cell? ⟨gb130, 4, none⟩ = some (.int .i64 a1_4) := (blk_cell BK130.out 4).trans rfl
                have hcz23_5 : wc.cell? ⟨gb130, 5, none⟩ = some (.int .i64 a1_5) := (blk_cell BK130.out 5).trans rfl
                have hcz23_6 : wc.cell? ⟨gb130, 6, none⟩ = some (.slice A1_6 l1_6.length c1_6) := (blk_cell BK130.out 6).trans rfl
                have hcz23_7 : wc.cell? ⟨gb130, 7, none⟩ = some (.int .i64 a1_7) := (blk_cell BK130.out 7).trans rfl
                have hcz23_8 : wc.cell? ⟨gb130, 8, none⟩ = some (.int .i64 a1_8) := (blk_cell BK130.out 8).trans rfl
                have hcz23_9 : wc.cell? ⟨gb130, 9, none⟩ = some (.int .i64 a1_9) := (blk_cell BK130.out 9).trans rfl
                have hcz23_10 : wc.cell? ⟨gb130, 10, none⟩ = some (.slice A1_10 l1_10.length c1_10) := (blk_cell BK130.out 10).trans rfl
                have hcz23_11 : wc.cell? ⟨gb130, 11, none⟩ = some (.slice A1_11 l1_11.length c1_11) := (blk_cell BK130.out 11).trans rfl
                have hcz23_12 : wc.cell? ⟨gb130, 12, none⟩ = some (.string a1_12) := (blk_cell BK130.out 12).trans rfl
                have hfz23_0 := blk_frozen BK130.out 0
                have hfz23_1 := blk_frozen BK130.out 1
                have hfz23_2 := blk_frozen BK130.out 2
                have hfz23_3 := blk_frozen BK130.out 3
                have hfz23_4 := blk_frozen BK130.out 4
                have hfz23_5 := blk_frozen BK130.out 5
                have hfz23_6 := blk_frozen BK130.out 6
                have hfz23_7 := blk_frozen BK130.out 7
                have hfz23_8 := blk_frozen BK130.out 8
                have hfz23_9 := blk_frozen BK130.out 9
                have hfz23_10 := blk_frozen BK130.out 10
                have hfz23_11 := blk_frozen BK130.out 11
                have hfz23_12 := blk_frozen BK130.out 12
                go_wp2
                go_meet
                case rel => exact ⟨_, (true), (by first | rfl | (simp; done) | (simp [*]; done)), H', ⟨by have := HJ4.out; first | omega | exact Nat.le_refl _⟩, ⟨by (with_reducible repeat (first | refine blk_drewN ?_ _ | refine blk_drew ?_ | refine blk_alloc ?_ _)); exact BK129.out⟩, ⟨by (with_reducible repeat (first | refine blk_drewN ?_ _ | refine blk_drew ?_ | refine blk_alloc ?_ _)); exact BK130.out⟩, ⟨by repeat (first | (with_reducible first | exact HB.out | apply below_alloc | apply pw_below_drewN | apply below_drew1 | refine below_set ?_ GE129.out | refine below_set ?_ GE130.out) | exact HB.out)⟩⟩
              · rw [if_neg c21] at H
                have c21b0 : decide (16 < a1_8) = false := decide_eq_false c21
                clear c21
                by_cases c24 : a1_9 < 0
                · rw [if_pos c24] at H
                  have c24b0 : decide (a1_9 < 0) = true := decide_eq_true c24
                  clear c24
                  have H' := Aside0.mk H
                  clear H
                  have hnb25 := NB130_129.out
                  have hnc25 := NB129_130.out
                  have hcz26_0 : wc.cell? ⟨gb130, 0, none⟩ = some (.slice A1_0 l1_0.length c1_0) := (blk_cell BK130.out 0).trans rfl
                  have hcz26_1 : wc.cell? ⟨gb130, 1, none⟩ = some (.int .i64 a1_1) := (blk_cell BK130.out 1).trans rfl
                  have hcz26_2 : wc.cell? ⟨gb130, 2, none⟩ = some (.int .i64 a1_2) := (blk_cell BK130.out 2).trans rfl
                  have hcz26_3 : wc.cell? ⟨gb130, 3, none⟩ = some (.int .i64 a1_3) := (blk_cell BK130.out 3).trans rfl
                  have hcz26_4 : wc.cell? ⟨gb130, 4, none⟩ = some (.int .i64 a1_4) := (blk_cell BK130.out 4).trans rfl
                  have hcz26_5 : wc.cell? ⟨gb130, 5, none⟩ = some (.int .i64 a1_5) := (blk_cell BK130.out 5).trans rfl
                  have hcz26_6 : wc.cell? ⟨gb130, 6, none⟩ = some (.slice A1_6 l1_6.length c1_6) := (blk_cell BK130.out 6).trans rfl
                  have hcz26_7 : wc.cell? ⟨gb130, 7, none⟩ = some (.int .i64 a1_7) := (blk_cell BK130.out 7).trans rfl
                  have hcz26_8 : wc.cell? ⟨gb130, 8, none⟩ = some (.int .i64 a1_8) := (blk_cell BK130.out 8).trans rfl
                  have hcz26_9 : wc.cell? ⟨gb130, 9, none⟩ = some (.int .i64 a1_9) := (blk_cell BK130.out 9).trans rfl
                  have hcz26_10 : wc.cell? ⟨gb130, 10, none⟩ = some (.slice A1_10 l1_10.length c1_10) := (blk_cell BK130.out 10).trans rfl
                  have hcz26_11 : wc.cell? ⟨gb130, 11, none⟩ = some (.slice A1_11 l1_11.length c1_11) := (blk_cell BK130.out 11).trans rfl
                  have hcz26_12 : wc.cell? ⟨gb130, 12, none⟩ = some (.string a1_12) := (blk_cell BK130.out 12).trans rfl
                  have hfz26_0 := blk_frozen BK130.out 0
                  have hfz26_1 := blk_frozen BK130.out 1
                  have hfz26_2 := blk_frozen BK130.out 2
                  have hfz26_3 := blk_frozen BK130.out 3
                  have hfz26_4 := blk_frozen BK130.out 4
                  have hfz26_5 := blk_frozen BK130.out 5
                  have hfz26_6 := blk_frozen BK130.out 6
                  have hfz26_7 := blk_frozen BK130.out 7
                  have hfz26_8 := blk_frozen BK130.out 8
                  have hfz26_9 := blk_frozen BK130.out 9
                  have hfz26_10 := blk_frozen BK130.out 10
                  have hfz26_11 := blk_frozen BK130.out 11
                  have hfz26_12 := blk_frozen BK130.out 12
                  go_wp2
                  go_meet
                  case rel => exact ⟨_, (true), (by first | rfl | (simp; done) | (simp [*]; done)), H', ⟨by have := HJ4.out; first | omega | exact Nat.le_refl _⟩, ⟨by (with_reducible repeat (first | refine blk_drewN ?_ _ | refine blk_drew ?_ | refine blk_alloc ?_ _)); exact BK129.out⟩, ⟨by (with_reducible repeat (first | refine blk_drewN ?_ _ | refine blk_drew ?_ | refine blk_alloc ?_ _)); exact BK130.out⟩, ⟨by repeat (first | (with_reducible first | exact HB.out | apply below_alloc | apply pw_below_drewN | apply below_drew1 | refine below_set ?_ GE129.out | refine below_set ?_ GE130.out) | exact HB.out)⟩⟩
                · rw [if_neg c24] at H
                  have c24b0 : decide (a1_9 < 0) = false := decide_eq_false c24
                  clear c24
                  have H' := Aside0.mk H
                  clear H
                  have hnb27 := NB130_129.out
                  have hnc27 := NB129_130.out
                  have hcz28_0 : wc.cell? ⟨gb130, 0, none⟩ = some (.slice A1_0 l1_0.length c1_0) := (blk_cell BK130.out 0).trans rfl
                  have hcz28_1 : wc.cell? ⟨gb130, 1, none⟩ = some (.int .i64 a1_1) := (blk_cell BK130.out 1).trans rfl
                  have hcz28_2 : wc.cell? ⟨gb130, 2, none⟩ = some (.int .i64 a1_2) := (blk_cell BK130.out 2).trans rfl
                  have hcz28_3 : wc.cell? ⟨gb130, 3, none⟩ = some (.int .i64 a1_3) := (blk_cell BK130.out 3).trans rfl
                  have hcz28_4 : wc.cell? ⟨gb130, 4, none⟩ = some (.int .i64 a1_4) := (blk_cell BK130.out 4).trans rfl
                  have hcz28_5 : wc.cell? ⟨gb130, 5, none⟩ = some (.int .i64 a1_5) := (blk_cell BK130.out 5).trans rfl
                  have hcz28_6 : wc.cell? ⟨gb130, 6, none⟩ = some (.slice A1_6 l1_6.length c1_6) := (blk_cell BK130.out 6).trans rfl
                  have hcz28_7 : wc.cell? ⟨gb130, 7, none⟩ = some (.int .i64 a1_7) := (blk_cell BK130.out 7).trans rfl
                  have hcz28_8 : wc.cell? ⟨gb130, 8, none⟩ = some (.int .i64 a1_8) := (blk_cell BK130.out 8).trans rfl
                  have hcz28_9 : wc.cell? ⟨gb130, 9, none⟩ = some (.int .i64 a1_9) := (blk_cell BK130.out 9).trans rfl
                  have hcz28_10 : wc.cell? ⟨gb130, 10, none⟩ = some (.slice A1_10 l1_10.length c1_10) := (blk_cell BK130.out 10).trans rfl
                  have hcz28_11 : wc.cell? ⟨gb130, 11, none⟩ = some (.slice A1_11 l1_11.length c1_11) := (blk_cell BK130.out 11).trans rfl
                  have hcz28_12 : wc.cell? ⟨gb130, 12, none⟩ = some (.string a1_12) := (blk_cell BK130.out 12).trans rfl
                  have hfz28_0 := blk_frozen BK130.out 0
                  have hfz28_1 := blk_frozen BK130.out 1
                  have hfz28_2 := blk_frozen BK130.out 2
                  have hfz28_3 := blk_frozen BK130.out 3
                  have hfz28_4 := blk_frozen BK130.out 4
                  have hfz28_5 := blk_frozen BK130.out 5
                  have hfz28_6 := blk_frozen BK130.out 6
                  have hfz28_7 := blk_frozen BK130.out 7
                  have hfz28_8 := blk_frozen BK130.out 8
                  have hfz28_9 := blk_frozen BK130.out 9
                  have hfz28_10 := blk_frozen BK130.out 10
                  have hfz28_11 := blk_frozen BK130.out 11
                  have hfz28_12 := blk_frozen BK130.out 12
                  go_wp2
                  go_meet
                  case rel => exact ⟨_, (decide (a1_9 > 8)), (by first | rfl | (simp; done) | (simp [*]; done)), H', ⟨by have := HJ4.out; first | omega | exact Nat.le_refl _⟩, ⟨by (with_reducible repeat (first | refine blk_drewN ?_ _ | refine blk_drew ?_ | refine blk_alloc ?_ _)); exact BK129.out⟩, ⟨by (with_reducible repeat (first | refine blk_drewN ?_ _ | refine blk_drew ?_ | refine blk_alloc ?_ _)); exact BK130.out⟩, ⟨by repeat (first | (with_reducible first | exact HB.out | apply below_alloc | apply pw_below_drewN | apply below_drew1 | refine below_set ?_ GE129.out | refine below_set ?_ GE130.out) | exact HB.out)⟩⟩
          case rest =>
            clear HC17
            try clear c1
            try clear c2
            try clear p2
            try clear c4
            try clear c4b0
            try clear c4b1
            try clear c8
            try clear c11
            try clear c11b0
            try clear c12
            try clear c14
            try clear c15
            try clear c16
            try clear c18
            try clear c18b0
            try clear c19
            try clear c21
            try clear c21b0
            try clear c22
            try clear c24
            try clear c24b0
            try clear c25
            try clear c27
            try clear hcz13_0
            try clear hcz13_1
            try clear hcz13_10
            try clear hcz13_11
            try clear hcz13_12
            try clear hcz13_2
            try clear hcz13_3
            try clear hcz13_4
            try clear hcz13_5
            try clear hcz13_6
            try clear hcz13_7
            try clear hcz13_8
            try clear hcz13_9
            try clear hcz15_0
            try clear hcz15_1
            try clear hcz15_10
            try clear hcz15_11
            try clear hcz15_12
            try clear hcz15_2
            try clear hcz15_3
            try clear hcz15_4
            try clear hcz15_5
            try clear hcz15_6
            try clear hcz15_7
            try clear hcz15_8
            try clear hcz15_9
            try clear hcz20_0
            try clear hcz20_1
            try clear hcz20_10
            try clear hcz20_11
            try clear hcz20_12
            try clear hcz20_2
            try clear hcz20_3
            try clear hcz20_4
            try clear hcz20_5
            try clear hcz20_6
            try clear hcz20_7
            try clear hcz20_8
            try clear hcz20_9
            try clear hcz23_0
            try clear hcz23_1
            try clear hcz23_10
            try clear hcz23_11
            try clear hcz23_12
            try clear hcz23_2
            try clear hcz23_3
            try clear hcz23_4
            try clear hcz23_5
            try clear hcz23_6
            try clear hcz23_7
            try clear hcz23_8
            try clear hcz23_9
            try clear hcz26_0
            try clear hcz26_1
            try clear hcz26_10
            try clear hcz26_11
            try clear hcz26_12
            try clear hcz26_2
            try clear hcz26_3
            try clear hcz26_4
            try clear hcz26_5
            try clear hcz26_6
            try clear hcz26_7
            try clear hcz26_8
            try clear hcz26_9
            try clear hcz28_0
            try clear hcz28_1
            try clear hcz28_10
            try clear hcz28_11
            try clear hcz28_12
            try clear hcz28_2
            try clear hcz28_3
            try clear hcz28_4
            try clear hcz28_5
            try clear hcz28_6
            try clear hcz28_7
            try clear hcz28_8
            try clear hcz28_9
            try clear hcz9_0
            try clear hcz9_1
            try clear hcz9_2
            try clear hcz9_3
            try clear hcz9_4
            try clear hcz9_5
            try clear hfz13_0
            try clear hfz13_1
            try clear hfz13_10
            try clear hfz13_11
            try clear hfz13_12
            try clear hfz13_2
            try clear hfz13_3
            try clear hfz13_4
            try clear hfz13_5
            try clear hfz13_6
            try clear hfz13_7
            try clear hfz13_8
            try clear hfz13_9
            try clear hfz15_0
            try clear hfz15_1
            try clear hfz15_10
            try clear hfz15_11
            try clear hfz15_12
            try clear hfz15_2
            try clear hfz15_3
            try clear hfz15_4
            try clear hfz15_5
            try clear hfz15_6
            try clear hfz15_7
            try clear hfz15_8
            try clear hfz15_9
            try clear hfz20_0
            try clear hfz20_1
            try clear hfz20_10
            try clear hfz20_11
            try clear hfz20_12
            try clear hfz20_2
            try clear hfz20_3
            try clear hfz20_4
            try clear hfz20_5
            try clear hfz20_6
            try clear hfz20_7
            try clear hfz20_8
            try clear hfz20_9
            try clear hfz23_0
            try clear hfz23_1
            try clear hfz23_10
            try clear hfz23_11
            try clear hfz23_12
            try clear hfz23_2
            try clear hfz23_3
            try clear hfz23_4
            try clear hfz23_5
            try clear hfz23_6
            try clear hfz23_7
            try clear hfz23_8
            try clear hfz23_9
            try clear hfz26_0
            try clear hfz26_1
            try clear hfz26_10
            try clear hfz26_11
            try clear hfz26_12
            try clear hfz26_2
            try clear hfz26_3
            try clear hfz26_4
            try clear hfz26_5
            try clear hfz26_6
            try clear hfz26_7
            try clear hfz26_8
            try clear hfz26_9
            try clear hfz28_0
            try clear hfz28_1
            try clear hfz28_10
            try clear hfz28_11
            try clear hfz28_12
            try clear hfz28_2
            try clear hfz28_3
            try clear hfz28_4
            try clear hfz28_5
            try clear hfz28_6
            try clear hfz28_7
            try clear hfz28_8
            try clear hfz28_9
            try clear hfz9_0
            try clear hfz9_1
            try clear hfz9_2
            try clear hfz9_3
            try clear hfz9_4
            try clear hfz9_5
            try clear p2
            obtain ⟨kq, x23_16, rfl, HA, HJ16, BK129, BK130, HB⟩ := hcut
            cases kq with
            | zero => exact absurd HA.out (by simp [admit_Need.j1])
            | succ kj16 =>
              have H := HA.out
              clear HA
              simp only [admit_Need.j1] at H
              by_cases c29 : x23_16 = true
              · subst c29
                have H1 : (some (0, 252)) = some (r1, r2) := by rw [if_pos rfl] at H; exact H
                clear H
                have H := H1
                clear H1
                simp only [Option.some.injEq, Prod.mk.injEq] at H
                obtain ⟨rfl, rfl⟩ := H
                go_wp2
                go_ret2
                exact ⟨by first | rfl | (simp [errW_none, errW_some] <;> rfl) | (simp [*, errW_none, errW_some] <;> rfl), by repeat (first | (with_reducible first | exact HB.out | apply below_alloc | apply pw_below_drewN | apply below_drew1 | refine below_set ?_ GE129.out | refine below_set ?_ GE130.out) | exact HB.out)⟩
              · replace c29 := Bool.eq_false_iff.mpr c29
                subst c29
                have H1 : (if (l1_0.length : Int) = 0 then (some (0, 212)) else (if (l1_0.length : Int) > 512 then (some (0, 212)) else ((admit_Blocks.f kj16 a0_0 a0_1 a0_2 a0_3 a0_4 a0_5 (wrap64 ((wrap64 ((l1_0.length : Int) + a1_7)) - 1))).bind fun bt132 => ((admit_uses.f l1_0 a1_1 a1_2 a1_3 a1_4 a1_5 l1_6 a1_7 a1_8 a1_9 l1_10 l1_11 a1_12).bind fun t134 => (if t134 = true then (some (wrap64 (bt132.1 * 2), bt132.2)) else (some (bt132.1, bt132.2))))))) = some (r1, r2) := by rw [if_neg (show ¬ (false = true) by decide)] at H; exact H
                clear H
                have H := H1
                clear H1
                by_cases c30 : (l1_0.length : Int) = 0
                · rw [if_pos c30] at H
                  have c30b0 : ((l1_0.length : Int) == 0) = true := beq_iff_eq.mpr c30
                  have c30b1 : ((l1_0.length : Int) != 0) = false := bne_eq_false_iff_eq.mpr c30
                  clear c30
                  simp only [Option.some.injEq, Prod.mk.injEq] at H
                  obtain ⟨rfl, rfl⟩ := H
                  have hnb31 := NB130_129.out
                  have hnc31 := NB129_130.out
                  have hcz32_0 : wc.cell? ⟨gb130, 0, none⟩ = some (.slice A1_0 l1_0.length c1_0) := (blk_cell BK130.out 0).trans rfl
                  have hcz32_1 : wc.cell? ⟨gb130, 1, none⟩ = some (.int .i64 a1_1) := (blk_cell BK130.out 1).trans rfl
                  have hcz32_2 : wc.cell? ⟨gb130, 2, none⟩ = some (.int .i64 a1_2) := (blk_cell BK130.out 2).trans rfl
                  have hcz32_3 : wc.cell? ⟨gb130, 3, none⟩ = some (.int .i64 a1_3) := (blk_cell BK130.out 3).trans rfl
                  have hcz32_4 : wc.cell? ⟨gb130, 4, none⟩ = some (.int .i64 a1_4) := (blk_cell BK130.out 4).trans rfl
                  have hcz32_5 : wc.cell? ⟨gb130, 5, none⟩ = some (.int .i64 a1_5) := (blk_cell BK130.out 5).trans rfl
                  have hcz32_6 : wc.cell? ⟨gb130, 6, none⟩ = some (.slice A1_6 l1_6.length c1_6) := (blk_cell BK130.out 6).trans rfl
                  have hcz32_7 : wc.cell? ⟨gb130, 7, none⟩ = some (.int .i64 a1_7) := (blk_cell BK130.out 7).trans rfl
                  have hcz32_8 : wc.cell? ⟨gb130, 8, none⟩ = some (.int .i64 a1_8) := (blk_cell BK130.out 8).trans rfl
                  have hcz32_9 : wc.cell? ⟨gb130, 9, none⟩ = some (.int .i64 a1_9) := (blk_cell BK130.out 9).trans rfl
                  have hcz32_10 : wc.cell? ⟨gb130, 10, none⟩ = some (.slice A1_10 l1_10.length c1_10) := (blk_cell BK130.out 10).trans rfl
                  have hcz32_11 : wc.cell? ⟨gb130, 11, none⟩ = some (.slice A1_11 l1_11.length c1_11) := (blk_cell BK130.out 11).trans rfl
                  have hcz32_12 : wc.cell? ⟨gb130, 12, none⟩ = some (.string a1_12) := (blk_cell BK130.out 12).trans rfl
                  have hfz32_0 := blk_frozen BK130.out 0
                  have hfz32_1 := blk_frozen BK130.out 1
                  have hfz32_2 := blk_frozen BK130.out 2
                  have hfz32_3 := blk_frozen BK130.out 3
                  have hfz32_4 := blk_frozen BK130.out 4
                  have hfz32_5 := blk_frozen BK130.out 5
                  have hfz32_6 := blk_frozen BK130.out 6
                  have hfz32_7 := blk_frozen BK130.out 7
                  have hfz32_8 := blk_frozen BK130.out 8
                  have hfz32_9 := blk_frozen BK130.out 9
                  have hfz32_10 := blk_frozen BK130.out 10
                  have hfz32_11 := blk_frozen BK130.out 11
                  have hfz32_12 := blk_frozen BK130.out 12
                  go_wp2
                  go_ret2
                  exact ⟨by first | rfl | (simp [errW_none, errW_some] <;> rfl) | (simp [*, errW_none, errW_some] <;> rfl), by repeat (first | (with_reducible first | exact HB.out | apply below_alloc | apply pw_below_drewN | apply below_drew1 | refine below_set ?_ GE129.out | refine below_set ?_ GE130.out) | exact HB.out)⟩
                · rw [if_neg c30] at H
                  have c30b0 : ((l1_0.length : Int) == 0) = false := beq_eq_false_iff_ne.mpr c30
                  have c30b1 : ((l1_0.length : Int) != 0) = true := bne_iff_ne.mpr c30
                  have c30b2 : ¬ (l1_0 = []) := fun h_ => c30 (by rw [h_]; rfl)
                  by_cases c33 : (l1_0.length : Int) > 512
                  · rw [if_pos c33] at H
                    have c33b0 : decide (512 < (l1_0.length : Int)) = true := decide_eq_true c33
                    have c33b1 : decide (512 < l1_0.length) = true := decide_eq_true (by omega)
                    clear c33
                    simp only [Option.some.injEq, Prod.mk.injEq] at H
                    obtain ⟨rfl, rfl⟩ := H
                    have hnb34 := NB130_129.out
                    have hnc34 := NB129_130.out
                    have hcz35_0 : wc.cell? ⟨gb130, 0, none⟩ = some (.slice A1_0 l1_0.length c1_0) := (blk_cell BK130.out 0).trans rfl
                    have hcz35_1 : wc.cell? ⟨gb130, 1, none⟩ = some (.int .i64 a1_1) := (blk_cell BK130.out 1).trans rfl
                    have hcz35_2 : wc.cell? ⟨gb130, 2, none⟩ = some (.int .i64 a1_2) := (blk_cell BK130.out 2).trans rfl
                    have hcz35_3 : wc.cell? ⟨gb130, 3, none⟩ = some (.int .i64 a1_3) := (blk_cell BK130.out 3).trans rfl
                    have hcz35_4 : wc.cell? ⟨gb130, 4, none⟩ = some (.int .i64 a1_4) := (blk_cell BK130.out 4).trans rfl
                    have hcz35_5 : wc.cell? ⟨gb130, 5, none⟩ = some (.int .i64 a1_5) := (blk_cell BK130.out 5).trans rfl
                    have hcz35_6 : wc.cell? ⟨gb130, 6, none⟩ = some (.slice A1_6 l1_6.length c1_6) := (blk_cell BK130.out 6).trans rfl
                    have hcz35_7 : wc.cell? ⟨gb130, 7, none⟩ = some (.int .i64 a1_7) := (blk_cell BK130.out 7).trans rfl
                    have hcz35_8 : wc.cell? ⟨gb130, 8, none⟩ = some (.int .i64 a1_8) := (blk_cell BK130.out 8).trans rfl
                    have hcz35_9 : wc.cell? ⟨gb130, 9, none⟩ = some (.int .i64 a1_9) := (blk_cell BK130.out 9).trans rfl
                    have hcz35_10 : wc.cell? ⟨gb130, 10, none⟩ = some (.slice A1_10 l1_10.length c1_10) := (blk_cell BK130.out 10).trans rfl
                    have hcz35_11 : wc.cell? ⟨gb130, 11, none⟩ = some (.slice A1_11 l1_11.length c1_11) := (blk_cell BK130.out 11).trans rfl
                    have hcz35_12 : wc.cell? ⟨gb130, 12, none⟩ = some (.string a1_12) := (blk_cell BK130.out 12).trans rfl
                    have hfz35_0 := blk_frozen BK130.out 0
                    have hfz35_1 := blk_frozen BK130.out 1
                    have hfz35_2 := blk_frozen BK130.out 2
                    have hfz35_3 := blk_frozen BK130.out 3
                    have hfz35_4 := blk_frozen BK130.out 4
                    have hfz35_5 := blk_frozen BK130.out 5
                    have hfz35_6 := blk_frozen BK130.out 6
                    have hfz35_7 := blk_frozen BK130.out 7
                    have hfz35_8 := blk_frozen BK130.out 8
                    have hfz35_9 := blk_frozen BK130.out 9
                    have hfz35_10 := blk_frozen BK130.out 10
                    have hfz35_11 := blk_frozen BK130.out 11
                    have hfz35_12 := blk_frozen BK130.out 12
                    go_wp2
                    go_ret2
                    exact ⟨by first | rfl | (simp [errW_none, errW_some] <;> rfl) | (simp [*, errW_none, errW_some] <;> rfl), by repeat (first | (with_reducible first | exact HB.out | apply below_alloc | apply pw_below_drewN | apply below_drew1 | refine below_set ?_ GE129.out | refine below_set ?_ GE130.out) | exact HB.out)⟩
                  · rw [if_neg c33] at H
                    have c33b0 : decide (512 < (l1_0.length : Int)) = false := decide_eq_false c33
                    have c33b1 : decide (512 < l1_0.length) = false := decide_eq_false (by omega)
                    clear c33
                    replace H := Option.bind_eq_some_iff.mp H
                    obtain ⟨⟨t132, t133⟩, A360, H⟩ := H
                    replace H : ((admit_uses.f l1_0 a1_1 a1_2 a1_3 a1_4 a1_5 l1_6 a1_7 a1_8 a1_9 l1_10 l1_11 a1_12).bind fun t134 => (if t134 = true then (some (wrap64 (t132 * 2), t133)) else (some (t132, t133)))) = some (r1, r2) := H
                    have A36 := Aside0.mk A360
                    clear A360
                    replace H := Option.bind_eq_some_iff.mp H
                    obtain ⟨t134, A370, H⟩ := H
                    replace H : (if t134 = true then (some (wrap64 (t132 * 2), t133)) else (some (t132, t133))) = some (r1, r2) := H
                    have A37 := Aside0.mk A370
                    clear A370
                    by_cases c38 : t134 = true
                    · subst c38
                      have H1 : (some (wrap64 (t132 * 2), t133)) = some (r1, r2) := by rw [if_pos rfl] at H; exact H
                      clear H
                      have H := H1
                      clear H1
                      simp only [Option.some.injEq, Prod.mk.injEq] at H
                      obtain ⟨rfl, rfl⟩ := H
                      have hnb39 := NB130_129.out
                      have hnc39 := NB129_130.out
                      have hcz40_0 : wc.cell? ⟨gb130, 0, none⟩ = some (.slice A1_0 l1_0.length c1_0) := (blk_cell BK130.out 0).trans rfl
                      have hcz40_1 : wc.cell? ⟨gb130, 1, none⟩ = some (.int .i64 a1_1) := (blk_cell BK130.out 1).trans rfl
                      have hcz40_2 : wc.cell? ⟨gb130, 2, none⟩ = some (.int .i64 a1_2) := (blk_cell BK130.out 2).trans rfl
                      have hcz40_3 : wc.cell? ⟨gb130, 3, none⟩ = some (.int .i64 a1_3) := (blk_cell BK130.out 3).trans rfl
                      have hcz40_4 : wc.cell? ⟨gb130, 4, none⟩ = some (.int .i64 a1_4) := (blk_cell BK130.out 4).trans rfl
                      have hcz40_5 : wc.cell? ⟨gb130, 5, none⟩ = some (.int .i64 a1_5) := (blk_cell BK130.out 5).trans rfl
                      have hcz40_6 : wc.cell? ⟨gb130, 6, none⟩ = some (.slice A1_6 l1_6.length c1_6) := (blk_cell BK130.out 6).trans rfl
                      have hcz40_7 : wc.cell? ⟨gb130, 7, none⟩ = some (.int .i64 a1_7) := (blk_cell BK130.out 7).trans rfl
                      have hcz40_8 : wc.cell? ⟨gb130, 8, none⟩ = some (.int .i64 a1_8) := (blk_cell BK130.out 8).trans rfl
                      have hcz40_9 : wc.cell? ⟨gb130, 9, none⟩ = some (.int .i64 a1_9) := (blk_cell BK130.out 9).trans rfl
                      have hcz40_10 : wc.cell? ⟨gb130, 10, none⟩ = some (.slice A1_10 l1_10.length c1_10) := (blk_cell BK130.out 10).trans rfl
                      have hcz40_11 : wc.cell? ⟨gb130, 11, none⟩ = some (.slice A1_11 l1_11.length c1_11) := (blk_cell BK130.out 11).trans rfl
                      have hcz40_12 : wc.cell? ⟨gb130, 12, none⟩ = some (.string a1_12) := (blk_cell BK130.out 12).trans rfl
                      have hfz40_0 := blk_frozen BK130.out 0
                      have hfz40_1 := blk_frozen BK130.out 1
                      have hfz40_2 := blk_frozen BK130.out 2
                      have hfz40_3 := blk_frozen BK130.out 3
                      have hfz40_4 := blk_frozen BK130.out 4
                      have hfz40_5 := blk_frozen BK130.out 5
                      have hfz40_6 := blk_frozen BK130.out 6
                      have hfz40_7 := blk_frozen BK130.out 7
                      have hfz40_8 := blk_frozen BK130.out 8
                      have hfz40_9 := blk_frozen BK130.out 9
                      have hfz40_10 := blk_frozen BK130.out 10
                      have hfz40_11 := blk_frozen BK130.out 11
                      have hfz40_12 := blk_frozen BK130.out 12
                      have hcz41_0 : wc.cell? ⟨gb129, 0, none⟩ = some (.int .i64 a0_0) := (blk_cell BK129.out 0).trans rfl
                      have hcz41_1 : wc.cell? ⟨gb129, 1, none⟩ = some (.int .i64 a0_1) := (blk_cell BK129.out 1).trans rfl
                      have hcz41_2 : wc.cell? ⟨gb129, 2, none⟩ = some (.int .i64 a0_2) := (blk_cell BK129.out 2).trans rfl
                      have hcz41_3 : wc.cell? ⟨gb129, 3, none⟩ = some (.int .i64 a0_3) := (blk_cell BK129.out 3).trans rfl
                      have hcz41_4 : wc.cell? ⟨gb129, 4, none⟩ = some (.int .i64 a0_4) := (blk_cell BK129.out 4).trans rfl
                      have hcz41_5 : wc.cell? ⟨gb129, 5, none⟩ = some (.int .i64 a0_5) := (blk_cell BK129.out 5).trans rfl
                      have hfz41_0 := blk_frozen BK129.out 0
                      have hfz41_1 := blk_frozen BK129.out 1
                      have hfz41_2 := blk_frozen BK129.out 2
                      have hfz41_3 := blk_frozen BK129.out 3
                      have hfz41_4 := blk_frozen BK129.out 4
                      have hfz41_5 := blk_frozen BK129.out 5
                      go_wp2_with (first | ((with_reducible refine gate_callee (f := 11) rfl ?_); refine goesL_ (some 62) rfl rfl Try.func11 (by kernel_rfl) rfl #[.agg #[.int .i64 a0_0, .int .i64 a0_1, .int .i64 a0_2, .int .i64 a0_3, .int .i64 a0_4, .int .i64 a0_5], .int .i64 (wrap64 ((wrap64 ((l1_0.length : Int) + a1_7)) - 1))] rfl (by (try simp only [List.map_toArray, List.map_cons, List.map_nil]); first | done | rfl | (simp only [List.length_drop, List.length_take]; rfl)) ?_; (with_reducible refine (admit_Blocks.calls kj16 a0_0 a0_1 a0_2 a0_3 a0_4 a0_5 (wrap64 ((wrap64 ((l1_0.length : Int) + a1_7)) - 1)) t132 t133 _ A36.out).mono ?_); rintro e w42 ⟨rfl, hb⟩; refine ⟨_, rfl, ?_⟩; have n0_ := Aside0.mk (blk_below (g := gb129) (o := .cells #[.int .i64 a0_0, .int .i64 a0_1, .int .i64 a0_2, .int .i64 a0_3, .int .i64 a0_4, .int .i64 a0_5] 23 (0, 0)) (by (with_reducible repeat (first | refine blk_drewN ?_ _ | refine blk_drew ?_ | refine blk_alloc ?_ _)); exact BK129.out) hb); have n1_ := Aside0.mk (blk_below (g := gb130) (o := .cells #[.slice A1_0 l1_0.length c1_0, .int .i64 a1_1, .int .i64 a1_2, .int .i64 a1_3, .int .i64 a1_4, .int .i64 a1_5, .slice A1_6 l1_6.length c1_6, .int .i64 a1_7, .int .i64 a1_8, .int .i64 a1_9, .slice A1_10 l1_10.length c1_10, .slice A1_11 l1_11.length c1_11, .string a1_12] 46 (0, 0)) (by (with_reducible repeat (first | refine blk_drewN ?_ _ | refine blk_drew ?_ | refine blk_alloc ?_ _)); exact BK130.out) hb); have n2_ := Aside0.mk (below_step (by repeat (first | (with_reducible first | exact HB.out | apply below_alloc | apply pw_below_drewN | apply below_drew1 | refine below_set ?_ GE129.out | refine below_set ?_ GE130.out) | exact HB.out)) hb); clear BK129; clear BK130; clear HB; have BK129 := n0_; have BK130 := n1_; have HB := n2_; clear n0_ n1_ n2_; (try clear hb); (try clear hb2); (try clear hk); (try clear hi); have hcz43_0 : w42.cell? ⟨gb130, 0, none⟩ = some (.slice A1_0 l1_0.length c1_0) := (blk_cell BK130.out 0).trans rfl; have hcz43_1 : w42.cell? ⟨gb130, 1, none⟩ = some (.int .i64 a1_1) := (blk_cell BK130.out 1).trans rfl; have hcz43_2 : w42.cell? ⟨gb130, 2, none⟩ = some (.int .i64 a1_2) := (blk_cell BK130.out 2).trans rfl; have hcz43_3 : w42.cell? ⟨gb130, 3, none⟩ = some (.int .i64 a1_3) := (blk_cell BK130.out 3).trans rfl; have hcz43_4 : w42.cell? ⟨gb130, 4, none⟩ = some (.int .i64 a1_4) := (blk_cell BK130.out 4).trans rfl; have hcz43_5 : w42.cell? ⟨gb130, 5, none⟩ = some (.int .i64 a1_5) := (blk_cell BK130.out 5).trans rfl; have hcz43_6 : w42.cell? ⟨gb130, 6, none⟩ = some (.slice A1_6 l1_6.length c1_6) := (blk_cell BK130.out 6).trans rfl; have hcz43_7 : w42.cell? ⟨gb130, 7, none⟩ = some (.int .i64 a1_7) := (blk_cell BK130.out 7).trans rfl; have hcz43_8 : w42.cell? ⟨gb130, 8, none⟩ = some (.int .i64 a1_8) := (blk_cell BK130.out 8).trans rfl; have hcz43_9 : w42.cell? ⟨gb130, 9, none⟩ = some (.int .i64 a1_9) := (blk_cell BK130.out 9).trans rfl; have hcz43_10 : w42.cell? ⟨gb130, 10, none⟩ = some (.slice A1_10 l1_10.length c1_10) := (blk_cell BK130.out 10).trans rfl; have hcz43_11 : w42.cell? ⟨gb130, 11, none⟩ = some (.slice A1_11 l1_11.length c1_11) := (blk_cell BK130.out 11).trans rfl; have hcz43_12 : w42.cell? ⟨gb130, 12, none⟩ = some (.string a1_12) := (blk_cell BK130.out 12).trans rfl; have hfz43_0 := blk_frozen BK130.out 0; have hfz43_1 := blk_frozen BK130.out 1; have hfz43_2 := blk_frozen BK130.out 2; have hfz43_3 := blk_frozen BK130.out 3; have hfz43_4 := blk_frozen BK130.out 4; have hfz43_5 := blk_frozen BK130.out 5; have hfz43_6 := blk_frozen BK130.out 6; have hfz43_7 := blk_frozen BK130.out 7; have hfz43_8 := blk_frozen BK130.out 8; have hfz43_9 := blk_frozen BK130.out 9; have hfz43_10 := blk_frozen BK130.out 10; have hfz43_11 := blk_frozen BK130.out 11; have hfz43_12 := blk_frozen BK130.out 12) | ((with_reducible refine gate_callee (f := 37) rfl ?_); refine goesL_ (some 66) rfl rfl Try.func37 (by kernel_rfl) rfl #[.agg #[.slice A1_0 l1_0.length c1_0, .int .i64 a1_1, .int .i64 a1_2, .int .i64 a1_3, .int .i64 a1_4, .int .i64 a1_5, .slice A1_6 l1_6.length c1_6, .int .i64 a1_7, .int .i64 a1_8, .int .i64 a1_9, .slice A1_10 l1_10.length c1_10, .slice A1_11 l1_11.length c1_11, .string a1_12]] rfl (by (try simp only [List.map_toArray, List.map_cons, List.map_nil]); first | done | rfl | (simp only [List.length_drop, List.length_take]; rfl)) ?_; (with_reducible refine (admit_uses.calls _ _ l1_0 a1_1 a1_2 a1_3 a1_4 a1_5 _ _ l1_6 a1_7 a1_8 a1_9 _ _ l1_10 _ _ l1_11 a1_12 true _ ?side1 ?side2 ?side3 ?side4 ?side5 ?side6 ?side7 ?side8 A37.out).mono ?_); (case side1 => repeat (first | exact (Kd.C_below HR1_0.out HB.out) | (with_reducible refine Kd.C_alloc ?_ _) | (with_reducible refine Kd.C_drewN ?_ _) | (with_reducible refine Kd.C_drew ?_))); (case side2 => exact HC1_0.out); (case side3 => repeat (first | exact (Kd.C_below HR1_6.out HB.out) | (with_reducible refine Kd.C_alloc ?_ _) | (with_reducible refine Kd.C_drewN ?_ _) | (with_reducible refine Kd.C_drew ?_))); (case side4 => exact HC1_6.out); (case side5 => repeat (first | exact (Kd.C_below HR1_10.out HB.out) | (with_reducible refine Kd.C_alloc ?_ _) | (with_reducible refine Kd.C_drewN ?_ _) | (with_reducible refine Kd.C_drew ?_))); (case side6 => exact HC1_10.out); (case side7 => repeat (first | exact (Kd.C_below HR1_11.out HB.out) | (with_reducible refine Kd.C_alloc ?_ _) | (with_reducible refine Kd.C_drewN ?_ _) | (with_reducible refine Kd.C_drew ?_))); (case side8 => exact HC1_11.out); rintro e w44 ⟨rfl, hb⟩; refine ⟨_, rfl, ?_⟩; have n0_ := Aside0.mk (blk_below (g := gb129) (o := .cells #[.int .i64 a0_0, .int .i64 a0_1, .int .i64 a0_2, .int .i64 a0_3, .int .i64 a0_4, .int .i64 a0_5] 23 (0, 0)) (by (with_reducible repeat (first | refine blk_drewN ?_ _ | refine blk_drew ?_ | refine blk_alloc ?_ _)); exact BK129.out) hb); have n1_ := Aside0.mk (blk_below (g := gb130) (o := .cells #[.slice A1_0 l1_0.length c1_0, .int .i64 a1_1, .int .i64 a1_2, .int .i64 a1_3, .int .i64 a1_4, .int .i64 a1_5, .slice A1_6 l1_6.length c1_6, .int .i64 a1_7, .int .i64 a1_8, .int .i64 a1_9, .slice A1_10 l1_10.length c1_10, .slice A1_11 l1_11.length c1_11, .string a1_12] 46 (0, 0)) (by (with_reducible repeat (first | refine blk_drewN ?_ _ | refine blk_drew ?_ | refine blk_alloc ?_ _)); exact BK130.out) hb); have n2_ := Aside0.mk (below_step (by repeat (first | (with_reducible first | exact HB.out | apply below_alloc | apply pw_below_drewN | apply below_drew1 | refine below_set ?_ GE129.out | refine below_set ?_ GE130.out) | exact HB.out)) hb); clear BK129; clear BK130; clear HB; have BK129 := n0_; have BK130 := n1_; have HB := n2_; clear n0_ n1_ n2_; (try clear hb); (try clear hb2); (try clear hk); (try clear hi)))
                      go_ret2
                      exact ⟨by first | rfl | (simp [errW_none, errW_some] <;> rfl) | (simp [*, errW_none, errW_some] <;> rfl), by repeat (first | (with_reducible first | exact HB.out | apply below_alloc | apply pw_below_drewN | apply below_drew1 | refine below_set ?_ GE129.out | refine below_set ?_ GE130.out) | exact HB.out)⟩
                    · replace c38 := Bool.eq_false_iff.mpr c38
                      subst c38
                      have H1 : (some (t132, t133)) = some (r1, r2) := by rw [if_neg (show ¬ (false = true) by decide)] at H; exact H
                      clear H
                      have H := H1
                      clear H1
                      simp only [Option.some.injEq, Prod.mk.injEq] at H
                      obtain ⟨rfl, rfl⟩ := H
                      have hnb45 := NB130_129.out
                      have hnc45 := NB129_130.out
                      have hcz46_0 : wc.cell? ⟨gb130, 0, none⟩ = some (.slice A1_0 l1_0.length c1_0) := (blk_cell BK130.out 0).trans rfl
                      have hcz46_1 : wc.cell? ⟨gb130, 1, none⟩ = some (.int .i64 a1_1) := (blk_cell BK130.out 1).trans rfl
                      have hcz46_2 : wc.cell? ⟨gb130, 2, none⟩ = some (.int .i64 a1_2) := (blk_cell BK130.out 2).trans rfl
                      have hcz46_3 : wc.cell? ⟨gb130, 3, none⟩ = some (.int .i64 a1_3) := (blk_cell BK130.out 3).trans rfl
                      have hcz46_4 : wc.cell? ⟨gb130, 4, none⟩ = some (.int .i64 a1_4) := (blk_cell BK130.out 4).trans rfl
                      have hcz46_5 : wc.cell? ⟨gb130, 5, none⟩ = some (.int .i64 a1_5) := (blk_cell BK130.out 5).trans rfl
                      have hcz46_6 : wc.cell? ⟨gb130, 6, none⟩ = some (.slice A1_6 l1_6.length c1_6) := (blk_cell BK130.out 6).trans rfl
                      have hcz46_7 : wc.cell? ⟨gb130, 7, none⟩ = some (.int .i64 a1_7) := (blk_cell BK130.out 7).trans rfl
                      have hcz46_8 : wc.cell? ⟨gb130, 8, none⟩ = some (.int .i64 a1_8) := (blk_cell BK130.out 8).trans rfl
                      have hcz46_9 : wc.cell? ⟨gb130, 9, none⟩ = some (.int .i64 a1_9) := (blk_cell BK130.out 9).trans rfl
                      have hcz46_10 : wc.cell? ⟨gb130, 10, none⟩ = some (.slice A1_10 l1_10.length c1_10) := (blk_cell BK130.out 10).trans rfl
                      have hcz46_11 : wc.cell? ⟨gb130, 11, none⟩ = some (.slice A1_11 l1_11.length c1_11) := (blk_cell BK130.out 11).trans rfl
                      have hcz46_12 : wc.cell? ⟨gb130, 12, none⟩ = some (.string a1_12) := (blk_cell BK130.out 12).trans rfl
                      have hfz46_0 := blk_frozen BK130.out 0
                      have hfz46_1 := blk_frozen BK130.out 1
                      have hfz46_2 := blk_frozen BK130.out 2
                      have hfz46_3 := blk_frozen BK130.out 3
                      have hfz46_4 := blk_frozen BK130.out 4
                      have hfz46_5 := blk_frozen BK130.out 5
                      have hfz46_6 := blk_frozen BK130.out 6
                      have hfz46_7 := blk_frozen BK130.out 7
                      have hfz46_8 := blk_frozen BK130.out 8
                      have hfz46_9 := blk_frozen BK130.out 9
                      have hfz46_10 := blk_frozen BK130.out 10
                      have hfz46_11 := blk_frozen BK130.out 11
                      have hfz46_12 := blk_frozen BK130.out 12
                      have hcz47_0 : wc.cell? ⟨gb129, 0, none⟩ = some (.int .i64 a0_0) := (blk_cell BK129.out 0).trans rfl
                      have hcz47_1 : wc.cell? ⟨gb129, 1, none⟩ = some (.int .i64 a0_1) := (blk_cell BK129.out 1).trans rfl
                      have hcz47_2 : wc.cell? ⟨gb129, 2, none⟩ = some (.int .i64 a0_2) := (blk_cell BK129.out 2).trans rfl
                      have hcz47_3 : wc.cell? ⟨gb129, 3, none⟩ = some (.int .i64 a0_3) := (blk_cell BK129.out 3).trans rfl
                      have hcz47_4 : wc.cell? ⟨gb129, 4, none⟩ = some (.int .i64 a0_4) := (blk_cell BK129.out 4).trans rfl
                      have hcz47_5 : wc.cell? ⟨gb129, 5, none⟩ = some (.int .i64 a0_5) := (blk_cell BK129.out 5).trans rfl
                      have hfz47_0 := blk_frozen BK129.out 0
                      have hfz47_1 := blk_frozen BK129.out 1
                      have hfz47_2 := blk_frozen BK129.out 2
                      have hfz47_3 := blk_frozen BK129.out 3
                      have hfz47_4 := blk_frozen BK129.out 4
                      have hfz47_5 := blk_frozen BK129.out 5
                      go_wp2_with (first | ((with_reducible refine gate_callee (f := 11) rfl ?_); refine goesL_ (some 62) rfl rfl Try.func11 (by kernel_rfl) rfl #[.agg #[.int .i64 a0_0, .int .i64 a0_1, .int .i64 a0_2, .int .i64 a0_3, .int .i64 a0_4, .int .i64 a0_5], .int .i64 (wrap64 ((wrap64 ((l1_0.length : Int) + a1_7)) - 1))] rfl (by (try simp only [List.map_toArray, List.map_cons, List.map_nil]); first | done | rfl | (simp only [List.length_drop, List.length_take]; rfl)) ?_; (with_reducible refine (admit_Blocks.calls kj16 a0_0 a0_1 a0_2 a0_3 a0_4 a0_5 (wrap64 ((wrap64 ((l1_0.length : Int) + a1_7)) - 1)) t132 t133 _ A36.out).mono ?_); rintro e w48 ⟨rfl, hb⟩; refine ⟨_, rfl, ?_⟩; have n0_ := Aside0.mk (blk_below (g := gb129) (o := .cells #[.int .i64 a0_0, .int .i64 a0_1, .int .i64 a0_2, .int .i64 a0_3, .int .i64 a0_4, .int .i64 a0_5] 23 (0, 0)) (by (with_reducible repeat (first | refine blk_drewN ?_ _ | refine blk_drew ?_ | refine blk_alloc ?_ _)); exact BK129.out) hb); have n1_ := Aside0.mk (blk_below (g := gb130) (o := .cells #[.slice A1_0 l1_0.length c1_0, .int .i64 a1_1, .int .i64 a1_2, .int .i64 a1_3, .int .i64 a1_4, .int .i64 a1_5, .slice A1_6 l1_6.length c1_6, .int .i64 a1_7, .int .i64 a1_8, .int .i64 a1_9, .slice A1_10 l1_10.length c1_10, .slice A1_11 l1_11.length c1_11, .string a1_12] 46 (0, 0)) (by (with_reducible repeat (first | refine blk_drewN ?_ _ | refine blk_drew ?_ | refine blk_alloc ?_ _)); exact BK130.out) hb); have n2_ := Aside0.mk (below_step (by repeat (first | (with_reducible first | exact HB.out | apply below_alloc | apply pw_below_drewN | apply below_drew1 | refine below_set ?_ GE129.out | refine below_set ?_ GE130.out) | exact HB.out)) hb); clear BK129; clear BK130; clear HB; have BK129 := n0_; have BK130 := n1_; have HB := n2_; clear n0_ n1_ n2_; (try clear hb); (try clear hb2); (try clear hk); (try clear hi); have hcz49_0 : w48.cell? ⟨gb130, 0, none⟩ = some (.slice A1_0 l1_0.length c1_0) := (blk_cell BK130.out 0).trans rfl; have hcz49_1 : w48.cell? ⟨gb130, 1, none⟩ = some (.int .i64 a1_1) := (blk_cell BK130.out 1).trans rfl; have hcz49_2 : w48.cell? ⟨gb130, 2, none⟩ = some (.int .i64 a1_2) := (blk_cell BK130.out 2).trans rfl; have hcz49_3 : w48.cell? ⟨gb130, 3, none⟩ = some (.int .i64 a1_3) := (blk_cell BK130.out 3).trans rfl; have hcz49_4 : w48.cell? ⟨gb130, 4, none⟩ = some (.int .i64 a1_4) := (blk_cell BK130.out 4).trans rfl; have hcz49_5 : w48.cell? ⟨gb130, 5, none⟩ = some (.int .i64 a1_5) := (blk_cell BK130.out 5).trans rfl; have hcz49_6 : w48.cell? ⟨gb130, 6, none⟩ = some (.slice A1_6 l1_6.length c1_6) := (blk_cell BK130.out 6).trans rfl; have hcz49_7 : w48.cell? ⟨gb130, 7, none⟩ = some (.int .i64 a1_7) := (blk_cell BK130.out 7).trans rfl; have hcz49_8 : w48.cell? ⟨gb130, 8, none⟩ = some (.int .i64 a1_8) := (blk_cell BK130.out 8).trans rfl; have hcz49_9 : w48.cell? ⟨gb130, 9, none⟩ = some (.int .i64 a1_9) := (blk_cell BK130.out 9).trans rfl; have hcz49_10 : w48.cell? ⟨gb130, 10, none⟩ = some (.slice A1_10 l1_10.length c1_10) := (blk_cell BK130.out 10).trans rfl; have hcz49_11 : w48.cell? ⟨gb130, 11, none⟩ = some (.slice A1_11 l1_11.length c1_11) := (blk_cell BK130.out 11).trans rfl; have hcz49_12 : w48.cell? ⟨gb130, 12, none⟩ = some (.string a1_12) := (blk_cell BK130.out 12).trans rfl; have hfz49_0 := blk_frozen BK130.out 0; have hfz49_1 := blk_frozen BK130.out 1; have hfz49_2 := blk_frozen BK130.out 2; have hfz49_3 := blk_frozen BK130.out 3; have hfz49_4 := blk_frozen BK130.out 4; have hfz49_5 := blk_frozen BK130.out 5; have hfz49_6 := blk_frozen BK130.out 6; have hfz49_7 := blk_frozen BK130.out 7; have hfz49_8 := blk_frozen BK130.out 8; have hfz49_9 := blk_frozen BK130.out 9; have hfz49_10 := blk_frozen BK130.out 10; have hfz49_11 := blk_frozen BK130.out 11; have hfz49_12 := blk_frozen BK130.out 12) | ((with_reducible refine gate_callee (f := 37) rfl ?_); refine goesL_ (some 66) rfl rfl Try.func37 (by kernel_rfl) rfl #[.agg #[.slice A1_0 l1_0.length c1_0, .int .i64 a1_1, .int .i64 a1_2, .int .i64 a1_3, .int .i64 a1_4, .int .i64 a1_5, .slice A1_6 l1_6.length c1_6, .int .i64 a1_7, .int .i64 a1_8, .int .i64 a1_9, .slice A1_10 l1_10.length c1_10, .slice A1_11 l1_11.length c1_11, .string a1_12]] rfl (by (try simp only [List.map_toArray, List.map_cons, List.map_nil]); first | done | rfl | (simp only [List.length_drop, List.length_take]; rfl)) ?_; (with_reducible refine (admit_uses.calls _ _ l1_0 a1_1 a1_2 a1_3 a1_4 a1_5 _ _ l1_6 a1_7 a1_8 a1_9 _ _ l1_10 _ _ l1_11 a1_12 false _ ?side1 ?side2 ?side3 ?side4 ?side5 ?side6 ?side7 ?side8 A37.out).mono ?_); (case side1 => repeat (first | exact (Kd.C_below HR1_0.out HB.out) | (with_reducible refine Kd.C_alloc ?_ _) | (with_reducible refine Kd.C_drewN ?_ _) | (with_reducible refine Kd.C_drew ?_))); (case side2 => exact HC1_0.out); (case side3 => repeat (first | exact (Kd.C_below HR1_6.out HB.out) | (with_reducible refine Kd.C_alloc ?_ _) | (with_reducible refine Kd.C_drewN ?_ _) | (with_reducible refine Kd.C_drew ?_))); (case side4 => exact HC1_6.out); (case side5 => repeat (first | exact (Kd.C_below HR1_10.out HB.out) | (with_reducible refine Kd.C_alloc ?_ _) | (with_reducible refine Kd.C_drewN ?_ _) | (with_reducible refine Kd.C_drew ?_))); (case side6 => exact HC1_10.out); (case side7 => repeat (first | exact (Kd.C_below HR1_11.out HB.out) | (with_reducible refine Kd.C_alloc ?_ _) | (with_reducible refine Kd.C_drewN ?_ _) | (with_reducible refine Kd.C_drew ?_))); (case side8 => exact HC1_11.out); rintro e w50 ⟨rfl, hb⟩; refine ⟨_, rfl, ?_⟩; have n0_ := Aside0.mk (blk_below (g := gb129) (o := .cells #[.int .i64 a0_0, .int .i64 a0_1, .int .i64 a0_2, .int .i64 a0_3, .int .i64 a0_4, .int .i64 a0_5] 23 (0, 0)) (by (with_reducible repeat (first | refine blk_drewN ?_ _ | refine blk_drew ?_ | refine blk_alloc ?_ _)); exact BK129.out) hb); have n1_ := Aside0.mk (blk_below (g := gb130) (o := .cells #[.slice A1_0 l1_0.length c1_0, .int .i64 a1_1, .int .i64 a1_2, .int .i64 a1_3, .int .i64 a1_4, .int .i64 a1_5, .slice A1_6 l1_6.length c1_6, .int .i64 a1_7, .int .i64 a1_8, .int .i64 a1_9, .slice A1_10 l1_10.length c1_10, .slice A1_11 l1_11.length c1_11, .string a1_12] 46 (0, 0)) (by (with_reducible repeat (first | refine blk_drewN ?_ _ | refine blk_drew ?_ | refine blk_alloc ?_ _)); exact BK130.out) hb); have n2_ := Aside0.mk (below_step (by repeat (first | (with_reducible first | exact HB.out | apply below_alloc | apply pw_below_drewN | apply below_drew1 | refine below_set ?_ GE129.out | refine below_set ?_ GE130.out) | exact HB.out)) hb); clear BK129; clear BK130; clear HB; have BK129 := n0_; have BK130 := n1_; have HB := n2_; clear n0_ n1_ n2_; (try clear hb); (try clear hb2); (try clear hk); (try clear hi)))
                      go_ret2
                      exact ⟨by first | rfl | (simp [errW_none, errW_some] <;> rfl) | (simp [*, errW_none, errW_some] <;> rfl), by repeat (first | (with_reducible first | exact HB.out | apply below_alloc | apply pw_below_drewN | apply below_drew1 | refine below_set ?_ GE129.out | refine below_set ?_ GE130.out) | exact HB.out)⟩
  · rw [if_neg c4] at H
    have c4b0 : (t131 == 0) = false := beq_eq_false_iff_ne.mpr c4
    have c4b1 : (t131 != 0) = true := bne_iff_ne.mpr c4
    simp only [Option.some.injEq, Prod.mk.injEq] at H
    obtain ⟨rfl, rfl⟩ := H
    go_enter Try.func19, Try.ntmps19
    go_wp2_with (first | ((with_reducible refine gate_dst (N := 2) rfl ?_); (try (refine gate_guard (by rfl) ?_; dsimp only)); refine box_event ?hg (N := 2) ?hd (cs := #[.int .i64 a0_0, .int .i64 a0_1, .int .i64 a0_2, .int .i64 a0_3, .int .i64 a0_4, .int .i64 a0_5]) (t := 23) ?hr ?_; (case hd => rfl); (case hg => rfl); (case hr => first | (go_simp; done) | (go_simp; rfl)); intro gb129 hg w51 hbox hb; have n0_ := Aside0.mk (below_step (by repeat (first | (with_reducible first | exact HB.out | apply below_alloc | apply pw_below_drewN | apply below_drew1) | exact HB.out)) hb); have n1_ := Aside0.mk (hbox); have n2_ := Aside0.mk ((by rw [hg]; exact (below_size (by repeat (first | (with_reducible first | exact HB.out | apply below_alloc | apply pw_below_drewN | apply below_drew1) | exact HB.out))) : w.heap.size ≤ gb129)); have n3_ := Aside0.mk ((by rw [hg]; exact (below_size (by repeat (first | (with_reducible first | exact HB.out | apply below_alloc | apply pw_below_drewN | apply below_drew1) | exact HB.out))) : w.heap.size ≤ gb129)); clear HB; have HB := n0_; have BK129 := n1_; have GW129 := n2_; have GE129 := n3_; clear n0_ n1_ n2_ n3_; clear hb hbox hg) | ((with_reducible refine gate_dst (N := 3) rfl ?_); (try (refine gate_guard (by rfl) ?_; dsimp only)); refine box_event ?hg (N := 3) ?hd (cs := #[.slice A1_0 l1_0.length c1_0, .int .i64 a1_1, .int .i64 a1_2, .int .i64 a1_3, .int .i64 a1_4, .int .i64 a1_5, .slice A1_6 l1_6.length c1_6, .int .i64 a1_7, .int .i64 a1_8, .int .i64 a1_9, .slice A1_10 l1_10.length c1_10, .slice A1_11 l1_11.length c1_11, .string a1_12]) (t := 46) ?hr ?_; (case hd => rfl); (case hg => rfl); (case hr => first | (go_simp; done) | (go_simp; rfl)); intro gb130 hg w52 hbox hb; have n0_ := Aside0.mk (blk_below (g := gb129) (o := .cells #[.int .i64 a0_0, .int .i64 a0_1, .int .i64 a0_2, .int .i64 a0_3, .int .i64 a0_4, .int .i64 a0_5] 23 (0, 0)) (by (with_reducible repeat (first | refine blk_drewN ?_ _ | refine blk_drew ?_ | refine blk_alloc ?_ _)); exact BK129.out) hb); have n1_ := Aside0.mk (below_step (by repeat (first | (with_reducible first | exact HB.out | apply below_alloc | apply pw_below_drewN | apply below_drew1 | refine below_set ?_ GE129.out) | exact HB.out)) hb); have n2_ := Aside0.mk (hbox); have n3_ := Aside0.mk ((by rw [hg]; exact (below_size (by repeat (first | (with_reducible first | exact HB.out | apply below_alloc | apply pw_below_drewN | apply below_drew1 | refine below_set ?_ GE129.out) | exact HB.out))) : w.heap.size ≤ gb130)); have n4_ := Aside0.mk ((by rw [hg]; exact (below_size (by repeat (first | (with_reducible first | exact HB.out | apply below_alloc | apply pw_below_drewN | apply below_drew1 | refine below_set ?_ GE129.out) | exact HB.out))) : w.heap.size ≤ gb130)); have n5_ := Aside0.mk ((by rw [hg]; exact Nat.ne_of_lt (blk_lt (g := gb129) (o := .cells #[.int .i64 a0_0, .int .i64 a0_1, .int .i64 a0_2, .int .i64 a0_3, .int .i64 a0_4, .int .i64 a0_5] 23 (0, 0)) (by (with_reducible repeat (first | refine blk_drewN ?_ _ | refine blk_drew ?_ | refine blk_alloc ?_ _)); exact BK129.out)) : gb129 ≠ gb130)); have n6_ := Aside0.mk ((by rw [hg]; exact Nat.ne_of_gt (blk_lt (g := gb129) (o := .cells #[.int .i64 a0_0, .int .i64 a0_1, .int .i64 a0_2, .int .i64 a0_3, .int .i64 a0_4, .int .i64 a0_5] 23 (0, 0)) (by (with_reducible repeat (first | refine blk_drewN ?_ _ | refine blk_drew ?_ | refine blk_alloc ?_ _)); exact BK129.out)) : gb130 ≠ gb129)); clear BK129; clear HB; have BK129 := n0_; have HB := n1_; have BK130 := n2_; have GW130 := n3_; have GE130 := n4_; have NB129_130 := n5_; have NB130_129 := n6_; clear n0_ n1_ n2_ n3_ n4_ n5_ n6_; clear hb hbox hg; have hnb53 := NB129_130.out; have hnc53 := NB130_129.out; have hcz54_0 : w52.cell? ⟨gb129, 0, none⟩ = some (.int .i64 a0_0) := (blk_cell BK129.out 0).trans rfl; have hcz54_1 : w52.cell? ⟨gb129, 1, none⟩ = some (.int .i64 a0_1) := (blk_cell BK129.out 1).trans rfl; have hcz54_2 : w52.cell? ⟨gb129, 2, none⟩ = some (.int .i64 a0_2) := (blk_cell BK129.out 2).trans rfl; have hcz54_3 : w52.cell? ⟨gb129, 3, none⟩ = some (.int .i64 a0_3) := (blk_cell BK129.out 3).trans rfl; have hcz54_4 : w52.cell? ⟨gb129, 4, none⟩ = some (.int .i64 a0_4) := (blk_cell BK129.out 4).trans rfl; have hcz54_5 : w52.cell? ⟨gb129, 5, none⟩ = some (.int .i64 a0_5) := (blk_cell BK129.out 5).trans rfl; have hfz54_0 := blk_frozen BK129.out 0; have hfz54_1 := blk_frozen BK129.out 1; have hfz54_2 := blk_frozen BK129.out 2; have hfz54_3 := blk_frozen BK129.out 3; have hfz54_4 := blk_frozen BK129.out 4; have hfz54_5 := blk_frozen BK129.out 5) | ((with_reducible refine gate_callee (f := 15) rfl ?_); refine goesL_ (some 10) rfl rfl Try.func15 (by kernel_rfl) rfl #[.agg #[.int .i64 a0_0, .int .i64 a0_1, .int .i64 a0_2, .int .i64 a0_3, .int .i64 a0_4, .int .i64 a0_5]] rfl (by (try simp only [List.map_toArray, List.map_cons, List.map_nil]); first | done | rfl | (simp only [List.length_drop, List.length_take]; rfl)) ?_; (with_reducible refine (admit_Check.calls k a0_0 a0_1 a0_2 a0_3 a0_4 a0_5 t131 _ A3.out).mono ?_); rintro e w55 ⟨rfl, hb⟩; refine ⟨_, rfl, ?_⟩; have n0_ := Aside0.mk (blk_below (g := gb129) (o := .cells #[.int .i64 a0_0, .int .i64 a0_1, .int .i64 a0_2, .int .i64 a0_3, .int .i64 a0_4, .int .i64 a0_5] 23 (0, 0)) (by (with_reducible repeat (first | refine blk_drewN ?_ _ | refine blk_drew ?_ | refine blk_alloc ?_ _)); exact BK129.out) hb); have n1_ := Aside0.mk (blk_below (g := gb130) (o := .cells #[.slice A1_0 l1_0.length c1_0, .int .i64 a1_1, .int .i64 a1_2, .int .i64 a1_3, .int .i64 a1_4, .int .i64 a1_5, .slice A1_6 l1_6.length c1_6, .int .i64 a1_7, .int .i64 a1_8, .int .i64 a1_9, .slice A1_10 l1_10.length c1_10, .slice A1_11 l1_11.length c1_11, .string a1_12] 46 (0, 0)) (by (with_reducible repeat (first | refine blk_drewN ?_ _ | refine blk_drew ?_ | refine blk_alloc ?_ _)); exact BK130.out) hb); have n2_ := Aside0.mk (below_step (by repeat (first | (with_reducible first | exact HB.out | apply below_alloc | apply pw_below_drewN | apply below_drew1 | refine below_set ?_ GE129.out | refine below_set ?_ GE130.out) | exact HB.out)) hb); clear BK129; clear BK130; clear HB; have BK129 := n0_; have BK130 := n1_; have HB := n2_; clear n0_ n1_ n2_; (try clear hb); (try clear hb2); (try clear hk); (try clear hi)))
    go_ret2
    exact ⟨by first | rfl | (simp [errW_none, errW_some] <;> rfl) | (simp [*, errW_none, errW_some] <;> rfl), by repeat (first | (with_reducible first | exact HB.out | apply below_alloc | apply pw_below_drewN | apply below_drew1 | refine below_set ?_ GE129.out | refine below_set ?_ GE130.out) | exact HB.out)⟩

/-! ### r27_within: function 36 -/
def r27_within.f (a0 : Int) (a1 : Int) (a2 : Int) : Option (Bool) := if a0 ≥ a1 then (some (decide (a0 ≤ a2))) else (some false)
set_option maxHeartbeats 8000000 in
set_option maxRecDepth 100000 in
theorem r27_within.calls (a0 : Int) (a1 : Int) (a2 : Int) (r : Bool) (w : World) (h : r27_within.f a0 a1 a2 = some r) :
    Calls Try.prog 36 #[.int .i64 a0, .int .i64 a1, .int .i64 a2] w fun e w' => e = .returned (.bool r) ∧ Drawn0 w w' := by
  have H : (if a0 ≥ a1 then (some (decide (a0 ≤ a2))) else (some false)) = some r := h
  clear h
  by_cases c4 : a0 ≥ a1
  · rw [if_pos c4] at H
    have c4b0 : decide (a1 ≤ a0) = true := decide_eq_true c4
    clear c4
    obtain rfl := Option.some.inj H
    go_enter Try.func36, Try.ntmps36
    go_wp2
    go_ret
    exact ⟨by first | rfl | (simp; done) | (simp [*]; done), by repeat (first | exact Drawn0.refl _ | apply Drawn0.step)⟩
  · rw [if_neg c4] at H
    have c4b0 : decide (a1 ≤ a0) = false := decide_eq_false c4
    clear c4
    obtain rfl := Option.some.inj H
    go_enter Try.func36, Try.ntmps36
    go_wp2
    go_ret
    exact ⟨by first | rfl | (simp; done) | (simp [*]; done), by repeat (first | exact Drawn0.refl _ | apply Drawn0.step)⟩

end Go.Proofs.Ytdkcfacmbjboeaa.R
