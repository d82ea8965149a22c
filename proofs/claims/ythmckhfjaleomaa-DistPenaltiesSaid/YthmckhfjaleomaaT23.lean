-- Printed by this session's own driver (wip/tools/xprint.py) over the kit's printer; given functions are this session's own.
import Derived.Test.YthmckhfjaleomaaT0
import Derived.Test.YthmckhfjaleomaaT2
import Derived.Test.YthmckhfjaleomaaT22
namespace Go.Proofs.Ythmckhfjaleomaa.T
open Go.RowKit Go.Proofs.YthmckhfjaleomaaW.PrintWords Go.Proofs.YthmckhfjaleomaaW.PrintLast Go.Proofs.YthmckhfjaleomaaW.PrintMore
attribute [local go_sem] max2_int min2_int max_two min_two max_three min_three max_four min_four   -- for this text's walks alone
set_option linter.unusedVariables false
set_option linter.unusedSimpArgs false

/-! ### dist_Penalise: function 25 -/
mutual
def dist_Penalise.j0 : Nat → List Int → Bool → List Int → Int → Int → Int → Option (List Int × Int)
  | 0, _, _, _, _, _, _ => none
  | k + 1, x1, x19, Y0, Y1, Y2, Y3 => if x19 = true then (some (([] : List Int), 220)) else (if (x1.length : Int) > 65536 then (some (([] : List Int), 1)) else ((slices_ContainsFunc_int_int.f x1 Y0).bind fun t536 => (if t536 = true then (some (([] : List Int), 1)) else (if Y1 > 0 then (dist_Penalise.j1 k x1 (decide (Y1 < (x1.length : Int))) Y0 Y1 Y2 Y3) else (dist_Penalise.j1 k x1 false Y0 Y1 Y2 Y3)))))
def dist_Penalise.j1 : Nat → List Int → Bool → List Int → Int → Int → Int → Option (List Int × Int)
  | 0, _, _, _, _, _, _ => none
  | k + 1, x1, x56, Y0, Y1, Y2, Y3 => if x56 = true then (if 0 ≤ (wrap64 ((x1.length : Int) - Y1)) then (if (wrap64 ((x1.length : Int) - Y1)) ≤ (x1.length : Int) then (dist_Penalise.j2 k (x1.drop ((wrap64 ((x1.length : Int) - Y1)) : Int).toNat) Y0 Y1 Y2 Y3) else (none)) else (none)) else (dist_Penalise.j2 k x1 Y0 Y1 Y2 Y3)
def dist_Penalise.j2 : Nat → List Int → List Int → Int → Int → Int → Option (List Int × Int)
  | 0, _, _, _, _, _ => none
  | k + 1, x1, Y0, Y1, Y2, Y3 => if 0 ≤ (Y0.length : Int) then (if ((Y0.length : Int) : Int).toNat ≤ 35184372088832 then (dist_Penalise.l0 k (List.replicate ((Y0.length : Int) : Int).toNat 0) x1 (x1.length : Int) 0 Y0 Y1 Y2 Y3) else (none)) else (none)
def dist_Penalise.l0 : Nat → List Int → List Int → Int → Int → List Int → Int → Int → Int → Option (List Int × Int)
  | 0, _, _, _, _, _, _, _, _ => none
  | k + 1, x9, x67, x68, x69, Y0, Y1, Y2, Y3 => if x69 < x68 then (if 0 ≤ x69 then (if x69 < (x67.length : Int) then (if 0 ≤ (rd x67 x69) then (if (rd x67 x69) < (x9.length : Int) then (dist_Penalise.l0 k (x9.set ((rd x67 x69) : Int).toNat (wrap64 ((rd x9 (rd x67 x69)) + 1))) x67 x68 (wrap64 (x69 + 1)) Y0 Y1 Y2 Y3) else (none)) else (none)) else (none)) else (none)) else ((slices_Clone_int64_int64.f Y0).bind fun t548 => (dist_Penalise.l1 k t548 x9 (x9.length : Int) 0 Y1 Y2 Y3))
def dist_Penalise.l1 : Nat → List Int → List Int → Int → Int → Int → Int → Int → Option (List Int × Int)
  | 0, _, _, _, _, _, _, _ => none
  | k + 1, x12, x82, x83, x84, Y1, Y2, Y3 => if x84 < x83 then (if 0 ≤ x84 then (if x84 < (x82.length : Int) then (if (rd x82 x84) > 0 then (if x84 < (x12.length : Int) then ((fixed_Clamp.f (wrap64 ((wrap64 ((rd x12 x84) - Y2)) - (wrap64 ((rd x82 x84) * Y3)))) (-1073741824) 1073741824).bind fun t553 => (dist_Penalise.l1 k (x12.set (x84 : Int).toNat t553) x82 x83 (wrap64 (x84 + 1)) Y1 Y2 Y3)) else (none)) else (dist_Penalise.l1 k x12 x82 x83 (wrap64 (x84 + 1)) Y1 Y2 Y3)) else (none)) else (none)) else (some (x12, 0))
end
def dist_Penalise.f (k : Nat) (l0 : List Int) (l1 : List Int) (a2_0 : Int) (a2_1 : Int) (a2_2 : Int) : Option (List Int × Int) := (dist_scored.f l0).bind fun t532 => (if t532 = true then ((dist_between.f a2_0 0 65536).bind fun t533 => (if t533 = true then ((dist_Penalise_1.f a2_1).bind fun t534 => (if t534 = true then ((dist_Penalise_1.f a2_2).bind fun t535 => (dist_Penalise.j0 k l1 (!t535) l0 a2_0 a2_1 a2_2)) else (dist_Penalise.j0 k l1 true l0 a2_0 a2_1 a2_2))) else (dist_Penalise.j0 k l1 true l0 a2_0 a2_1 a2_2))) else (some (([] : List Int), 221)))
theorem dist_Penalise.mono_l : ∀ k, (∀ y0 y1 y2 y3 y4 y5, LeO (dist_Penalise.j0 k y0 y1 y2 y3 y4 y5) (dist_Penalise.j0 (k + 1) y0 y1 y2 y3 y4 y5)) ∧ (∀ y0 y1 y2 y3 y4 y5, LeO (dist_Penalise.j1 k y0 y1 y2 y3 y4 y5) (dist_Penalise.j1 (k + 1) y0 y1 y2 y3 y4 y5)) ∧ (∀ y0 y1 y2 y3 y4, LeO (dist_Penalise.j2 k y0 y1 y2 y3 y4) (dist_Penalise.j2 (k + 1) y0 y1 y2 y3 y4)) ∧ (∀ y0 y1 y2 y3 y4 y5 y6 y7, LeO (dist_Penalise.l0 k y0 y1 y2 y3 y4 y5 y6 y7) (dist_Penalise.l0 (k + 1) y0 y1 y2 y3 y4 y5 y6 y7)) ∧ (∀ y0 y1 y2 y3 y4 y5 y6, LeO (dist_Penalise.l1 k y0 y1 y2 y3 y4 y5 y6) (dist_Penalise.l1 (k + 1) y0 y1 y2 y3 y4 y5 y6))
  | 0 => ⟨fun _ _ _ _ _ _ r h => by simp [dist_Penalise.j0] at h, fun _ _ _ _ _ _ r h => by simp [dist_Penalise.j1] at h, fun _ _ _ _ _ r h => by simp [dist_Penalise.j2] at h, fun _ _ _ _ _ _ _ _ r h => by simp [dist_Penalise.l0] at h, fun _ _ _ _ _ _ _ r h => by simp [dist_Penalise.l1] at h⟩
  | k + 1 => by
    obtain ⟨ih0, ih1, ih2, ih3, ih4⟩ := dist_Penalise.mono_l k
    refine ⟨?_, ?_, ?_, ?_, ?_⟩ <;> (intros; first | unfold dist_Penalise.j0 | unfold dist_Penalise.j1 | unfold dist_Penalise.j2 | unfold dist_Penalise.l0 | unfold dist_Penalise.l1)
    all_goals repeat' first
      | (with_reducible exact ih0 _ _ _ _ _ _)
      | (with_reducible exact ih1 _ _ _ _ _ _)
      | (with_reducible exact ih2 _ _ _ _ _)
      | (with_reducible exact ih3 _ _ _ _ _ _ _ _)
      | (with_reducible exact ih4 _ _ _ _ _ _ _)
      | (with_reducible exact yR _)
      | (with_reducible exact yO _)
      | (with_reducible refine yQ ?_ ?_)
      | (with_reducible refine yP ?_ (fun _ => ?_))
      | exact ih0 _ _ _ _ _ _
      | exact ih1 _ _ _ _ _ _
      | exact ih2 _ _ _ _ _
      | exact ih3 _ _ _ _ _ _ _ _
      | exact ih4 _ _ _ _ _ _ _
      | exact yO _
      | refine yQ ?_ ?_
      | refine yP ?_ (fun _ => ?_)
theorem dist_Penalise.mono : ∀ a0 a1 a2 a3 a4 k, LeO (dist_Penalise.f k a0 a1 a2 a3 a4) (dist_Penalise.f (k + 1) a0 a1 a2 a3 a4) := by
  intro a0 a1 a2 a3 a4 k
  obtain ⟨ih0, ih1, ih2, ih3, ih4⟩ := dist_Penalise.mono_l k
  unfold dist_Penalise.f
  repeat' first
      | (with_reducible exact ih0 _ _ _ _ _ _)
      | (with_reducible exact ih1 _ _ _ _ _ _)
      | (with_reducible exact ih2 _ _ _ _ _)
      | (with_reducible exact ih3 _ _ _ _ _ _ _ _)
      | (with_reducible exact ih4 _ _ _ _ _ _ _)
      | (with_reducible exact yR _)
      | (with_reducible exact yO _)
      | (with_reducible refine yQ ?_ ?_)
      | (with_reducible refine yP ?_ (fun _ => ?_))
      | exact ih0 _ _ _ _ _ _
      | exact ih1 _ _ _ _ _ _
      | exact ih2 _ _ _ _ _
      | exact ih3 _ _ _ _ _ _ _ _
      | exact ih4 _ _ _ _ _ _ _
      | exact yO _
      | refine yQ ?_ ?_
      | refine yP ?_ (fun _ => ?_)
def dist_Penalise.T21 : Bool × List (List Nat × List Nat) := (true, [([], []), ([], []), ([], []), ([], []), ([2, 3], [2, 3]), ([4], [4]), ([], []), ([6], [6]), ([5, 7], [5, 7]), ([], []), ([], []), ([10], [10]), ([9, 11], [9, 11]), ([8, 12], [8, 12]), ([13], [13]), ([0, 1, 0, 1, 2, 3, 4, 5, 6, 7, 8, 9, 10, 11, 12, 13, 14], [0, 1]), ([15, 14, 14, 0, 1, 2, 3, 4, 5, 6, 7, 8, 9, 10, 11, 12, 13, 14], [14, 15])])
def dist_Penalise.B21 : List Nat := [0, 0, 0, 0, 12, 28, 0, 64, 252, 0, 0, 1024, 3584, 8188, 16380, 32767, 65535]
theorem dist_Penalise.tab21 : rtab .any (opsOf Try.f25 21) = dist_Penalise.T21 := by kernel_rfl
theorem dist_Penalise.bits21 : waitsOk dist_Penalise.T21.2 dist_Penalise.B21 = true := by kernel_rfl
set_option maxHeartbeats 8000000 in
set_option maxRecDepth 100000 in
theorem dist_Penalise.calls (k : Nat) (A0 : Option Addr) (c0 : Nat) (l0 : List Int) (P1_ : Nat → Prop) (A1 : Option Addr) (c1 : Nat) (l1 : List Int) (a2_0 : Int) (a2_1 : Int) (a2_2 : Int) (r1 : List Int) (r2 : Int) (w : World) (hr0 : Kd.C (Kd.int .i64) w A0 l0.length l0) (hc0 : l0.length ≤ c0) (hs1 : Kd.V (Kd.int .i64) 3 w w.heap.size (fun k_ => P1_ k_) (.slice A1 l1.length c1) l1) (h : dist_Penalise.f k l0 l1 a2_0 a2_1 a2_2 = some (r1, r2)) :
    Calls Try.prog 25 #[.slice A0 l0.length c0, .slice A1 l1.length c1, .agg #[.int .i64 a2_0, .int .i64 a2_1, .int .i64 a2_2]] w fun e w' => ∃ v0_ : Value, e = .returned (.tuple #[v0_, .int .i64 r2]) ∧ Kd.R (Kd.int .i64) 2 w' w.heap.size (fun k_ => (w.heap.size ≤ k_)) v0_ r1 ∧ Below w.heap.size w w' := by
  have hu53 := Try.underlying53
  have HR0 := zK hr0
  have HC0 := zK hc0
  clear hr0 hc0
  have HO1 := zK (show Kd.V (Kd.int .i64) 3 w w.heap.size (fun k_ => (P1_ k_ ∨ w.heap.size ≤ k_)) (.slice A1 l1.length c1) l1 from Kd.V_mono hs1 (fun k_ hk => .inl hk))
  have HB := zK (Below.refl w.heap.size w)
  have H : ((dist_scored.f l0).bind fun t532 => (if t532 = true then ((dist_between.f a2_0 0 65536).bind fun t533 => (if t533 = true then ((dist_Penalise_1.f a2_1).bind fun t534 => (if t534 = true then ((dist_Penalise_1.f a2_2).bind fun t535 => (dist_Penalise.j0 k l1 (!t535) l0 a2_0 a2_1 a2_2)) else (dist_Penalise.j0 k l1 true l0 a2_0 a2_1 a2_2))) else (dist_Penalise.j0 k l1 true l0 a2_0 a2_1 a2_2))) else (some (([] : List Int), 221)))) = some (r1, r2) := h
  clear h
  replace H := yA.mp H
  obtain ⟨t532, A40, H⟩ := H
  replace H : (if t532 = true then ((dist_between.f a2_0 0 65536).bind fun t533 => (if t533 = true then ((dist_Penalise_1.f a2_1).bind fun t534 => (if t534 = true then ((dist_Penalise_1.f a2_2).bind fun t535 => (dist_Penalise.j0 k l1 (!t535) l0 a2_0 a2_1 a2_2)) else (dist_Penalise.j0 k l1 true l0 a2_0 a2_1 a2_2))) else (dist_Penalise.j0 k l1 true l0 a2_0 a2_1 a2_2))) else (some (([] : List Int), 221))) = some (r1, r2) := H
  have A4 := zK A40
  clear A40
  by_cases c5 : t532 = true
  ·subst c5
   have H1 : ((dist_between.f a2_0 0 65536).bind fun t533 => (if t533 = true then ((dist_Penalise_1.f a2_1).bind fun t534 => (if t534 = true then ((dist_Penalise_1.f a2_2).bind fun t535 => (dist_Penalise.j0 k l1 (!t535) l0 a2_0 a2_1 a2_2)) else (dist_Penalise.j0 k l1 true l0 a2_0 a2_1 a2_2))) else (dist_Penalise.j0 k l1 true l0 a2_0 a2_1 a2_2))) = some (r1, r2) := by rw [if_pos rfl] at H; exact H
   clear H
   have H := H1
   clear H1
   have HC6 := zK H
   clear H
   go_enter Try.func25, Try.ntmps25
   go_upto_region 4 with (first | ((with_reducible refine gate_dst (N := 3) rfl ?_); refine box_event ?hg (N := 3) ?hd (cs := #[.slice A0 l0.length c0]) (t := 36) ?hr ?_; (case hd => rfl); (case hg => rfl); (case hr => first | (go_simp; done) | (go_simp; rfl)); intro Z8 hg w7 hbox hb; have n0_ := zK (Kd.V_below (Kd.V_elderB (by (with_reducible repeat (first | apply Kd.V_alloc | apply Kd.V_drewN | apply Kd.V_drew)); exact HO1.out) Z8 (Nat.le_of_eq hg.symm)) hb); have n1_ := zK (yL (by repeat (first | (with_reducible first | exact HB.out | apply zJ | apply zD | apply zE) | exact HB.out)) hb); have n2_ := zK (hbox); have n3_ := zK ((by rw [hg]; exact (yK (by repeat (first | (with_reducible first | exact HB.out | apply zJ | apply zD | apply zE) | exact HB.out))) : w.heap.size ≤ Z8)); have n4_ := zK ((by rw [hg]; exact (yK (by repeat (first | (with_reducible first | exact HB.out | apply zJ | apply zD | apply zE) | exact HB.out))) : w.heap.size ≤ Z8)); clear HO1 HB; have HO1 := n0_; have HB := n1_; have Z0 := n2_; have Z4 := n3_; have Z2 := n4_; clear n0_ n1_ n2_ n3_ n4_ hb hbox hg) | ((with_reducible refine gate_dst (N := 5) rfl ?_); refine box_event ?hg (N := 5) ?hd (cs := #[.int .i64 a2_0, .int .i64 a2_1, .int .i64 a2_2]) (t := 53) ?hr ?_; (case hd => rfl); (case hg => rfl); (case hr => first | (go_simp; done) | (go_simp; rfl)); intro Z9 hg w8 hbox hb; have n0_ := zK (Kd.V_below (Kd.V_elderB (by (with_reducible repeat (first | apply Kd.V_alloc | apply Kd.V_drewN | apply Kd.V_drew)); exact HO1.out) Z9 (Nat.le_of_eq hg.symm)) hb); have n1_ := zK (zP (g := Z8) (o := .cells #[.slice A0 l0.length c0] 36 (0, 0)) (by (with_reducible repeat (first | refine zF ?_ _ | refine zH ?_ | refine zG ?_ _)); exact Z0.out) hb); have n2_ := zK (yL (by repeat (first | (with_reducible first | exact HB.out | apply zJ | apply zD | apply zE | refine zI ?_ Z2.out) | exact HB.out)) hb); have n3_ := zK (hbox); have n4_ := zK ((by rw [hg]; exact (yK (by repeat (first | (with_reducible first | exact HB.out | apply zJ | apply zD | apply zE | refine zI ?_ Z2.out) | exact HB.out))) : w.heap.size ≤ Z9)); have n5_ := zK ((by rw [hg]; exact (yK (by repeat (first | (with_reducible first | exact HB.out | apply zJ | apply zD | apply zE | refine zI ?_ Z2.out) | exact HB.out))) : w.heap.size ≤ Z9)); have n6_ := zK ((by rw [hg]; exact ym (yo (g := Z8) (o := .cells #[.slice A0 l0.length c0] 36 (0, 0)) (by (with_reducible repeat (first | refine zF ?_ _ | refine zH ?_ | refine zG ?_ _)); exact Z0.out)) : Z8 ≠ Z9)); have n7_ := zK ((by rw [hg]; exact yn (yo (g := Z8) (o := .cells #[.slice A0 l0.length c0] 36 (0, 0)) (by (with_reducible repeat (first | refine zF ?_ _ | refine zH ?_ | refine zG ?_ _)); exact Z0.out)) : Z9 ≠ Z8)); clear HO1 Z0 HB; have HO1 := n0_; have Z0 := n1_; have HB := n2_; have Z1 := n3_; have Z5 := n4_; have Z3 := n5_; have Z6 := n6_; have Z7 := n7_; clear n0_ n1_ n2_ n3_ n4_ n5_ n6_ n7_ hb hbox hg; have hnb9 := Z6.out; have hnc9 := Z7.out; have hcz10_0 : w8.cell? ⟨Z8, 0, none⟩ = some (.slice A0 l0.length c0) := (zO Z0.out 0).trans rfl; have hfz10_0 := yE Z0.out 0) | ((with_reducible refine gate_callee (f := 55) rfl ?_); refine goesL_ (some 17) rfl rfl Try.func55 (by kernel_rfl) rfl #[.slice A0 l0.length c0] rfl (by (try simp only [yH, yI, yJ]); first | done | rfl | (simp only [yG, yF]; rfl)) ?_; (with_reducible refine (dist_scored.calls _ _ l0 true _ ?side1 ?side2 A4.out).mono ?_); (case side1 => repeat (first | exact (yc HR0.out HB.out) | (with_reducible refine yS ?_ _) | (with_reducible refine yT ?_ _) | (with_reducible refine yU ?_))); (case side2 => exact HC0.out); rintro e w11 ⟨rfl, hb⟩; refine ⟨_, rfl, ?_⟩; have n0_ := zK (Kd.V_below (by (with_reducible repeat (first | apply Kd.V_alloc | apply Kd.V_drewN | apply Kd.V_drew)); exact HO1.out) hb); have n1_ := zK (zP (g := Z8) (o := .cells #[.slice A0 l0.length c0] 36 (0, 0)) (by (with_reducible repeat (first | refine zF ?_ _ | refine zH ?_ | refine zG ?_ _)); exact Z0.out) hb); have n2_ := zK (zP (g := Z9) (o := .cells #[.int .i64 a2_0, .int .i64 a2_1, .int .i64 a2_2] 53 (0, 0)) (by (with_reducible repeat (first | refine zF ?_ _ | refine zH ?_ | refine zG ?_ _)); exact Z1.out) hb); have n3_ := zK (yL (by repeat (first | (with_reducible first | exact HB.out | apply zJ | apply zD | apply zE | refine zI ?_ Z2.out | refine zI ?_ Z3.out) | exact HB.out)) hb); clear HO1 Z0 Z1 HB; have HO1 := n0_; have Z0 := n1_; have Z1 := n2_; have HB := n3_; clear n0_ n1_ n2_ n3_; (try clear hb); (try clear hb2); (try clear hk); (try clear hi)))
   (try simp only [Act.put, zA, zB, zC])
   go_cut [19] (fun v19 wc => ∃ (kq : Nat) (x19_5 : Bool), v19 = .bool x19_5 ∧ Aside0 (dist_Penalise.j0 kq l1 x19_5 l0 a2_0 a2_1 a2_2 = some (r1, r2)) ∧ Aside0 (kq ≤ k) ∧ Aside0 (Kd.V (Kd.int .i64) 3 wc w.heap.size (fun k_ => (P1_ k_ ∨ w.heap.size ≤ k_) ∧ k_ ≠ Z8 ∧ k_ ≠ Z9) (.slice A1 l1.length c1) l1) ∧ Aside0 (wc.heap[Z8]? = some (.cells #[(.slice A0 l0.length c0)] 36 (0, 0))) ∧ Aside0 (wc.heap[Z9]? = some (.cells #[.int .i64 a2_0, .int .i64 a2_1, .int .i64 a2_2] 53 (0, 0))) ∧ Aside0 (Below w.heap.size w wc))
   case first =>
    have H := HC6.out
    clear HC6
    replace H := yA.mp H
    obtain ⟨t533, A120, H⟩ := H
    replace H : (if t533 = true then ((dist_Penalise_1.f a2_1).bind fun t534 => (if t534 = true then ((dist_Penalise_1.f a2_2).bind fun t535 => (dist_Penalise.j0 k l1 (!t535) l0 a2_0 a2_1 a2_2)) else (dist_Penalise.j0 k l1 true l0 a2_0 a2_1 a2_2))) else (dist_Penalise.j0 k l1 true l0 a2_0 a2_1 a2_2)) = some (r1, r2) := H
    have A12 := zK A120
    clear A120
    by_cases c13 : t533 = true
    ·subst c13
     have H1 : ((dist_Penalise_1.f a2_1).bind fun t534 => (if t534 = true then ((dist_Penalise_1.f a2_2).bind fun t535 => (dist_Penalise.j0 k l1 (!t535) l0 a2_0 a2_1 a2_2)) else (dist_Penalise.j0 k l1 true l0 a2_0 a2_1 a2_2))) = some (r1, r2) := by rw [if_pos rfl] at H; exact H
     clear H
     have H := H1
     clear H1
     replace H := yA.mp H
     obtain ⟨t534, A140, H⟩ := H
     replace H : (if t534 = true then ((dist_Penalise_1.f a2_2).bind fun t535 => (dist_Penalise.j0 k l1 (!t535) l0 a2_0 a2_1 a2_2)) else (dist_Penalise.j0 k l1 true l0 a2_0 a2_1 a2_2)) = some (r1, r2) := H
     have A14 := zK A140
     clear A140
     by_cases c15 : t534 = true
     ·subst c15
      have H1 : ((dist_Penalise_1.f a2_2).bind fun t535 => (dist_Penalise.j0 k l1 (!t535) l0 a2_0 a2_1 a2_2)) = some (r1, r2) := by rw [if_pos rfl] at H; exact H
      clear H
      have H := H1
      clear H1
      replace H := yA.mp H
      obtain ⟨t535, A160, H⟩ := H
      replace H : (dist_Penalise.j0 k l1 (!t535) l0 a2_0 a2_1 a2_2) = some (r1, r2) := H
      have A16 := zK A160
      clear A160
      have H' := zK H
      clear H
      have hnb17 := Z7.out
      have hnc17 := Z6.out
      have hcz18_0 : w11.cell? ⟨Z9, 0, none⟩ = some (.int .i64 a2_0) := (zO Z1.out 0).trans rfl
      have hcz18_1 : w11.cell? ⟨Z9, 1, none⟩ = some (.int .i64 a2_1) := (zO Z1.out 1).trans rfl
      have hcz18_2 : w11.cell? ⟨Z9, 2, none⟩ = some (.int .i64 a2_2) := (zO Z1.out 2).trans rfl
      have hfz18_0 := yE Z1.out 0
      have hfz18_1 := yE Z1.out 1
      have hfz18_2 := yE Z1.out 2
      go_wp2_with (first | ((with_reducible refine gate_callee (f := 33) rfl ?_); refine goesL_ (some 22) rfl rfl Try.func33 (by kernel_rfl) rfl #[.int .i64 a2_0, .int .i64 0, .int .i64 65536] rfl (by (try simp only [yH, yI, yJ]); first | done | rfl | (simp only [yG, yF]; rfl)) ?_; (with_reducible refine (dist_between.calls a2_0 0 65536 true _ A12.out).mono ?_); rintro e w' ⟨rfl, ⟨nd, rfl⟩⟩; refine ⟨_, rfl, ?_⟩) | (go_at_call 54; (with_reducible refine (dist_Penalise_1.calls a2_1 true _ A14.out).mono ?_); rintro e w' ⟨rfl, ⟨nd, rfl⟩⟩) | (go_at_call 54; (with_reducible refine (dist_Penalise_1.calls a2_2 t535 _ A16.out).mono ?_); rintro e w' ⟨rfl, ⟨nd, rfl⟩⟩))
      go_meet
      case rel => exact ⟨_, (!t535), (by first | rfl | (simp; done) | (simp [*]; done)), H', ⟨by first | omega | exact yN _⟩, ⟨by (with_reducible repeat (first | apply Kd.V_alloc | apply Kd.V_drewN | apply Kd.V_drew)); exact Kd.V_mono HO1.out (fun _ hk => ⟨hk.1.1, ⟨hk.1.2, hk.2⟩⟩)⟩, ⟨by (with_reducible repeat (first | refine zF ?_ _ | refine zH ?_ | refine zG ?_ _)); exact Z0.out⟩, ⟨by (with_reducible repeat (first | refine zF ?_ _ | refine zH ?_ | refine zG ?_ _)); exact Z1.out⟩, ⟨by repeat (first | (with_reducible first | exact HB.out | apply zJ | apply zD | apply zE | refine zI ?_ Z2.out | refine zI ?_ Z3.out) | exact HB.out)⟩⟩
     ·replace c15 := yh.mpr c15
      subst c15
      have H1 : (dist_Penalise.j0 k l1 true l0 a2_0 a2_1 a2_2) = some (r1, r2) := by rw [if_neg (show ¬ (false = true) by decide)] at H; exact H
      clear H
      have H := H1
      clear H1
      have H' := zK H
      clear H
      have hnb19 := Z7.out
      have hnc19 := Z6.out
      have hcz20_0 : w11.cell? ⟨Z9, 0, none⟩ = some (.int .i64 a2_0) := (zO Z1.out 0).trans rfl
      have hcz20_1 : w11.cell? ⟨Z9, 1, none⟩ = some (.int .i64 a2_1) := (zO Z1.out 1).trans rfl
      have hcz20_2 : w11.cell? ⟨Z9, 2, none⟩ = some (.int .i64 a2_2) := (zO Z1.out 2).trans rfl
      have hfz20_0 := yE Z1.out 0
      have hfz20_1 := yE Z1.out 1
      have hfz20_2 := yE Z1.out 2
      go_wp2_with (first | ((with_reducible refine gate_callee (f := 33) rfl ?_); refine goesL_ (some 22) rfl rfl Try.func33 (by kernel_rfl) rfl #[.int .i64 a2_0, .int .i64 0, .int .i64 65536] rfl (by (try simp only [yH, yI, yJ]); first | done | rfl | (simp only [yG, yF]; rfl)) ?_; (with_reducible refine (dist_between.calls a2_0 0 65536 true _ A12.out).mono ?_); rintro e w' ⟨rfl, ⟨nd, rfl⟩⟩; refine ⟨_, rfl, ?_⟩) | (go_at_call 54; (with_reducible refine (dist_Penalise_1.calls a2_1 false _ A14.out).mono ?_); rintro e w' ⟨rfl, ⟨nd, rfl⟩⟩))
      go_meet
      case rel => exact ⟨_, (true), (by first | rfl | (simp; done) | (simp [*]; done)), H', ⟨by first | omega | exact yN _⟩, ⟨by (with_reducible repeat (first | apply Kd.V_alloc | apply Kd.V_drewN | apply Kd.V_drew)); exact Kd.V_mono HO1.out (fun _ hk => ⟨hk.1.1, ⟨hk.1.2, hk.2⟩⟩)⟩, ⟨by (with_reducible repeat (first | refine zF ?_ _ | refine zH ?_ | refine zG ?_ _)); exact Z0.out⟩, ⟨by (with_reducible repeat (first | refine zF ?_ _ | refine zH ?_ | refine zG ?_ _)); exact Z1.out⟩, ⟨by repeat (first | (with_reducible first | exact HB.out | apply zJ | apply zD | apply zE | refine zI ?_ Z2.out | refine zI ?_ Z3.out) | exact HB.out)⟩⟩
    ·replace c13 := yh.mpr c13
     subst c13
     have H1 : (dist_Penalise.j0 k l1 true l0 a2_0 a2_1 a2_2) = some (r1, r2) := by rw [if_neg (show ¬ (false = true) by decide)] at H; exact H
     clear H
     have H := H1
     clear H1
     have H' := zK H
     clear H
     have hnb21 := Z7.out
     have hnc21 := Z6.out
     have hcz22_0 : w11.cell? ⟨Z9, 0, none⟩ = some (.int .i64 a2_0) := (zO Z1.out 0).trans rfl
     have hcz22_1 : w11.cell? ⟨Z9, 1, none⟩ = some (.int .i64 a2_1) := (zO Z1.out 1).trans rfl
     have hcz22_2 : w11.cell? ⟨Z9, 2, none⟩ = some (.int .i64 a2_2) := (zO Z1.out 2).trans rfl
     have hfz22_0 := yE Z1.out 0
     have hfz22_1 := yE Z1.out 1
     have hfz22_2 := yE Z1.out 2
     go_wp2_with (first | ((with_reducible refine gate_callee (f := 33) rfl ?_); refine goesL_ (some 22) rfl rfl Try.func33 (by kernel_rfl) rfl #[.int .i64 a2_0, .int .i64 0, .int .i64 65536] rfl (by (try simp only [yH, yI, yJ]); first | done | rfl | (simp only [yG, yF]; rfl)) ?_; (with_reducible refine (dist_between.calls a2_0 0 65536 false _ A12.out).mono ?_); rintro e w' ⟨rfl, ⟨nd, rfl⟩⟩; refine ⟨_, rfl, ?_⟩))
     go_meet
     case rel => exact ⟨_, (true), (by first | rfl | (simp; done) | (simp [*]; done)), H', ⟨by first | omega | exact yN _⟩, ⟨by (with_reducible repeat (first | apply Kd.V_alloc | apply Kd.V_drewN | apply Kd.V_drew)); exact Kd.V_mono HO1.out (fun _ hk => ⟨hk.1.1, ⟨hk.1.2, hk.2⟩⟩)⟩, ⟨by (with_reducible repeat (first | refine zF ?_ _ | refine zH ?_ | refine zG ?_ _)); exact Z0.out⟩, ⟨by (with_reducible repeat (first | refine zF ?_ _ | refine zH ?_ | refine zG ?_ _)); exact Z1.out⟩, ⟨by repeat (first | (with_reducible first | exact HB.out | apply zJ | apply zD | apply zE | refine zI ?_ Z2.out | refine zI ?_ Z3.out) | exact HB.out)⟩⟩
   case rest =>
    clear HC6
    try clear c1
    try clear c2
    try clear p2
    try clear c3
    try clear c5
    try clear c9
    try clear c13
    try clear c15
    try clear c17
    try clear c19
    try clear c21
    try clear hcz10_0
    try clear hcz18_0
    try clear hcz18_1
    try clear hcz18_2
    try clear hcz20_0
    try clear hcz20_1
    try clear hcz20_2
    try clear hcz22_0
    try clear hcz22_1
    try clear hcz22_2
    try clear hfz10_0
    try clear hfz18_0
    try clear hfz18_1
    try clear hfz18_2
    try clear hfz20_0
    try clear hfz20_1
    try clear hfz20_2
    try clear hfz22_0
    try clear hfz22_1
    try clear hfz22_2
    obtain ⟨kq, x19_5, rfl, HA, HJ5, HO_1, Z0, Z1, HB⟩ := hcut
    cases kq with
    | zero => exact absurd HA.out (by simp [dist_Penalise.j0])
    | succ kj5 =>
     have H := HA.out
     clear HA
     simp only [dist_Penalise.j0] at H
     by_cases c23 : x19_5 = true
     ·subst c23
      have H1 : (some (([] : List Int), 220)) = some (r1, r2) := by rw [if_pos rfl] at H; exact H
      clear H
      have H := H1
      clear H1
      simp only [yZ, ya] at H
      obtain ⟨rfl, rfl⟩ := H
      go_wp2
      go_ret2
      exact ⟨_, by first | rfl | (simp [errW_none, errW_some] <;> rfl) | (simp [*, errW_none, errW_some] <;> rfl), by first | exact Kd.R_nil _ _ _ _ _ | exact Kd.N_nil _ _ _ _ _ | exact Kd.V_nil _ _ _ _ _ | exact Kd.Q_nil _ _ _ _ _ | exact Kd.S_nil _ _ _ _ _, by repeat (first | (with_reducible first | exact HB.out | apply zJ | apply zD | apply zE | refine zI ?_ Z2.out | refine zI ?_ Z3.out) | exact HB.out)⟩
     ·replace c23 := yh.mpr c23
      subst c23
      have H1 : (if (l1.length : Int) > 65536 then (some (([] : List Int), 1)) else ((slices_ContainsFunc_int_int.f l1 l0).bind fun t536 => (if t536 = true then (some (([] : List Int), 1)) else (if a2_0 > 0 then (dist_Penalise.j1 kj5 l1 (decide (a2_0 < (l1.length : Int))) l0 a2_0 a2_1 a2_2) else (dist_Penalise.j1 kj5 l1 false l0 a2_0 a2_1 a2_2))))) = some (r1, r2) := by rw [if_neg (show ¬ (false = true) by decide)] at H; exact H
      clear H
      have H := H1
      clear H1
      by_cases c24 : (l1.length : Int) > 65536
      ·rw [if_pos c24] at H
       have c24b0 : decide (65536 < (l1.length : Int)) = true := yC c24
       have c24b1 : decide (65536 < l1.length) = true := yC (by omega)
       clear c24
       simp only [yZ, ya] at H
       obtain ⟨rfl, rfl⟩ := H
       go_wp2
       go_ret2
       exact ⟨_, by first | rfl | (simp [errW_none, errW_some] <;> rfl) | (simp [*, errW_none, errW_some] <;> rfl), by first | exact Kd.R_nil _ _ _ _ _ | exact Kd.N_nil _ _ _ _ _ | exact Kd.V_nil _ _ _ _ _ | exact Kd.Q_nil _ _ _ _ _ | exact Kd.S_nil _ _ _ _ _, by repeat (first | (with_reducible first | exact HB.out | apply zJ | apply zD | apply zE | refine zI ?_ Z2.out | refine zI ?_ Z3.out) | exact HB.out)⟩
      ·rw [if_neg c24] at H
       have c24b0 : decide (65536 < (l1.length : Int)) = false := yD c24
       have c24b1 : decide (65536 < l1.length) = false := yD (by omega)
       clear c24
       replace H := yA.mp H
       obtain ⟨t536, A250, H⟩ := H
       replace H : (if t536 = true then (some (([] : List Int), 1)) else (if a2_0 > 0 then (dist_Penalise.j1 kj5 l1 (decide (a2_0 < (l1.length : Int))) l0 a2_0 a2_1 a2_2) else (dist_Penalise.j1 kj5 l1 false l0 a2_0 a2_1 a2_2))) = some (r1, r2) := H
       have A25 := zK A250
       clear A250
       by_cases c26 : t536 = true
       ·subst c26
        have H1 : (some (([] : List Int), 1)) = some (r1, r2) := by rw [if_pos rfl] at H; exact H
        clear H
        have H := H1
        clear H1
        simp only [yZ, ya] at H
        obtain ⟨rfl, rfl⟩ := H
        go_wp2_with (first | (go_at_call 56; (with_reducible refine (slices_ContainsFunc_int_int.calls _ _ l1 Z8 A0 c0 l0 true _ ?side1 ?side2 ?side3 ?side4 ?side5 A25.out).mono ?_); (case side1 => repeat (first | exact (Kd.V_reads' HO_1.out).2.2 | (with_reducible refine yS ?_ _) | (with_reducible refine yT ?_ _) | (with_reducible refine yU ?_))); (case side2 => exact (Kd.V_reads' HO_1.out).2.1); (case side3 => repeat (first | exact (yc HR0.out HB.out) | (with_reducible refine yS ?_ _) | (with_reducible refine yT ?_ _) | (with_reducible refine yU ?_))); (case side4 => exact HC0.out); (case side5 => exact by (with_reducible repeat (first | refine zF ?_ _ | refine zH ?_ | refine zG ?_ _)); exact Z0.out); rintro e w27 ⟨rfl, hb⟩; have n0_ := zK (Kd.V_below (by (with_reducible repeat (first | apply Kd.V_alloc | apply Kd.V_drewN | apply Kd.V_drew)); exact HO_1.out) hb); have n1_ := zK (zP (g := Z8) (o := .cells #[.slice A0 l0.length c0] 36 (0, 0)) (by (with_reducible repeat (first | refine zF ?_ _ | refine zH ?_ | refine zG ?_ _)); exact Z0.out) hb); have n2_ := zK (zP (g := Z9) (o := .cells #[.int .i64 a2_0, .int .i64 a2_1, .int .i64 a2_2] 53 (0, 0)) (by (with_reducible repeat (first | refine zF ?_ _ | refine zH ?_ | refine zG ?_ _)); exact Z1.out) hb); have n3_ := zK (yL (by repeat (first | (with_reducible first | exact HB.out | apply zJ | apply zD | apply zE | refine zI ?_ Z2.out | refine zI ?_ Z3.out) | exact HB.out)) hb); clear HO_1 Z0 Z1 HB; have HO_1 := n0_; have Z0 := n1_; have Z1 := n2_; have HB := n3_; clear n0_ n1_ n2_ n3_; (try clear hb); (try clear hb2); (try clear hk); (try clear hi)))
        go_ret2
        exact ⟨_, by first | rfl | (simp [errW_none, errW_some] <;> rfl) | (simp [*, errW_none, errW_some] <;> rfl), by first | exact Kd.R_nil _ _ _ _ _ | exact Kd.N_nil _ _ _ _ _ | exact Kd.V_nil _ _ _ _ _ | exact Kd.Q_nil _ _ _ _ _ | exact Kd.S_nil _ _ _ _ _, by repeat (first | (with_reducible first | exact HB.out | apply zJ | apply zD | apply zE | refine zI ?_ Z2.out | refine zI ?_ Z3.out) | exact HB.out)⟩
       ·replace c26 := yh.mpr c26
        subst c26
        have H1 : (if a2_0 > 0 then (dist_Penalise.j1 kj5 l1 (decide (a2_0 < (l1.length : Int))) l0 a2_0 a2_1 a2_2) else (dist_Penalise.j1 kj5 l1 false l0 a2_0 a2_1 a2_2)) = some (r1, r2) := by rw [if_neg (show ¬ (false = true) by decide)] at H; exact H
        clear H
        have H := H1
        clear H1
        have HC28 := zK H
        clear H
        go_upto_region 8 with (first | (go_at_call 56; (with_reducible refine (slices_ContainsFunc_int_int.calls _ _ l1 Z8 A0 c0 l0 false _ ?side1 ?side2 ?side3 ?side4 ?side5 A25.out).mono ?_); (case side1 => repeat (first | exact (Kd.V_reads' HO_1.out).2.2 | (with_reducible refine yS ?_ _) | (with_reducible refine yT ?_ _) | (with_reducible refine yU ?_))); (case side2 => exact (Kd.V_reads' HO_1.out).2.1); (case side3 => repeat (first | exact (yc HR0.out HB.out) | (with_reducible refine yS ?_ _) | (with_reducible refine yT ?_ _) | (with_reducible refine yU ?_))); (case side4 => exact HC0.out); (case side5 => exact by (with_reducible repeat (first | refine zF ?_ _ | refine zH ?_ | refine zG ?_ _)); exact Z0.out); rintro e w29 ⟨rfl, hb⟩; have n0_ := zK (Kd.V_below (by (with_reducible repeat (first | apply Kd.V_alloc | apply Kd.V_drewN | apply Kd.V_drew)); exact HO_1.out) hb); have n1_ := zK (zP (g := Z8) (o := .cells #[.slice A0 l0.length c0] 36 (0, 0)) (by (with_reducible repeat (first | refine zF ?_ _ | refine zH ?_ | refine zG ?_ _)); exact Z0.out) hb); have n2_ := zK (zP (g := Z9) (o := .cells #[.int .i64 a2_0, .int .i64 a2_1, .int .i64 a2_2] 53 (0, 0)) (by (with_reducible repeat (first | refine zF ?_ _ | refine zH ?_ | refine zG ?_ _)); exact Z1.out) hb); have n3_ := zK (yL (by repeat (first | (with_reducible first | exact HB.out | apply zJ | apply zD | apply zE | refine zI ?_ Z2.out | refine zI ?_ Z3.out) | exact HB.out)) hb); clear HO_1 Z0 Z1 HB; have HO_1 := n0_; have Z0 := n1_; have Z1 := n2_; have HB := n3_; clear n0_ n1_ n2_ n3_; (try clear hb); (try clear hb2); (try clear hk); (try clear hi)))
        (try simp only [Act.put, zA, zB, zC])
        go_cut [56] (fun v56 wc => ∃ (kq : Nat) (x56_27 : Bool), v56 = .bool x56_27 ∧ Aside0 (dist_Penalise.j1 kq l1 x56_27 l0 a2_0 a2_1 a2_2 = some (r1, r2)) ∧ Aside0 (kq ≤ kj5) ∧ Aside0 (Kd.V (Kd.int .i64) 3 wc w.heap.size (fun k_ => (P1_ k_ ∨ w.heap.size ≤ k_) ∧ k_ ≠ Z8 ∧ k_ ≠ Z9) (.slice A1 l1.length c1) l1) ∧ Aside0 (wc.heap[Z8]? = some (.cells #[(.slice A0 l0.length c0)] 36 (0, 0))) ∧ Aside0 (wc.heap[Z9]? = some (.cells #[.int .i64 a2_0, .int .i64 a2_1, .int .i64 a2_2] 53 (0, 0))) ∧ Aside0 (Below w.heap.size w wc))
        case first =>
         have H := HC28.out
         clear HC28
         by_cases c30 : a2_0 > 0
         ·rw [if_pos c30] at H
          have c30b0 : decide (0 < a2_0) = true := yC c30
          clear c30
          (first | rw [c30b0] | (simp only [i64_w, i32_w]; rw [c30b0]) | skip)
          have H' := zK H
          clear H
          have hnb31 := Z7.out
          have hnc31 := Z6.out
          have hcz32_0 : w29.cell? ⟨Z9, 0, none⟩ = some (.int .i64 a2_0) := (zO Z1.out 0).trans rfl
          have hcz32_1 : w29.cell? ⟨Z9, 1, none⟩ = some (.int .i64 a2_1) := (zO Z1.out 1).trans rfl
          have hcz32_2 : w29.cell? ⟨Z9, 2, none⟩ = some (.int .i64 a2_2) := (zO Z1.out 2).trans rfl
          have hfz32_0 := yE Z1.out 0
          have hfz32_1 := yE Z1.out 1
          have hfz32_2 := yE Z1.out 2
          go_wp2
          go_meet
          case rel => exact ⟨_, (decide (a2_0 < (l1.length : Int))), (by first | rfl | (simp; done) | (simp [*]; done)), H', ⟨by have := HJ5.out; first | omega | exact yN _⟩, ⟨by (with_reducible repeat (first | apply Kd.V_alloc | apply Kd.V_drewN | apply Kd.V_drew)); exact HO_1.out⟩, ⟨by (with_reducible repeat (first | refine zF ?_ _ | refine zH ?_ | refine zG ?_ _)); exact Z0.out⟩, ⟨by (with_reducible repeat (first | refine zF ?_ _ | refine zH ?_ | refine zG ?_ _)); exact Z1.out⟩, ⟨by repeat (first | (with_reducible first | exact HB.out | apply zJ | apply zD | apply zE | refine zI ?_ Z2.out | refine zI ?_ Z3.out) | exact HB.out)⟩⟩
         ·rw [if_neg c30] at H
          have c30b0 : decide (0 < a2_0) = false := yD c30
          clear c30
          (first | rw [c30b0] | (simp only [i64_w, i32_w]; rw [c30b0]) | skip)
          have H' := zK H
          clear H
          have hnb33 := Z7.out
          have hnc33 := Z6.out
          have hcz34_0 : w29.cell? ⟨Z9, 0, none⟩ = some (.int .i64 a2_0) := (zO Z1.out 0).trans rfl
          have hcz34_1 : w29.cell? ⟨Z9, 1, none⟩ = some (.int .i64 a2_1) := (zO Z1.out 1).trans rfl
          have hcz34_2 : w29.cell? ⟨Z9, 2, none⟩ = some (.int .i64 a2_2) := (zO Z1.out 2).trans rfl
          have hfz34_0 := yE Z1.out 0
          have hfz34_1 := yE Z1.out 1
          have hfz34_2 := yE Z1.out 2
          go_wp2
          go_meet
          case rel => exact ⟨_, (false), (by first | rfl | (simp; done) | (simp [*]; done)), H', ⟨by have := HJ5.out; first | omega | exact yN _⟩, ⟨by (with_reducible repeat (first | apply Kd.V_alloc | apply Kd.V_drewN | apply Kd.V_drew)); exact HO_1.out⟩, ⟨by (with_reducible repeat (first | refine zF ?_ _ | refine zH ?_ | refine zG ?_ _)); exact Z0.out⟩, ⟨by (with_reducible repeat (first | refine zF ?_ _ | refine zH ?_ | refine zG ?_ _)); exact Z1.out⟩, ⟨by repeat (first | (with_reducible first | exact HB.out | apply zJ | apply zD | apply zE | refine zI ?_ Z2.out | refine zI ?_ Z3.out) | exact HB.out)⟩⟩
        case rest =>
         clear HC28
         try clear c1
         try clear c2
         try clear p2
         try clear c3
         try clear c5
         try clear c9
         try clear c13
         try clear c15
         try clear c17
         try clear c19
         try clear c21
         try clear c23
         try clear c24
         try clear c24b0
         try clear c24b1
         try clear c25
         try clear c26
         try clear c30
         try clear c30b0
         try clear c31
         try clear c33
         try clear hcz10_0
         try clear hcz18_0
         try clear hcz18_1
         try clear hcz18_2
         try clear hcz20_0
         try clear hcz20_1
         try clear hcz20_2
         try clear hcz22_0
         try clear hcz22_1
         try clear hcz22_2
         try clear hcz32_0
         try clear hcz32_1
         try clear hcz32_2
         try clear hcz34_0
         try clear hcz34_1
         try clear hcz34_2
         try clear hfz10_0
         try clear hfz18_0
         try clear hfz18_1
         try clear hfz18_2
         try clear hfz20_0
         try clear hfz20_1
         try clear hfz20_2
         try clear hfz22_0
         try clear hfz22_1
         try clear hfz22_2
         try clear hfz32_0
         try clear hfz32_1
         try clear hfz32_2
         try clear hfz34_0
         try clear hfz34_1
         try clear hfz34_2
         try clear p2
         obtain ⟨kq, x56_27, rfl, HA, HJ27, HO_1, Z0, Z1, HB⟩ := hcut
         cases kq with
         | zero => exact absurd HA.out (by simp [dist_Penalise.j1])
         | succ kj27 =>
          have H := HA.out
          clear HA
          simp only [dist_Penalise.j1] at H
          have HC35 := zK H
          clear H
          go_upto_if 56 with (fail)
          go_cut [1] (fun v1 wc => ∃ (kq : Nat) (x1_34 : List Int), Aside0 (dist_Penalise.j2 kq x1_34 l0 a2_0 a2_1 a2_2 = some (r1, r2)) ∧ Aside0 (kq ≤ kj27) ∧ Aside0 (Kd.V (Kd.int .i64) 3 wc w.heap.size (fun k_ => (P1_ k_ ∨ w.heap.size ≤ k_) ∧ k_ ≠ Z8 ∧ k_ ≠ Z9) v1 x1_34) ∧ Aside0 (wc.heap[Z8]? = some (.cells #[(.slice A0 l0.length c0)] 36 (0, 0))) ∧ Aside0 (wc.heap[Z9]? = some (.cells #[.int .i64 a2_0, .int .i64 a2_1, .int .i64 a2_2] 53 (0, 0))) ∧ Aside0 (Below w.heap.size w wc))
          case first =>
           have H := HC35.out
           clear HC35
           by_cases c36 : x56_27 = true
           ·subst c36
            have H1 : (if 0 ≤ (wrap64 ((l1.length : Int) - a2_0)) then (if (wrap64 ((l1.length : Int) - a2_0)) ≤ (l1.length : Int) then (dist_Penalise.j2 kj27 (l1.drop ((wrap64 ((l1.length : Int) - a2_0)) : Int).toNat) l0 a2_0 a2_1 a2_2) else (none)) else (none)) = some (r1, r2) := by rw [if_pos rfl] at H; exact H
            clear H
            have H := H1
            clear H1
            obtain ⟨ji37, hji37⟩ : ∃ j_ : Int, (wrap64 ((l1.length : Int) - a2_0)) = j_ := ⟨_, rfl⟩
            replace H : (if 0 ≤ (ji37) then (if (ji37) ≤ (l1.length : Int) then (dist_Penalise.j2 kj27 (l1.drop ((ji37) : Int).toNat) l0 a2_0 a2_1 a2_2) else (none)) else (none)) = some (r1, r2) := by first | (rw [hji37] at H; exact H) | (simp only [hji37] at H ⊢; exact H)
            have hji37w : (IntKind.i64.wrap ((l1.length : Int) - a2_0)) = ji37 := (i64_w _).trans hji37
            by_cases c38 : 0 ≤ (ji37)
            ·rw [if_pos c38] at H
             have c38b0 := yg c38
             have c38b1 : decide (0 ≤ (ji37)) = true := yC c38
             clear c38
             by_cases c39 : (ji37) ≤ (l1.length : Int)
             ·rw [if_pos c39] at H
              have c39b0 := yg c39
              have c39b1 : decide ((ji37) ≤ (l1.length : Int)) = true := yC c39
              clear c39
              obtain ⟨y537, hy537⟩ : ∃ y_ : List Int, y_ = (l1.drop ((ji37) : Int).toNat) := ⟨_, rfl⟩
              replace H : (dist_Penalise.j2 kj27 y537 l0 a2_0 a2_1 a2_2) = some (r1, r2) := by first | (rw [hy537]; with_reducible exact H) | (have H2_ := (yV _ _).symm.trans H; rw [hy537]; with_reducible exact H2_) | (have H2_ := (yV _ _).symm.trans H; with_reducible exact H2_) | with_reducible exact H | (rw [hy537]; exact H) | exact H
              have Ny537 := zK hy537
              clear hy537
              have H' := zK H
              clear H
              have hnb40 := Z7.out
              have hnc40 := Z6.out
              have hcz41_0 : wc.cell? ⟨Z9, 0, none⟩ = some (.int .i64 a2_0) := (zO Z1.out 0).trans rfl
              have hcz41_1 : wc.cell? ⟨Z9, 1, none⟩ = some (.int .i64 a2_1) := (zO Z1.out 1).trans rfl
              have hcz41_2 : wc.cell? ⟨Z9, 2, none⟩ = some (.int .i64 a2_2) := (zO Z1.out 2).trans rfl
              have hfz41_0 := yE Z1.out 0
              have hfz41_1 := yE Z1.out 1
              have hfz41_2 := yE Z1.out 2
              have q42 : ((ji37) : Int) ≤ ((l1.length : Int) : Int) := yB (by first | (with_reducible assumption) | assumption)
              obtain ⟨i042, hi042, _, hsz42, _⟩ := yj info3
              have hroom42 : l1.length ≤ c1 := (Kd.V_reads' HO_1.out).2.1
              have hC42 : Kd.F (Kd.int .i64) _ _ A1 l1.length l1 := (Kd.V_at (base := w.heap.size) HO_1.out).2.2
              have q042 : (0 : Int) ≤ ((ji37) : Int) := yB (by first | (with_reducible assumption) | assumption)
              have hcut42 := cut_from (P := Try.prog) 51 3 .i64 Try.underlying51 hi042 1 hsz42 A1 l1.length c1 (ji37) q042 q42
              have hr42 := Kd.F_cut (m := ((ji37) : Int).toNat) (c := c1) hC42 (by omega) hroom42
              obtain ⟨A42, hA42⟩ : ∃ Aq_, Aq_ = (if c1 = ((ji37) : Int).toNat then A1 else (A1 : Option Addr).map (·.add (((ji37) : Int).toNat * 1))) := ⟨_, rfl⟩
              obtain ⟨c42, hc42⟩ : ∃ cq_, cq_ = c1 - ((ji37) : Int).toNat := ⟨_, rfl⟩
              have hy42 : y537.length = l1.length - ((ji37) : Int).toNat := (by rw [Ny537.out, yG] <;> omega)
              rw [show (l1).drop ((ji37) : Int).toNat = y537 from Ny537.out.symm] at hr42
              replace hr42 : Kd.F (Kd.int .i64) _ _ A42 y537.length y537 := (by rw [hA42]; exact hr42)
              rw [← hy42, ← hA42, ← hc42] at hcut42
              have HO541 := zK (show Kd.V (Kd.int .i64) 3 _ w.heap.size _ (.slice A42 y537.length c42) y537 from Kd.V_mk (by rw [hy42, hc42]; exact Nat.sub_le_sub_right hroom42 _) hr42)
              have HC541 := zK (show y537.length ≤ c42 from by rw [hy42, hc42]; exact Nat.sub_le_sub_right hroom42 _)
              clear hr42 hC42 hroom42 hi042 hsz42 hc42
              have KY42 := zK hy42
              have KA42 := zK hA42
              clear hy42 hA42
              replace q42 := yg q42
              go_wp2
              go_meet
              case rel => exact ⟨_, (y537), H', ⟨by have := HJ5.out; have := HJ27.out; first | omega | exact yN _⟩, ⟨by (with_reducible repeat (first | apply Kd.V_alloc | apply Kd.V_drewN | apply Kd.V_drew)); exact HO541.out⟩, ⟨by (with_reducible repeat (first | refine zF ?_ _ | refine zH ?_ | refine zG ?_ _)); exact Z0.out⟩, ⟨by (with_reducible repeat (first | refine zF ?_ _ | refine zH ?_ | refine zG ?_ _)); exact Z1.out⟩, ⟨by repeat (first | (with_reducible first | exact HB.out | apply zJ | apply zD | apply zE | refine zI ?_ Z2.out | refine zI ?_ Z3.out) | exact HB.out)⟩⟩
             ·rw [if_neg c39] at H
              exact absurd H (by simp)
            ·rw [if_neg c38] at H
             exact absurd H (by simp)
           ·replace c36 := yh.mpr c36
            subst c36
            have H1 : (dist_Penalise.j2 kj27 l1 l0 a2_0 a2_1 a2_2) = some (r1, r2) := by rw [if_neg (show ¬ (false = true) by decide)] at H; exact H
            clear H
            have H := H1
            clear H1
            have H' := zK H
            clear H
            go_wp2
            go_meet
            case rel => exact ⟨_, (l1), H', ⟨by have := HJ5.out; have := HJ27.out; first | omega | exact yN _⟩, ⟨by (with_reducible repeat (first | apply Kd.V_alloc | apply Kd.V_drewN | apply Kd.V_drew)); exact HO_1.out⟩, ⟨by (with_reducible repeat (first | refine zF ?_ _ | refine zH ?_ | refine zG ?_ _)); exact Z0.out⟩, ⟨by (with_reducible repeat (first | refine zF ?_ _ | refine zH ?_ | refine zG ?_ _)); exact Z1.out⟩, ⟨by repeat (first | (with_reducible first | exact HB.out | apply zJ | apply zD | apply zE | refine zI ?_ Z2.out | refine zI ?_ Z3.out) | exact HB.out)⟩⟩
          case rest =>
           clear HC35
           try clear c1
           try clear c2
           try clear p2
           try clear c3
           try clear c4
           try clear q4
           try clear c5
           try clear p6
           try clear c9
           try clear c13
           try clear c15
           try clear c17
           try clear c19
           try clear c21
           try clear c23
           try clear c24
           try clear c24b0
           try clear c24b1
           try clear c25
           try clear c26
           try clear c30
           try clear c30b0
           try clear c31
           try clear c33
           try clear c36
           try clear c38
           try clear c38b0
           try clear c38b1
           try clear c39
           try clear c39b0
           try clear c39b1
           try clear c40
           try clear c42
           try clear q42
           try clear hcz10_0
           try clear hcz18_0
           try clear hcz18_1
           try clear hcz18_2
           try clear hcz20_0
           try clear hcz20_1
           try clear hcz20_2
           try clear hcz22_0
           try clear hcz22_1
           try clear hcz22_2
           try clear hcz32_0
           try clear hcz32_1
           try clear hcz32_2
           try clear hcz34_0
           try clear hcz34_1
           try clear hcz34_2
           try clear hcz41_0
           try clear hcz41_1
           try clear hcz41_2
           try clear hfz10_0
           try clear hfz18_0
           try clear hfz18_1
           try clear hfz18_2
           try clear hfz20_0
           try clear hfz20_1
           try clear hfz20_2
           try clear hfz22_0
           try clear hfz22_1
           try clear hfz22_2
           try clear hfz32_0
           try clear hfz32_1
           try clear hfz32_2
           try clear hfz34_0
           try clear hfz34_1
           try clear hfz34_2
           try clear hfz41_0
           try clear hfz41_1
           try clear hfz41_2
           try clear p2
           try clear q042
           try clear q42
           obtain ⟨kq, x1_34, HA, HJ34, HO_1, Z0, Z1, HB⟩ := hcut
           cases kq with
           | zero => exact absurd HA.out (by simp [dist_Penalise.j2])
           | succ kj34 =>
            have H := HA.out
            clear HA
            simp only [dist_Penalise.j2] at H
            by_cases c43 : 0 ≤ (l0.length : Int)
            ·rw [if_pos c43] at H
             have c43b0 := yg c43
             have c43b1 : decide (0 ≤ (l0.length : Int)) = true := yC c43
             clear c43
             by_cases c44 : ((l0.length : Int) : Int).toNat ≤ 35184372088832
             ·rw [if_pos c44] at H
              have c44b0 := yg c44
              have c44b1 : decide (((l0.length : Int) : Int).toNat ≤ 35184372088832) = true := yC c44
              clear c44
              obtain ⟨y542, hy542⟩ : ∃ y_ : List Int, y_ = (List.replicate ((l0.length : Int) : Int).toNat 0) := ⟨_, rfl⟩
              replace H : (dist_Penalise.l0 kj34 y542 x1_34 (x1_34.length : Int) 0 l0 a2_0 a2_1 a2_2) = some (r1, r2) := by first | (rw [hy542]; with_reducible exact H) | (have H2_ := (yV _ _).symm.trans H; rw [hy542]; with_reducible exact H2_) | (have H2_ := (yV _ _).symm.trans H; with_reducible exact H2_) | with_reducible exact H | (rw [hy542]; exact H) | exact H
              have Ny542 := zK hy542
              clear hy542
              have H' := zK H
              clear H
              have hnb45 := Z6.out
              have hnc45 := Z7.out
              have hcz46_0 : wc.cell? ⟨Z8, 0, none⟩ = some (.slice A0 l0.length c0) := (zO Z0.out 0).trans rfl
              have hfz46_0 := yE Z0.out 0
              go_wp2_with (first | ((with_reducible refine gate_dst (N := 66) rfl ?_); refine Kd.R_make (Kd.int .i64) _ 2 rfl (N := 66) rfl 36 _ _ rfl (l0.length : Int) rfl rfl Try.underlying36 (.int .i64 0) 8 info2 rfl (by decide) (by omega) 0 (ok := fun _ => True) (okp := fun _ => True) rfl (fun _ hk => hk) trivial (yB (by first | (with_reducible assumption) | assumption)) (yl (Nat.mul_le_mul_right _ (yB (by first | (with_reducible assumption) | assumption) : (l0.length : Int).toNat ≤ 35184372088832)) (by omega)) (Below.refl _ _) (yN _) ?_; intro v543 w47 ho48 hb hg_ hnew_; clear hg_ hnew_; (first | rw [← Ny542.out] at ho48 | (simp only [Int.reduceToNat] at ho48; rw [← Ny542.out] at ho48)); have n0_ := zK (Kd.V_elder' (by (with_reducible repeat (first | apply Kd.V_alloc | apply Kd.V_drewN | apply Kd.V_drew)); exact HO_1.out) (Kd.R_base ho48) hb); have n1_ := zK (Kd.R_lower (Kd.R_newM (M := fun k_ => (w.heap.size ≤ k_)) ho48 (yK (by repeat (first | (with_reducible first | exact HB.out | apply zJ | apply zD | apply zE | refine zI ?_ Z2.out | refine zI ?_ Z3.out) | exact HB.out))) (fun k_ h_ => h_)) (yK (by repeat (first | (with_reducible first | exact HB.out | apply zJ | apply zD | apply zE | refine zI ?_ Z2.out | refine zI ?_ Z3.out) | exact HB.out)))); have n2_ := zK (zP (g := Z8) (o := .cells #[.slice A0 l0.length c0] 36 (0, 0)) (by (with_reducible repeat (first | refine zF ?_ _ | refine zH ?_ | refine zG ?_ _)); exact Z0.out) hb); have n3_ := zK (zP (g := Z9) (o := .cells #[.int .i64 a2_0, .int .i64 a2_1, .int .i64 a2_2] 53 (0, 0)) (by (with_reducible repeat (first | refine zF ?_ _ | refine zH ?_ | refine zG ?_ _)); exact Z1.out) hb); have n4_ := zK (yL (by repeat (first | (with_reducible first | exact HB.out | apply zJ | apply zD | apply zE | refine zI ?_ Z2.out | refine zI ?_ Z3.out) | exact HB.out)) hb); clear HO_1 Z0 Z1 HB; have HO_1 := n0_; have HO544 := n1_; have Z0 := n2_; have Z1 := n3_; have HB := n4_; clear n0_ n1_ n2_ n3_ n4_ hb ho48; obtain ⟨Ao49, co49, eo49⟩ := Kd.V_slice HO_1.out; subst eo49))
              go_loopg [69] kj34 (fun kq v69 w' => ∃ (x9_4 : List Int) (x69_4 : Int), v69 = .int .i64 x69_4 ∧ Aside0 (dist_Penalise.l0 kq x9_4 x1_34 (x1_34.length : Int) x69_4 l0 a2_0 a2_1 a2_2 = some (r1, r2)) ∧ Aside0 (kq ≤ kj34) ∧ Aside0 (Kd.R (Kd.int .i64) 2 w' w.heap.size (fun k_ => (w.heap.size ≤ k_)) v543 x9_4) ∧ Aside0 (Kd.V (Kd.int .i64) 3 w' w.heap.size (fun k_ => (P1_ k_ ∨ w.heap.size ≤ k_) ∧ some k_ ≠ (v543 : Value).ownBlock ∧ k_ ≠ Z8 ∧ k_ ≠ Z9) (.slice Ao49 x1_34.length co49) x1_34) ∧ Aside0 (w'.heap[Z8]? = some (.cells #[(.slice A0 l0.length c0)] 36 (0, 0))) ∧ Aside0 (w'.heap[Z9]? = some (.cells #[.int .i64 a2_0, .int .i64 a2_1, .int .i64 a2_2] 53 (0, 0))) ∧ Aside0 (Below w.heap.size w w'))
              case atStart => exact ⟨(y542), (0), (by first | rfl | (simp; done) | (simp [*]; done)), H', ⟨yN _⟩, ⟨by (with_reducible repeat (first | apply zL | apply zM | apply zN)); exact yd HO544.out (fun _ hk => hk.1)⟩, ⟨by (with_reducible repeat (first | apply Kd.V_alloc | apply Kd.V_drewN | apply Kd.V_drew)); exact Kd.V_mono HO_1.out (fun _ hk => ⟨hk.1.1, ⟨hk.2, ⟨hk.1.2.1, hk.1.2.2⟩⟩⟩)⟩, ⟨by (with_reducible repeat (first | refine zF ?_ _ | refine zH ?_ | refine zG ?_ _)); exact Z0.out⟩, ⟨by (with_reducible repeat (first | refine zF ?_ _ | refine zH ?_ | refine zG ?_ _)); exact Z1.out⟩, ⟨by repeat (first | (with_reducible first | exact HB.out | apply zJ | apply zD | apply zE | refine zI ?_ Z2.out | refine zI ?_ Z3.out) | exact HB.out)⟩⟩
              case round =>
               clear H'
               try clear c1
               try clear c2
               try clear p2
               try clear c3
               try clear c4
               try clear q4
               try clear c5
               try clear p6
               try clear c9
               try clear c13
               try clear c15
               try clear c17
               try clear c19
               try clear c21
               try clear c23
               try clear c24
               try clear c24b0
               try clear c24b1
               try clear c25
               try clear c26
               try clear c30
               try clear c30b0
               try clear c31
               try clear c33
               try clear c36
               try clear c38
               try clear c38b0
               try clear c38b1
               try clear c39
               try clear c39b0
               try clear c39b1
               try clear c40
               try clear c42
               try clear q42
               try clear c43
               try clear c43b0
               try clear c43b1
               try clear c44
               try clear c44b0
               try clear c44b1
               try clear c45
               try clear hcz10_0
               try clear hcz18_0
               try clear hcz18_1
               try clear hcz18_2
               try clear hcz20_0
               try clear hcz20_1
               try clear hcz20_2
               try clear hcz22_0
               try clear hcz22_1
               try clear hcz22_2
               try clear hcz32_0
               try clear hcz32_1
               try clear hcz32_2
               try clear hcz34_0
               try clear hcz34_1
               try clear hcz34_2
               try clear hcz41_0
               try clear hcz41_1
               try clear hcz41_2
               try clear hcz46_0
               try clear hfz10_0
               try clear hfz18_0
               try clear hfz18_1
               try clear hfz18_2
               try clear hfz20_0
               try clear hfz20_1
               try clear hfz20_2
               try clear hfz22_0
               try clear hfz22_1
               try clear hfz22_2
               try clear hfz32_0
               try clear hfz32_1
               try clear hfz32_2
               try clear hfz34_0
               try clear hfz34_1
               try clear hfz34_2
               try clear hfz41_0
               try clear hfz41_1
               try clear hfz41_2
               try clear hfz46_0
               try clear p2
               try clear p6
               try clear q042
               try clear q4
               try clear q42
               obtain ⟨x9_4, x69_4, rfl, HA, HK4, HO_9, HO_67, Z0, Z1, HB⟩ := hrel
               cases gk with
               | zero => exact absurd HA.out (by simp [dist_Penalise.l0])
               | succ k4 =>
                have H := HA.out
                clear HA
                simp only [dist_Penalise.l0] at H
                by_cases c50 : x69_4 < (x1_34.length : Int)
                ·rw [if_pos c50] at H
                 have c50b0 : decide (x69_4 < (x1_34.length : Int)) = true := yC c50
                 clear c50
                 by_cases c51 : 0 ≤ x69_4
                 ·rw [if_pos c51] at H
                  have c51b0 : decide (0 ≤ x69_4) = true := yC c51
                  clear c51
                  by_cases c52 : x69_4 < (x1_34.length : Int)
                  ·rw [if_pos c52] at H
                   have c52b0 : decide (x69_4 < (x1_34.length : Int)) = true := yC c52
                   clear c52
                   by_cases c53 : 0 ≤ (rd x1_34 x69_4)
                   ·rw [if_pos c53] at H
                    have c53b0 : decide (0 ≤ (rd x1_34 x69_4)) = true := yC c53
                    clear c53
                    by_cases c54 : (rd x1_34 x69_4) < (x9_4.length : Int)
                    ·rw [if_pos c54] at H
                     have c54b0 : decide ((rd x1_34 x69_4) < (x9_4.length : Int)) = true := yC c54
                     clear c54
                     obtain ⟨y547, hy547⟩ : ∃ y_ : List Int, y_ = (x9_4.set ((rd x1_34 x69_4) : Int).toNat (wrap64 ((rd x9_4 (rd x1_34 x69_4)) + 1))) := ⟨_, rfl⟩
                     replace H : (dist_Penalise.l0 k4 y547 x1_34 (x1_34.length : Int) (wrap64 (x69_4 + 1)) l0 a2_0 a2_1 a2_2) = some (r1, r2) := by first | (rw [hy547]; with_reducible exact H) | (have H2_ := (yV _ _).symm.trans H; rw [hy547]; with_reducible exact H2_) | (have H2_ := (yV _ _).symm.trans H; with_reducible exact H2_) | with_reducible exact H | (rw [hy547]; exact H) | exact H
                     have Ny547 := zK hy547
                     clear hy547
                     have H' := zK H
                     clear H
                     have p545 : 0 ≤ (x69_4 : Int) := yB (by first | (with_reducible assumption) | assumption)
                     have q545 : x69_4 < (x1_34.length : Int) := yB (by first | (with_reducible assumption) | assumption)
                     obtain ⟨ad545, e545, hx545_0⟩ := Kd.at_int (Kd.V_reads' HO_67.out).2.2 x69_4 p545 q545
                     cases e545
                     replace p545 := yg p545
                     replace q545 := yg q545
                     obtain ⟨Ao56, co56, eo56⟩ := Kd.R_slice HO_9.out
                     subst eo56
                     have p546 : 0 ≤ ((rd x1_34 x69_4) : Int) := yB (by first | (with_reducible assumption) | assumption)
                     have q546 : (rd x1_34 x69_4) < (x9_4.length : Int) := yB (by first | (with_reducible assumption) | assumption)
                     obtain ⟨ad546, e546, hx546_0⟩ := Kd.at_int (yM HO_9.out).2.2 (rd x1_34 x69_4) p546 q546
                     cases e546
                     replace p546 := yg p546
                     replace q546 := yg q546
                     have p55 : 0 ≤ ((rd x1_34 x69_4) : Int) := yB (by first | (with_reducible assumption) | assumption)
                     have q55 : ((rd x1_34 x69_4) : Int) < ((x9_4.length : Int) : Int) := yB (by first | (with_reducible assumption) | assumption)
                     obtain ⟨go55, co55, eo55, Z10, gl55, cl55, HG55⟩ := Kd.R_form HO_9.out (by omega)
                     (first | cases eo55 | (injection eo55 with ea_ en_ ec_; (first | subst ea_ | (injection ea_ with ea_; subst ea_)); subst ec_; clear en_))
                     have GB55 := zK Z10
                     have GG55 := zK HG55
                     clear Z10 gl55 HG55
                     (first | simp only [add_plain] at hx546_0 | skip)
                     obtain ⟨hx55_0, hf55_0⟩ := Kd.R_celln 0 HO_9.out ((rd x1_34 x69_4) : Int) p55 q55
                     replace p55 := yg p55
                     replace q55 := yg q55
                     have HP57 := Kd.R_putg HO_9.out ((rd x1_34 x69_4) : Int) (wrap64 ((rd x9_4 (rd x1_34 x69_4)) + 1))
                     go_wp2_with (first | ((with_reducible refine gate_store (t := 2) (p := 78) rfl ?_); refine store_event (t := 2) (p := 78) (v := ?vo_w58) (w1 := (wr.setCell ⟨go55, ((rd x1_34 x69_4) : Int).toNat, none⟩ (.int .i64 (wrap64 ((rd x9_4 (rd x1_34 x69_4)) + 1))))) ?hg ?ho ?hn ?hr ?_; (case ho => rfl); (case hg => rfl); (case hn => rfl); (case hr => first | (go_simp; done) | (go_simp; rfl)); intro w58 hw; have hg : wr.grownBy w58 (some go55) := (by rw [hw]; exact HP57.2); have hp_ : Kd.R (Kd.int .i64) 2 w58 w.heap.size (fun k_ => (w.heap.size ≤ k_)) (.slice (some ⟨go55, 0, none⟩) x9_4.length co56) y547 := (by rw [hw, Ny547.out]; exact HP57.1); clear HP57; have n0_ := zK (hp_); have n1_ := zK (Kd.V_afterv (v := (.slice (some ⟨go55, 0, none⟩) x9_4.length co56)) (v1 := (.slice (some ⟨go55, 0, none⟩) x9_4.length co56)) (ok := (fun k_ => (P1_ k_ ∨ w.heap.size ≤ k_) ∧ k_ ≠ Z8 ∧ k_ ≠ Z9)) (by (with_reducible repeat (first | apply Kd.V_alloc | apply Kd.V_drewN | apply Kd.V_drew)); exact Kd.V_mono HO_67.out (fun _ hk => ⟨⟨hk.1, ⟨hk.2.2.1, hk.2.2.2⟩⟩, hk.2.1⟩)) hg (.inl rfl)); have n2_ := zK (blk_grown (g := Z8) (o := .cells #[.slice A0 l0.length c0] 36 (0, 0)) (by (with_reducible repeat (first | refine zF ?_ _ | refine zH ?_ | refine zG ?_ _)); exact Z0.out) hg (Kd.R_ne HO_9.out Z0.out (by decide))); have n3_ := zK (blk_grown (g := Z9) (o := .cells #[.int .i64 a2_0, .int .i64 a2_1, .int .i64 a2_2] 53 (0, 0)) (by (with_reducible repeat (first | refine zF ?_ _ | refine zH ?_ | refine zG ?_ _)); exact Z1.out) hg (Kd.R_ne HO_9.out Z1.out (by decide))); have n4_ := zK ((by rw [hw]; exact zI (HB.out) GB55.out : Below w.heap.size w w58)); clear HO_9 HO_67 Z0 Z1 HB; have HO_9 := n0_; have HO_67 := n1_; have Z0 := n2_; have Z1 := n3_; have HB := n4_; clear n0_ n1_ n2_ n3_ n4_ hg hw hp_))
                     go_roundg k4
                     case measure => have := HJ5.out; have := HJ27.out; have := HJ34.out; have := HK4.out; omega
                     case rel => exact ⟨(y547), (wrap64 (x69_4 + 1)), (by first | rfl | (simp; done) | (simp [*]; done)), H', ⟨by have := HJ5.out; have := HJ27.out; have := HJ34.out; have := HK4.out; omega⟩, ⟨by (with_reducible repeat (first | apply zL | apply zM | apply zN)); exact HO_9.out⟩, ⟨by (with_reducible repeat (first | apply Kd.V_alloc | apply Kd.V_drewN | apply Kd.V_drew)); exact Kd.V_mono HO_67.out (fun _ hk => ⟨hk.1.1, ⟨hk.2, ⟨hk.1.2.1, hk.1.2.2⟩⟩⟩)⟩, ⟨by (with_reducible repeat (first | refine zF ?_ _ | refine zH ?_ | refine zG ?_ _)); exact Z0.out⟩, ⟨by (with_reducible repeat (first | refine zF ?_ _ | refine zH ?_ | refine zG ?_ _)); exact Z1.out⟩, ⟨by repeat (first | (with_reducible first | exact HB.out | apply zJ | apply zD | apply zE | refine zI ?_ Z2.out | refine zI ?_ Z3.out) | exact HB.out)⟩⟩
                    ·rw [if_neg c54] at H
                     exact absurd H (by simp)
                   ·rw [if_neg c53] at H
                    exact absurd H (by simp)
                  ·rw [if_neg c52] at H
                   exact absurd H (by simp)
                 ·rw [if_neg c51] at H
                  exact absurd H (by simp)
                ·rw [if_neg c50] at H
                 have c50b0 : decide (x69_4 < (x1_34.length : Int)) = false := yD c50
                 clear c50
                 replace H := yA.mp H
                 obtain ⟨t548, A590, H⟩ := H
                 replace H : (dist_Penalise.l1 k4 t548 x9_4 (x9_4.length : Int) 0 a2_0 a2_1 a2_2) = some (r1, r2) := H
                 have A59 := zK A590
                 clear A590
                 have H' := zK H
                 clear H
                 have hnb60 := Z6.out
                 have hnc60 := Z7.out
                 have hcz61_0 : wr.cell? ⟨Z8, 0, none⟩ = some (.slice A0 l0.length c0) := (zO Z0.out 0).trans rfl
                 have hfz61_0 := yE Z0.out 0
                 go_wp2_with (first | ((with_reducible refine gate_callee (f := 58) rfl ?_); refine goesL_ (some 81) rfl rfl Try.func58 (by kernel_rfl) rfl #[.slice A0 l0.length c0] rfl (by (try simp only [yH, yI, yJ]); first | done | rfl | (simp only [yG, yF]; rfl)) ?_; (with_reducible refine (slices_Clone_int64_int64.calls _ _ l0 t548 _ ?side1 ?side2 A59.out).mono ?_); (case side1 => repeat (first | exact (yc HR0.out HB.out) | (with_reducible refine yS ?_ _) | (with_reducible refine yT ?_ _) | (with_reducible refine yU ?_))); (case side2 => exact HC0.out); rintro e w62 ⟨v549, rfl, ho0, hb⟩; refine ⟨_, rfl, ?_⟩; have n0_ := zK (Kd.R_elder' (by (with_reducible repeat (first | apply zL | apply zM | apply zN)); exact HO_9.out) (Kd.R_base ho0) hb); have n1_ := zK (Kd.V_elder' (by (with_reducible repeat (first | apply Kd.V_alloc | apply Kd.V_drewN | apply Kd.V_drew)); exact HO_67.out) (Kd.R_base ho0) hb); have n2_ := zK (Kd.R_lower (Kd.R_new' (Kd.R_newM (M := fun k_ => (w.heap.size ≤ k_)) ho0 (yK (by repeat (first | (with_reducible first | exact HB.out | apply zJ | apply zD | apply zE | refine zI ?_ Z2.out | refine zI ?_ Z3.out) | exact HB.out))) (fun k_ h_ => h_)) (Kd.R_lt (by (with_reducible repeat (first | apply zL | apply zM | apply zN)); exact HO_9.out))) (yK (by repeat (first | (with_reducible first | exact HB.out | apply zJ | apply zD | apply zE | refine zI ?_ Z2.out | refine zI ?_ Z3.out) | exact HB.out)))); have n3_ := zK (zP (g := Z8) (o := .cells #[.slice A0 l0.length c0] 36 (0, 0)) (by (with_reducible repeat (first | refine zF ?_ _ | refine zH ?_ | refine zG ?_ _)); exact Z0.out) hb); have n4_ := zK (zP (g := Z9) (o := .cells #[.int .i64 a2_0, .int .i64 a2_1, .int .i64 a2_2] 53 (0, 0)) (by (with_reducible repeat (first | refine zF ?_ _ | refine zH ?_ | refine zG ?_ _)); exact Z1.out) hb); have n5_ := zK (yL (by repeat (first | (with_reducible first | exact HB.out | apply zJ | apply zD | apply zE | refine zI ?_ Z2.out | refine zI ?_ Z3.out) | exact HB.out)) hb); clear HO_9 HO_67 Z0 Z1 HB; have HO_9 := n0_; have HO_67 := n1_; have HO550 := n2_; have Z0 := n3_; have Z1 := n4_; have HB := n5_; clear n0_ n1_ n2_ n3_ n4_ n5_; (try clear hb); (try clear hb2); (try clear hk); (try clear hi); (try clear ho0); obtain ⟨Ao63, co63, eo63⟩ := Kd.R_slice HO_9.out; subst eo63))
                 go_loopg [84] k4 (fun kq v84 w' => ∃ (x12_5 : List Int) (x84_5 : Int), v84 = .int .i64 x84_5 ∧ Aside0 (dist_Penalise.l1 kq x12_5 x9_4 (x9_4.length : Int) x84_5 a2_0 a2_1 a2_2 = some (r1, r2)) ∧ Aside0 (kq ≤ k4) ∧ Aside0 (Kd.R (Kd.int .i64) 2 w' w.heap.size (fun k_ => (w.heap.size ≤ k_) ∧ some k_ ≠ ((.slice Ao63 x9_4.length co63) : Value).ownBlock) v549 x12_5) ∧ Aside0 (Kd.R (Kd.int .i64) 2 w' w.heap.size (fun k_ => (w.heap.size ≤ k_) ∧ some k_ ≠ (v549 : Value).ownBlock) (.slice Ao63 x9_4.length co63) x9_4) ∧ Aside0 (w'.heap[Z8]? = some (.cells #[(.slice A0 l0.length c0)] 36 (0, 0))) ∧ Aside0 (w'.heap[Z9]? = some (.cells #[.int .i64 a2_0, .int .i64 a2_1, .int .i64 a2_2] 53 (0, 0))) ∧ Aside0 (Below w.heap.size w w'))
                 case atStart => exact ⟨(t548), (0), (by first | rfl | (simp; done) | (simp [*]; done)), H', ⟨yN _⟩, ⟨by (with_reducible repeat (first | apply zL | apply zM | apply zN)); exact yd HO550.out (fun _ hk => ⟨hk.1.1, hk.2⟩)⟩, ⟨by (with_reducible repeat (first | apply zL | apply zM | apply zN)); exact HO_9.out⟩, ⟨by (with_reducible repeat (first | refine zF ?_ _ | refine zH ?_ | refine zG ?_ _)); exact Z0.out⟩, ⟨by (with_reducible repeat (first | refine zF ?_ _ | refine zH ?_ | refine zG ?_ _)); exact Z1.out⟩, ⟨by repeat (first | (with_reducible first | exact HB.out | apply zJ | apply zD | apply zE | refine zI ?_ Z2.out | refine zI ?_ Z3.out) | exact HB.out)⟩⟩
                 case round =>
                  clear H'
                  try clear c1
                  try clear c2
                  try clear p2
                  try clear c3
                  try clear c4
                  try clear q4
                  try clear c5
                  try clear p5
                  try clear q5
                  try clear hx5
                  try clear hf5
                  try clear c6
                  try clear p6
                  try clear c9
                  try clear c13
                  try clear c15
                  try clear c17
                  try clear c19
                  try clear c21
                  try clear c23
                  try clear c24
                  try clear c24b0
                  try clear c24b1
                  try clear c25
                  try clear c26
                  try clear c30
                  try clear c30b0
                  try clear c31
                  try clear c33
                  try clear c36
                  try clear c38
                  try clear c38b0
                  try clear c38b1
                  try clear c39
                  try clear c39b0
                  try clear c39b1
                  try clear c40
                  try clear c42
                  try clear q42
                  try clear c43
                  try clear c43b0
                  try clear c43b1
                  try clear c44
                  try clear c44b0
                  try clear c44b1
                  try clear c45
                  try clear c50
                  try clear c50b0
                  try clear c51
                  try clear c51b0
                  try clear c52
                  try clear c52b0
                  try clear c53
                  try clear c53b0
                  try clear c54
                  try clear c54b0
                  try clear p54
                  try clear q54
                  try clear hx54
                  try clear p55
                  try clear q55
                  try clear hx55
                  try clear hf55
                  try clear c58
                  try clear c60
                  try clear hcz10_0
                  try clear hcz18_0
                  try clear hcz18_1
                  try clear hcz18_2
                  try clear hcz20_0
                  try clear hcz20_1
                  try clear hcz20_2
                  try clear hcz22_0
                  try clear hcz22_1
                  try clear hcz22_2
                  try clear hcz32_0
                  try clear hcz32_1
                  try clear hcz32_2
                  try clear hcz34_0
                  try clear hcz34_1
                  try clear hcz34_2
                  try clear hcz41_0
                  try clear hcz41_1
                  try clear hcz41_2
                  try clear hcz46_0
                  try clear hcz61_0
                  try clear hfz10_0
                  try clear hfz18_0
                  try clear hfz18_1
                  try clear hfz18_2
                  try clear hfz20_0
                  try clear hfz20_1
                  try clear hfz20_2
                  try clear hfz22_0
                  try clear hfz22_1
                  try clear hfz22_2
                  try clear hfz32_0
                  try clear hfz32_1
                  try clear hfz32_2
                  try clear hfz34_0
                  try clear hfz34_1
                  try clear hfz34_2
                  try clear hfz41_0
                  try clear hfz41_1
                  try clear hfz41_2
                  try clear hfz46_0
                  try clear hfz61_0
                  try clear hx545_0
                  try clear hx546_0
                  try clear hx55_0
                  try clear p2
                  try clear p545
                  try clear p546
                  try clear p55
                  try clear p6
                  try clear q042
                  try clear q4
                  try clear q42
                  try clear q545
                  try clear q546
                  try clear q55
                  obtain ⟨x12_5, x84_5, rfl, HA, HK5, HO_12, HO_82, Z0, Z1, HB⟩ := hrel
                  cases gk with
                  | zero => exact absurd HA.out (by simp [dist_Penalise.l1])
                  | succ k5 =>
                   have H := HA.out
                   clear HA
                   simp only [dist_Penalise.l1] at H
                   by_cases c64 : x84_5 < (x9_4.length : Int)
                   ·rw [if_pos c64] at H
                    have c64b0 : decide (x84_5 < (x9_4.length : Int)) = true := yC c64
                    clear c64
                    by_cases c65 : 0 ≤ x84_5
                    ·rw [if_pos c65] at H
                     have c65b0 : decide (0 ≤ x84_5) = true := yC c65
                     clear c65
                     by_cases c66 : x84_5 < (x9_4.length : Int)
                     ·rw [if_pos c66] at H
                      have c66b0 : decide (x84_5 < (x9_4.length : Int)) = true := yC c66
                      clear c66
                      by_cases c67 : (rd x9_4 x84_5) > 0
                      ·rw [if_pos c67] at H
                       have c67b0 : decide (0 < (rd x9_4 x84_5)) = true := yC c67
                       clear c67
                       by_cases c68 : x84_5 < (x12_5.length : Int)
                       ·rw [if_pos c68] at H
                        have c68b0 : decide (x84_5 < (x12_5.length : Int)) = true := yC c68
                        clear c68
                        replace H := yA.mp H
                        obtain ⟨t553, A690, H⟩ := H
                        replace H : (dist_Penalise.l1 k5 (x12_5.set (x84_5 : Int).toNat t553) x9_4 (x9_4.length : Int) (wrap64 (x84_5 + 1)) a2_0 a2_1 a2_2) = some (r1, r2) := H
                        have A69 := zK A690
                        clear A690
                        obtain ⟨y554, hy554⟩ : ∃ y_ : List Int, y_ = (x12_5.set (x84_5 : Int).toNat t553) := ⟨_, rfl⟩
                        replace H : (dist_Penalise.l1 k5 y554 x9_4 (x9_4.length : Int) (wrap64 (x84_5 + 1)) a2_0 a2_1 a2_2) = some (r1, r2) := by first | (rw [hy554]; with_reducible exact H) | (have H2_ := (yV _ _).symm.trans H; rw [hy554]; with_reducible exact H2_) | (have H2_ := (yV _ _).symm.trans H; with_reducible exact H2_) | with_reducible exact H | (rw [hy554]; exact H) | exact H
                        have Ny554 := zK hy554
                        clear hy554
                        have H' := zK H
                        clear H
                        have p551 : 0 ≤ (x84_5 : Int) := yB (by first | (with_reducible assumption) | assumption)
                        have q551 : x84_5 < (x9_4.length : Int) := yB (by first | (with_reducible assumption) | assumption)
                        obtain ⟨ad551, e551, hx551_0⟩ := Kd.at_int (yM HO_82.out).2.2 x84_5 p551 q551
                        cases e551
                        replace p551 := yg p551
                        replace q551 := yg q551
                        try go_wp2
                        have n0_ := zK (zN HO_12.out)
                        have n1_ := zK (zN HO_82.out)
                        have n2_ := zK (zH Z0.out)
                        have n3_ := zK (zH Z1.out)
                        have n4_ := zK (zE HB.out)
                        clear HO_12 HO_82 Z0 Z1 HB
                        have HO_12 := n0_; have HO_82 := n1_; have Z0 := n2_; have Z1 := n3_; have HB := n4_
                        clear n0_ n1_ n2_ n3_ n4_
                        obtain ⟨Ao72, co72, eo72⟩ := Kd.R_slice HO_12.out
                        (first | subst eo72 | (injection eo72 with f1_ f2_ f3_; have f4_ := f1_.symm; have f5_ := f3_.symm; clear f1_ f2_ f3_; subst f4_; subst f5_))
                        have p552 : 0 ≤ (x84_5 : Int) := yB (by first | (with_reducible assumption) | assumption)
                        have q552 : x84_5 < (x12_5.length : Int) := yB (by first | (with_reducible assumption) | assumption)
                        obtain ⟨ad552, e552, hx552_0⟩ := Kd.at_int (yM HO_12.out).2.2 x84_5 p552 q552
                        cases e552
                        replace p552 := yg p552
                        replace q552 := yg q552
                        refine start_ (n := 17) (S := fun w' => w'.cell? ⟨Z9, 0, none⟩ = some (.int .i64 a2_0) ∧ w'.cell? ⟨Z9, 1, none⟩ = some (.int .i64 a2_1) ∧ w'.cell? ⟨Z9, 2, none⟩ = some (.int .i64 a2_2) ∧ w'.cell? (ad552.add (x84_5).toNat) = some (.int .i64 (rd x12_5 x84_5))) (ds := [16]) #[false, false, false, false, false, false, false, false, false, false, false, false, false, false, false, false, false] (by kernel_rfl) rfl rfl ⟨(zO Z1.out 0).trans rfl, (zO Z1.out 1).trans rfl, (zO Z1.out 2).trans rfl, hx552_0⟩ (fun hHeld => ?_); refine with_tabW dist_Penalise.tab21 dist_Penalise.bits21 (fun HT_ HW_ => ?_)
                        generalize wr.drew = w71 at HO_12 HO_82 Z0 Z1 HB hx552_0 hHeld ⊢
                        refine pure_ (i := 0) (N := some 91) (v := ?_) (a' := ?_) #[true, false, false, false, false, false, false, false, false, false, false, false, false, false, false, false, false] rfl rfl (any_of HT_.out (by kernel_rfl)) (fun _ _ _ h => h) (Or.inl ⟨by rfl, ?_⟩) ?_ ?_
                        rotate_left
                        ·intro w'
                         go_simp
                         with_reducible rfl
                        rotate_left
                        ·simp only [Act.put, zA, zB, zC, i64_w, i32_w]
                         rfl
                        refine pure_ (i := 1) (N := some 92) (v := ?_) (a' := ?_) #[true, true, false, false, false, false, false, false, false, false, false, false, false, false, false, false, false] rfl rfl (any_of HT_.out (by kernel_rfl)) (fun _ _ _ h => h) (Or.inl ⟨by rfl, ?_⟩) ?_ ?_
                        rotate_left
                        ·intro w'
                         go_simp
                         with_reducible rfl
                        rotate_left
                        ·simp only [Act.put, zA, zB, zC, i64_w, i32_w]
                         rfl
                        refine pure_ (i := 2) (N := some 93) (v := ?_) (a' := ?_) #[true, true, true, false, false, false, false, false, false, false, false, false, false, false, false, false, false] rfl rfl (any_of HT_.out (by kernel_rfl)) (fun _ _ _ h => h) (Or.inl ⟨by rfl, ?_⟩) ?_ ?_
                        rotate_left
                        ·intro w'
                         go_simp
                         with_reducible rfl
                        rotate_left
                        ·simp only [Act.put, zA, zB, zC, i64_w, i32_w]
                         rfl
                        refine pure_ (i := 3) (N := some 94) (v := ?_) (a' := ?_) #[true, true, true, true, false, false, false, false, false, false, false, false, false, false, false, false, false] rfl rfl (any_of HT_.out (by kernel_rfl)) (fun _ _ _ h => h) (Or.inl ⟨by rfl, ?_⟩) ?_ ?_
                        rotate_left
                        ·intro w'
                         go_simp
                         with_reducible rfl
                        rotate_left
                        ·simp only [Act.put, zA, zB, zC, i64_w, i32_w]
                         rfl
                        refine pure_ (i := 4) (N := some 95) (v := ?_) (a' := ?_) #[true, true, true, true, true, false, false, false, false, false, false, false, false, false, false, false, false] rfl rfl (any_of HT_.out (by kernel_rfl)) (fun _ _ _ h => h) (Or.inl ⟨by rfl, ?_⟩) ?_ ?_
                        rotate_left
                        ·intro w'
                         go_simp
                         with_reducible rfl
                        rotate_left
                        ·simp only [Act.put, zA, zB, zC, i64_w, i32_w]
                         rfl
                        refine pure_ (i := 6) (N := some 97) (v := ?_) (a' := ?_) #[true, true, true, true, true, false, true, false, false, false, false, false, false, false, false, false, false] rfl rfl (any_of HT_.out (by kernel_rfl)) (fun _ _ _ h => h) (Or.inl ⟨by rfl, ?_⟩) ?_ ?_
                        rotate_left
                        ·intro w'
                         go_simp
                         with_reducible rfl
                        rotate_left
                        ·simp only [Act.put, zA, zB, zC, i64_w, i32_w]
                         rfl
                        refine pure_ (i := 9) (N := some 100) (v := ?_) (a' := ?_) #[true, true, true, true, true, false, true, false, false, true, false, false, false, false, false, false, false] rfl rfl (any_of HT_.out (by kernel_rfl)) (fun _ _ _ h => h) (Or.inl ⟨by rfl, ?_⟩) ?_ ?_
                        rotate_left
                        ·intro w'
                         go_simp
                         with_reducible rfl
                        rotate_left
                        ·simp only [Act.put, zA, zB, zC, i64_w, i32_w]
                         rfl
                        refine pure_ (i := 10) (N := some 101) (v := ?_) (a' := ?_) #[true, true, true, true, true, false, true, false, false, true, true, false, false, false, false, false, false] rfl rfl (any_of HT_.out (by kernel_rfl)) (fun _ _ _ h => h) (Or.inl ⟨by rfl, ?_⟩) ?_ ?_
                        rotate_left
                        ·intro w'
                         go_simp
                         with_reducible rfl
                        rotate_left
                        ·simp only [Act.put, zA, zB, zC, i64_w, i32_w]
                         rfl
                        refine take_ (i := 5) (N := some 96) (v := ?_) (a' := ?_) #[true, true, true, true, true, true, true, false, false, true, true, false, false, false, false, false, false] rfl rfl (take_ofW HT_.out HW_.out (by kernel_rfl)) (fun _ _ _ h => h) (Or.inl ⟨by rfl, ?_⟩) hHeld ?_ ?_
                        rotate_left
                        ·rintro w' ⟨s0, s1, s2, s3⟩
                         go_simp
                         with_reducible rfl
                        rotate_left
                        ·simp only [Act.put, zA, zB, zC, i64_w, i32_w]
                         rfl
                        refine take_ (i := 7) (N := some 98) (v := ?_) (a' := ?_) #[true, true, true, true, true, true, true, true, false, true, true, false, false, false, false, false, false] rfl rfl (take_ofW HT_.out HW_.out (by kernel_rfl)) (fun _ _ _ h => h) (Or.inl ⟨by rfl, ?_⟩) hHeld ?_ ?_
                        rotate_left
                        ·rintro w' ⟨s0, s1, s2, s3⟩
                         go_simp
                         with_reducible rfl
                        rotate_left
                        ·simp only [Act.put, zA, zB, zC, i64_w, i32_w]
                         rfl
                        refine pure_ (i := 8) (N := some 99) (v := ?_) (a' := ?_) #[true, true, true, true, true, true, true, true, true, true, true, false, false, false, false, false, false] rfl rfl (any_of HT_.out (by kernel_rfl)) (fun _ _ _ h => h) (Or.inl ⟨by rfl, ?_⟩) ?_ ?_
                        rotate_left
                        ·intro w'
                         go_simp
                         with_reducible rfl
                        rotate_left
                        ·simp only [Act.put, zA, zB, zC, i64_w, i32_w]
                         rfl
                        refine take_ (i := 11) (N := some 102) (v := ?_) (a' := ?_) #[true, true, true, true, true, true, true, true, true, true, true, true, false, false, false, false, false] rfl rfl (take_ofW HT_.out HW_.out (by kernel_rfl)) (fun _ _ _ h => h) (Or.inl ⟨by rfl, ?_⟩) hHeld ?_ ?_
                        rotate_left
                        ·rintro w' ⟨s0, s1, s2, s3⟩
                         go_simp
                         with_reducible rfl
                        rotate_left
                        ·simp only [Act.put, zA, zB, zC, i64_w, i32_w]
                         rfl
                        refine pure_ (i := 12) (N := some 103) (v := ?_) (a' := ?_) #[true, true, true, true, true, true, true, true, true, true, true, true, true, false, false, false, false] rfl rfl (any_of HT_.out (by kernel_rfl)) (fun _ _ _ h => h) (Or.inl ⟨by rfl, ?_⟩) ?_ ?_
                        rotate_left
                        ·intro w'
                         go_simp
                         with_reducible rfl
                        rotate_left
                        ·simp only [Act.put, zA, zB, zC, i64_w, i32_w]
                         rfl
                        refine pure_ (i := 13) (N := some 104) (v := ?_) (a' := ?_) #[true, true, true, true, true, true, true, true, true, true, true, true, true, true, false, false, false] rfl rfl (any_of HT_.out (by kernel_rfl)) (fun _ _ _ h => h) (Or.inl ⟨by rfl, ?_⟩) ?_ ?_
                        rotate_left
                        ·intro w'
                         go_simp
                         with_reducible rfl
                        rotate_left
                        ·simp only [Act.put, zA, zB, zC, i64_w, i32_w]
                         rfl
                        refine one_ (i := 14) (N := some 105) #[true, true, true, true, true, true, true, true, true, true, true, true, true, true, true, false, false] rfl rfl (one_of HT_.out (by kernel_rfl)) (by decide) (fun K hK => ?_)
                        refine goes_ Try.func59 (by kernel_rfl) rfl #[.int .i64 (wrap64 ((wrap64 ((rd x12_5 x84_5) - a2_1)) - (wrap64 ((rd x9_4 x84_5) * a2_2)))), .int .i64 (-1073741824), .int .i64 1073741824] (by rfl) rfl rfl (by (try simp only [yH, yI, yJ]); first | done | rfl | (simp only [yG, yF]; rfl)) ?_
                        with_reducible refine (fixed_Clamp.calls (wrap64 ((wrap64 ((rd x12_5 x84_5) - a2_1)) - (wrap64 ((rd x9_4 x84_5) * a2_2)))) (-1073741824) 1073741824 t553 _ A69.out).mono ?_
                        rintro e w' ⟨rfl, ⟨nd, rfl⟩⟩
                        refine ⟨_, rfl, ?_⟩
                        have p70 : 0 ≤ (x84_5 : Int) := yB (by first | (with_reducible assumption) | assumption)
                        have q70 : (x84_5 : Int) < ((x12_5.length : Int) : Int) := yB (by first | (with_reducible assumption) | assumption)
                        obtain ⟨go70, co70, eo70, Z11, gl70, cl70, HG70⟩ := Kd.R_form HO_12.out (by omega)
                        (first | cases eo70 | (injection eo70 with ea_ en_ ec_; (first | subst ea_ | (injection ea_ with ea_; subst ea_)); subst ec_; clear en_))
                        have GB70 := zK Z11
                        have GG70 := zK HG70
                        clear Z11 gl70 HG70
                        (first | simp only [add_plain] at hx552_0 | skip)
                        obtain ⟨hx70_0, hf70_0⟩ := Kd.R_celln 0 HO_12.out (x84_5 : Int) p70 q70
                        replace p70 := yg p70
                        replace q70 := yg q70
                        have HP73 := Kd.R_putn HO_12.out (x84_5 : Int) t553
                        rw [← Ny554.out] at HP73
                        have HQ73 := zK HP73
                        clear HP73
                        refine hK.out _ _ ⟨(zO Z1.out 0).trans rfl, (zO Z1.out 1).trans rfl, (zO Z1.out 2).trans rfl, hHeld.2.2.2⟩ (fun hHeld => ?_)
                        clear hK K
                        refine norm_ (a' := ?_) ?_ ?_
                        rotate_left
                        ·show Act.put _ (some 105) _ = _
                         simp only [Act.put, zA, zB, zC, i64_w, i32_w]
                         rfl
                        refine pure_ (i := 15) (N := some 106) (v := ?_) (a' := ?_) #[true, true, true, true, true, true, true, true, true, true, true, true, true, true, true, true, false] rfl rfl (any_of HT_.out (by kernel_rfl)) (fun _ _ _ h => h) (Or.inl ⟨by rfl, ?_⟩) ?_ ?_
                        rotate_left
                        ·intro w'
                         go_simp
                         with_reducible rfl
                        rotate_left
                        ·simp only [Act.put, zA, zB, zC, i64_w, i32_w]
                         rfl
                        refine last_ (i := 16) (N := none) #[true, true, true, true, true, true, true, true, true, true, true, true, true, true, true, true, true] rfl rfl (one_of HT_.out (by kernel_rfl)) (by decide) (fun K hK => ?_)
                        refine skip_ (w1 := ?_) (by rfl) rfl ?_ ?_
                        rotate_left
                        ·go_simp
                         rfl
                        refine hK.out _ _ ?_
                        clear hK K
                        refine done_ (done_of HT_.out (by kernel_rfl)) ?_
                        try go_wp2
                        go_roundg k5
                        case measure => have := HJ5.out; have := HJ27.out; have := HJ34.out; have := HK4.out; have := HK5.out; omega
                        case rel => exact ⟨(y554), (wrap64 (x84_5 + 1)), (by first | rfl | (simp; done) | (simp [*]; done)), H', ⟨by have := HJ5.out; have := HJ27.out; have := HJ34.out; have := HK4.out; have := HK5.out; omega⟩, ⟨by (with_reducible repeat (first | apply zL | apply zM | apply zN)); exact HQ73.out⟩, ⟨by (with_reducible repeat (first | apply zL | apply zM | apply zN)); exact yd (Kd.R_far (p := ⟨go70, (x84_5 : Int).toNat, none⟩) (yd HO_82.out (fun k_ hk => (⟨hk, fun e_ => hk.2 (by rw [e_]; rfl)⟩ : _ ∧ k_ ≠ go70))) (fun _ hk => hk.2) (.int .i64 t553)) (fun _ hk => ⟨hk.1.1, hk.1.2⟩)⟩, ⟨by (with_reducible repeat (first | refine zF ?_ _ | refine zH ?_ | refine zG ?_ _)); refine blk_far ?_ (by have h_ := Kd.R_ne HO_12.out Z0.out (by decide); intro e_; exact h_ (by rw [e_]; rfl)) _; (with_reducible repeat (first | refine zF ?_ _ | refine zH ?_ | refine zG ?_ _)); exact Z0.out⟩, ⟨by (with_reducible repeat (first | refine zF ?_ _ | refine zH ?_ | refine zG ?_ _)); refine blk_far ?_ (by have h_ := Kd.R_ne HO_12.out Z1.out (by decide); intro e_; exact h_ (by rw [e_]; rfl)) _; (with_reducible repeat (first | refine zF ?_ _ | refine zH ?_ | refine zG ?_ _)); exact Z1.out⟩, ⟨by repeat (first | (with_reducible first | exact HB.out | apply zJ | apply zD | apply zE | refine zI ?_ GB70.out | refine zI ?_ Z2.out | refine zI ?_ Z3.out) | exact HB.out)⟩⟩
                       ·rw [if_neg c68] at H
                        exact absurd H (by simp)
                      ·rw [if_neg c67] at H
                       have c67b0 : decide (0 < (rd x9_4 x84_5)) = false := yD c67
                       clear c67
                       have H' := zK H
                       clear H
                       have p551 : 0 ≤ (x84_5 : Int) := yB (by first | (with_reducible assumption) | assumption)
                       have q551 : x84_5 < (x9_4.length : Int) := yB (by first | (with_reducible assumption) | assumption)
                       obtain ⟨ad551, e551, hx551_0⟩ := Kd.at_int (yM HO_82.out).2.2 x84_5 p551 q551
                       cases e551
                       replace p551 := yg p551
                       replace q551 := yg q551
                       go_wp2
                       go_roundg k5
                       case measure => have := HJ5.out; have := HJ27.out; have := HJ34.out; have := HK4.out; have := HK5.out; omega
                       case rel => exact ⟨(x12_5), (wrap64 (x84_5 + 1)), (by first | rfl | (simp; done) | (simp [*]; done)), H', ⟨by have := HJ5.out; have := HJ27.out; have := HJ34.out; have := HK4.out; have := HK5.out; omega⟩, ⟨by (with_reducible repeat (first | apply zL | apply zM | apply zN)); exact HO_12.out⟩, ⟨by (with_reducible repeat (first | apply zL | apply zM | apply zN)); exact HO_82.out⟩, ⟨by (with_reducible repeat (first | refine zF ?_ _ | refine zH ?_ | refine zG ?_ _)); exact Z0.out⟩, ⟨by (with_reducible repeat (first | refine zF ?_ _ | refine zH ?_ | refine zG ?_ _)); exact Z1.out⟩, ⟨by repeat (first | (with_reducible first | exact HB.out | apply zJ | apply zD | apply zE | refine zI ?_ Z2.out | refine zI ?_ Z3.out) | exact HB.out)⟩⟩
                     ·rw [if_neg c66] at H
                      exact absurd H (by simp)
                    ·rw [if_neg c65] at H
                     exact absurd H (by simp)
                   ·rw [if_neg c64] at H
                    have c64b0 : decide (x84_5 < (x9_4.length : Int)) = false := yD c64
                    clear c64
                    simp only [yZ, ya] at H
                    obtain ⟨rfl, rfl⟩ := H
                    go_wp2
                    go_ret2
                    exact ⟨_, by first | rfl | (simp [errW_none, errW_some] <;> rfl) | (simp [*, errW_none, errW_some] <;> rfl), by (with_reducible repeat (first | apply zL | apply zM | apply zN)); exact yd HO_12.out (fun _ hk => hk.1), by repeat (first | (with_reducible first | exact HB.out | apply zJ | apply zD | apply zE | refine zI ?_ Z2.out | refine zI ?_ Z3.out) | exact HB.out)⟩
             ·rw [if_neg c44] at H
              exact absurd H (by simp)
            ·rw [if_neg c43] at H
             exact absurd H (by simp)
  ·replace c5 := yh.mpr c5
   subst c5
   have H1 : (some (([] : List Int), 221)) = some (r1, r2) := by rw [if_neg (show ¬ (false = true) by decide)] at H; exact H
   clear H
   have H := H1
   clear H1
   simp only [yZ, ya] at H
   obtain ⟨rfl, rfl⟩ := H
   go_enter Try.func25, Try.ntmps25
   go_wp2_with (first | ((with_reducible refine gate_dst (N := 3) rfl ?_); refine box_event ?hg (N := 3) ?hd (cs := #[.slice A0 l0.length c0]) (t := 36) ?hr ?_; (case hd => rfl); (case hg => rfl); (case hr => first | (go_simp; done) | (go_simp; rfl)); intro Z8 hg w74 hbox hb; have n0_ := zK (Kd.V_below (Kd.V_elderB (by (with_reducible repeat (first | apply Kd.V_alloc | apply Kd.V_drewN | apply Kd.V_drew)); exact HO1.out) Z8 (Nat.le_of_eq hg.symm)) hb); have n1_ := zK (yL (by repeat (first | (with_reducible first | exact HB.out | apply zJ | apply zD | apply zE) | exact HB.out)) hb); have n2_ := zK (hbox); have n3_ := zK ((by rw [hg]; exact (yK (by repeat (first | (with_reducible first | exact HB.out | apply zJ | apply zD | apply zE) | exact HB.out))) : w.heap.size ≤ Z8)); have n4_ := zK ((by rw [hg]; exact (yK (by repeat (first | (with_reducible first | exact HB.out | apply zJ | apply zD | apply zE) | exact HB.out))) : w.heap.size ≤ Z8)); clear HO1 HB; have HO1 := n0_; have HB := n1_; have Z0 := n2_; have Z4 := n3_; have Z2 := n4_; clear n0_ n1_ n2_ n3_ n4_ hb hbox hg) | ((with_reducible refine gate_dst (N := 5) rfl ?_); refine box_event ?hg (N := 5) ?hd (cs := #[.int .i64 a2_0, .int .i64 a2_1, .int .i64 a2_2]) (t := 53) ?hr ?_; (case hd => rfl); (case hg => rfl); (case hr => first | (go_simp; done) | (go_simp; rfl)); intro Z9 hg w75 hbox hb; have n0_ := zK (Kd.V_below (Kd.V_elderB (by (with_reducible repeat (first | apply Kd.V_alloc | apply Kd.V_drewN | apply Kd.V_drew)); exact HO1.out) Z9 (Nat.le_of_eq hg.symm)) hb); have n1_ := zK (zP (g := Z8) (o := .cells #[.slice A0 l0.length c0] 36 (0, 0)) (by (with_reducible repeat (first | refine zF ?_ _ | refine zH ?_ | refine zG ?_ _)); exact Z0.out) hb); have n2_ := zK (yL (by repeat (first | (with_reducible first | exact HB.out | apply zJ | apply zD | apply zE | refine zI ?_ Z2.out) | exact HB.out)) hb); have n3_ := zK (hbox); have n4_ := zK ((by rw [hg]; exact (yK (by repeat (first | (with_reducible first | exact HB.out | apply zJ | apply zD | apply zE | refine zI ?_ Z2.out) | exact HB.out))) : w.heap.size ≤ Z9)); have n5_ := zK ((by rw [hg]; exact (yK (by repeat (first | (with_reducible first | exact HB.out | apply zJ | apply zD | apply zE | refine zI ?_ Z2.out) | exact HB.out))) : w.heap.size ≤ Z9)); have n6_ := zK ((by rw [hg]; exact ym (yo (g := Z8) (o := .cells #[.slice A0 l0.length c0] 36 (0, 0)) (by (with_reducible repeat (first | refine zF ?_ _ | refine zH ?_ | refine zG ?_ _)); exact Z0.out)) : Z8 ≠ Z9)); have n7_ := zK ((by rw [hg]; exact yn (yo (g := Z8) (o := .cells #[.slice A0 l0.length c0] 36 (0, 0)) (by (with_reducible repeat (first | refine zF ?_ _ | refine zH ?_ | refine zG ?_ _)); exact Z0.out)) : Z9 ≠ Z8)); clear HO1 Z0 HB; have HO1 := n0_; have Z0 := n1_; have HB := n2_; have Z1 := n3_; have Z5 := n4_; have Z3 := n5_; have Z6 := n6_; have Z7 := n7_; clear n0_ n1_ n2_ n3_ n4_ n5_ n6_ n7_ hb hbox hg; have hnb76 := Z6.out; have hnc76 := Z7.out; have hcz77_0 : w75.cell? ⟨Z8, 0, none⟩ = some (.slice A0 l0.length c0) := (zO Z0.out 0).trans rfl; have hfz77_0 := yE Z0.out 0) | ((with_reducible refine gate_callee (f := 55) rfl ?_); refine goesL_ (some 17) rfl rfl Try.func55 (by kernel_rfl) rfl #[.slice A0 l0.length c0] rfl (by (try simp only [yH, yI, yJ]); first | done | rfl | (simp only [yG, yF]; rfl)) ?_; (with_reducible refine (dist_scored.calls _ _ l0 false _ ?side1 ?side2 A4.out).mono ?_); (case side1 => repeat (first | exact (yc HR0.out HB.out) | (with_reducible refine yS ?_ _) | (with_reducible refine yT ?_ _) | (with_reducible refine yU ?_))); (case side2 => exact HC0.out); rintro e w78 ⟨rfl, hb⟩; refine ⟨_, rfl, ?_⟩; have n0_ := zK (Kd.V_below (by (with_reducible repeat (first | apply Kd.V_alloc | apply Kd.V_drewN | apply Kd.V_drew)); exact HO1.out) hb); have n1_ := zK (zP (g := Z8) (o := .cells #[.slice A0 l0.length c0] 36 (0, 0)) (by (with_reducible repeat (first | refine zF ?_ _ | refine zH ?_ | refine zG ?_ _)); exact Z0.out) hb); have n2_ := zK (zP (g := Z9) (o := .cells #[.int .i64 a2_0, .int .i64 a2_1, .int .i64 a2_2] 53 (0, 0)) (by (with_reducible repeat (first | refine zF ?_ _ | refine zH ?_ | refine zG ?_ _)); exact Z1.out) hb); have n3_ := zK (yL (by repeat (first | (with_reducible first | exact HB.out | apply zJ | apply zD | apply zE | refine zI ?_ Z2.out | refine zI ?_ Z3.out) | exact HB.out)) hb); clear HO1 Z0 Z1 HB; have HO1 := n0_; have Z0 := n1_; have Z1 := n2_; have HB := n3_; clear n0_ n1_ n2_ n3_; (try clear hb); (try clear hb2); (try clear hk); (try clear hi)))
   go_ret2
   exact ⟨_, by first | rfl | (simp [errW_none, errW_some] <;> rfl) | (simp [*, errW_none, errW_some] <;> rfl), by first | exact Kd.R_nil _ _ _ _ _ | exact Kd.N_nil _ _ _ _ _ | exact Kd.V_nil _ _ _ _ _ | exact Kd.Q_nil _ _ _ _ _ | exact Kd.S_nil _ _ _ _ _, by repeat (first | (with_reducible first | exact HB.out | apply zJ | apply zD | apply zE | refine zI ?_ Z2.out | refine zI ?_ Z3.out) | exact HB.out)⟩

end Go.Proofs.Ythmckhfjaleomaa.T
