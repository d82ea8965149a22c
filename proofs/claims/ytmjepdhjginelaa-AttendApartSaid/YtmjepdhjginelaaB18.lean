-- Printed by this session's own driver (wip/tools/xprint.py) over the kit's printer; given functions are this session's own.
import Derived.Test.YtmjepdhjginelaaB0
import Derived.Test.YtmjepdhjginelaaB6
import Derived.Test.YtmjepdhjginelaaB7
import Derived.Test.YtmjepdhjginelaaB11
import Derived.Test.YtmjepdhjginelaaB13
import Derived.Test.YtmjepdhjginelaaB14
namespace Go.Proofs.Ytmjepdhjginelaa.B
open Go.RowKit Go.Proofs.YtmjepdhjginelaaW.PrintWords Go.Proofs.YtmjepdhjginelaaW.PrintLast Go.Proofs.YtmjepdhjginelaaW.PrintMore
attribute [local go_sem] max2_int min2_int max_two min_two max_three min_three max_four min_four   -- for this text's walks alone
set_option linter.unusedVariables false
set_option linter.unusedSimpArgs false

/-! ### w19_AttendApart: function 8 -/
mutual
def w19_AttendApart.j0 : Nat → List Int → Int → List Int → Int → Bool → Int → Int → List (S49) → Option (Bool)
 | 0, _, _, _, _, _, _, _, _ => none
 | k + 1, x0, x2, x7, x8, x47, Y0, Y1, Y2 => if x47 = true then (some false) else (if x8 = 0 then (if x2 < 0 then (w19_AttendApart.j1 k x0 x2 x7 true Y0 Y1 Y2) else (w19_AttendApart.j1 k x0 x2 x7 (decide (x2 ≥ Y0)) Y0 Y1 Y2)) else (w19_AttendApart.j1 k x0 x2 x7 true Y0 Y1 Y2))
def w19_AttendApart.j1 : Nat → List Int → Int → List Int → Bool → Int → Int → List (S49) → Option (Bool)
 | 0, _, _, _, _, _, _, _ => none
 | k + 1, x0, x2, x7, x59, Y0, Y1, Y2 => if x59 = true then (some true) else (if Y0 = 0 then (none) else (w19_AttendApart.l0 k x0 x7 (wrap64 (x2 * (wrap64 ((x0.length : Int) / Y0)))) (wrap64 ((wrap64 (x2 + 1)) * (wrap64 ((x0.length : Int) / Y0)))) (([] : List (S49))) 0 Y0 Y1 Y2))
def w19_AttendApart.l0 : Nat → List Int → List Int → Int → Int → List (S49) → Int → Int → Int → List (S49) → Option (Bool)
 | 0, _, _, _, _, _, _, _, _, _ => none
 | k + 1, x0, x7, x12, x13, x14, x15, Y0, Y1, Y2 => if x15 < (Y2.length : Int) then ((some (([] : List Int) : List Int)).bind fun y538 => (if 0 ≤ x15 then (if 0 ≤ x12 then (if x12 ≤ x13 then (if x13 ≤ (((rd_T49 Y2 x15).f0).length : Int) then (if y538.length + ((((rd_T49 Y2 x15).f0).take (x13 : Int).toNat).drop (x12 : Int).toNat).length < 140737488355328 then ((some (([] : List Int) : List Int)).bind fun y546 => (if x13 ≤ (((rd_T49 Y2 x15).f1).length : Int) then (if y546.length + ((((rd_T49 Y2 x15).f1).take (x13 : Int).toNat).drop (x12 : Int).toNat).length < 140737488355328 then (if x14.length < 2932031007402 then (w19_AttendApart.l0 k x0 x7 x12 x13 (x14 ++ [(⟨(y538 ++ ((((rd_T49 Y2 x15).f0).take (x13 : Int).toNat).drop (x12 : Int).toNat)), (y546 ++ ((((rd_T49 Y2 x15).f1).take (x13 : Int).toNat).drop (x12 : Int).toNat))⟩ : S49)]) (wrap64 (x15 + 1)) Y0 Y1 Y2) else (none)) else (none)) else (none))) else (none)) else (none)) else (none)) else (none)) else (none))) else ((some (([] : List Int) : List Int)).bind fun y557 => (if 0 ≤ x12 then (if x12 ≤ x13 then (if x13 ≤ (x0.length : Int) then (if y557.length + ((x0.take (x13 : Int).toNat).drop (x12 : Int).toNat).length < 140737488355328 then ((attend_Look.f k (y557 ++ ((x0.take (x13 : Int).toNat).drop (x12 : Int).toNat)) 1 x14 Y1).bind fun bt564 => (if bt564.2 = 0 then (if (x7.length : Int) = (x0.length : Int) then (if x13 ≤ (x7.length : Int) then ((w19_rows.f k ((x7.take (x13 : Int).toNat).drop (x12 : Int).toNat) bt564.1).bind fun t572 => (some t572)) else (none)) else (some false)) else (some false))) else (none)) else (none)) else (none)) else (none)))
end
def w19_AttendApart.f (k : Nat) (l0 : List Int) (a1_0 : Int) (a1_1 : Int) (l1_2 : List (S49)) (a2 : Int) : Option (Bool) := (attend_Look.f k l0 a1_0 l1_2 a1_1).bind fun bt523 => ((w19_pairs.f k l1_2).bind fun t527 => ((r19_Look.f k l0 a1_0 t527 a1_1).bind fun bt530 => ((w19_awake.f k).bind fun t534 => (if t534 = true then (w19_AttendApart.j0 k l0 a2 bt523.1 bt523.2 (bt523.2 != bt530.2) a1_0 a1_1 l1_2) else (w19_AttendApart.j0 k l0 a2 bt523.1 bt523.2 true a1_0 a1_1 l1_2)))))
theorem w19_AttendApart.mono_l : ∀ k, (∀ y0 y1 y2 y3 y4 y5 y6 y7, LeO (w19_AttendApart.j0 k y0 y1 y2 y3 y4 y5 y6 y7) (w19_AttendApart.j0 (k + 1) y0 y1 y2 y3 y4 y5 y6 y7)) ∧ (∀ y0 y1 y2 y3 y4 y5 y6, LeO (w19_AttendApart.j1 k y0 y1 y2 y3 y4 y5 y6) (w19_AttendApart.j1 (k + 1) y0 y1 y2 y3 y4 y5 y6)) ∧ (∀ y0 y1 y2 y3 y4 y5 y6 y7 y8, LeO (w19_AttendApart.l0 k y0 y1 y2 y3 y4 y5 y6 y7 y8) (w19_AttendApart.l0 (k + 1) y0 y1 y2 y3 y4 y5 y6 y7 y8))
 | 0 => ⟨fun _ _ _ _ _ _ _ _ r h => by simp [w19_AttendApart.j0] at h, fun _ _ _ _ _ _ _ r h => by simp [w19_AttendApart.j1] at h, fun _ _ _ _ _ _ _ _ _ r h => by simp [w19_AttendApart.l0] at h⟩
 | k + 1 => by
  obtain ⟨ih0, ih1, ih2⟩ := w19_AttendApart.mono_l k
  refine ⟨?_, ?_, ?_⟩ <;> (intros; first | unfold w19_AttendApart.j0 | unfold w19_AttendApart.j1 | unfold w19_AttendApart.l0)
  all_goals repeat' first
   | (with_reducible exact ih0 _ _ _ _ _ _ _ _)
   | (with_reducible exact ih1 _ _ _ _ _ _ _)
   | (with_reducible exact ih2 _ _ _ _ _ _ _ _ _)
   | (with_reducible exact attend_Look.mono _ _ _ _ _)
   | (with_reducible exact r19_Look.mono _ _ _ _ _)
   | (with_reducible exact w19_awake.mono _)
   | (with_reducible exact w19_pairs.mono _ _)
   | (with_reducible exact w19_rows.mono _ _ _)
   | (with_reducible exact yR _)
   | (with_reducible exact yO _)
   | (with_reducible refine yQ ?_ ?_)
   | (with_reducible refine yP ?_ (fun _ => ?_))
   | exact ih0 _ _ _ _ _ _ _ _
   | exact ih1 _ _ _ _ _ _ _
   | exact ih2 _ _ _ _ _ _ _ _ _
   | exact attend_Look.mono _ _ _ _ _
   | exact r19_Look.mono _ _ _ _ _
   | exact w19_awake.mono _
   | exact w19_pairs.mono _ _
   | exact w19_rows.mono _ _ _
   | exact yO _
   | refine yQ ?_ ?_
   | refine yP ?_ (fun _ => ?_)
theorem w19_AttendApart.mono : ∀ a0 a1 a2 a3 a4 k, LeO (w19_AttendApart.f k a0 a1 a2 a3 a4) (w19_AttendApart.f (k + 1) a0 a1 a2 a3 a4) := by
 intro a0 a1 a2 a3 a4 k
 obtain ⟨ih0, ih1, ih2⟩ := w19_AttendApart.mono_l k
 unfold w19_AttendApart.f
 repeat' first
   | (with_reducible exact ih0 _ _ _ _ _ _ _ _)
   | (with_reducible exact ih1 _ _ _ _ _ _ _)
   | (with_reducible exact ih2 _ _ _ _ _ _ _ _ _)
   | (with_reducible exact attend_Look.mono _ _ _ _ _)
   | (with_reducible exact r19_Look.mono _ _ _ _ _)
   | (with_reducible exact w19_awake.mono _)
   | (with_reducible exact w19_pairs.mono _ _)
   | (with_reducible exact w19_rows.mono _ _ _)
   | (with_reducible exact yR _)
   | (with_reducible exact yO _)
   | (with_reducible refine yQ ?_ ?_)
   | (with_reducible refine yP ?_ (fun _ => ?_))
   | exact ih0 _ _ _ _ _ _ _ _
   | exact ih1 _ _ _ _ _ _ _
   | exact ih2 _ _ _ _ _ _ _ _ _
   | exact attend_Look.mono _ _ _ _ _
   | exact r19_Look.mono _ _ _ _ _
   | exact w19_awake.mono _
   | exact w19_pairs.mono _ _
   | exact w19_rows.mono _ _ _
   | exact yO _
   | refine yQ ?_ ?_
   | refine yP ?_ (fun _ => ?_)
def w19_AttendApart.T2 : Bool × List (List Nat × List Nat) := (true, [([], []), ([], []), ([1], [1]), ([], []), ([3], [3]), ([4], [4]), ([], []), ([6], [6]), ([0, 2, 5, 7, 5], [0, 2, 5, 7]), ([8], [8]), ([9], [9]), ([9], [9]), ([10, 8, 0, 1, 2, 3, 4, 5, 6, 7, 8, 9, 10], [10]), ([11, 12, 0, 1, 2, 3, 4, 5, 6, 7, 8, 9, 10, 11, 12], [11])])
def w19_AttendApart.B2 : List Nat := [0, 0, 2, 0, 8, 24, 0, 64, 255, 511, 1023, 1023, 2047, 8191]
theorem w19_AttendApart.tab2 : rtab .any (opsOf Try.f8 2) = w19_AttendApart.T2 := by kernel_rfl
theorem w19_AttendApart.bits2 : waitsOk w19_AttendApart.T2.2 w19_AttendApart.B2 = true := by kernel_rfl
def w19_AttendApart.T13 : Bool × List (List Nat × List Nat) := (true, [([], []), ([], []), ([], []), ([2], [2]), ([], []), ([3, 4], [3, 4]), ([5], [5]), ([6], [6]), ([], []), ([], []), ([7, 8, 9], [7, 8, 9]), ([1, 10], [1, 10]), ([], []), ([], []), ([13], [13]), ([], []), ([14, 15], [14, 15]), ([16], [16]), ([17], [17]), ([], []), ([], []), ([18, 19, 20], [18, 19, 20]), ([12, 21, 11], [12, 21]), ([11, 22], [11, 22]), ([23], [23]), ([0, 24, 22], [0, 24]), ([25, 25, 0, 1, 2, 3, 4, 5, 6, 7, 8, 9, 10, 11, 12, 13, 14, 15, 16, 17, 18, 19, 20, 21, 22, 23, 24, 25], [0, 25])])
def w19_AttendApart.B13 : List Nat := [0, 0, 0, 4, 0, 28, 60, 124, 0, 0, 1020, 2046, 0, 0, 8192, 0, 57344, 122880, 253952, 0, 0, 2088960, 4194302, 8388606, 16777214, 33554431, 67108863]
theorem w19_AttendApart.tab13 : rtab .any (opsOf Try.f8 13) = w19_AttendApart.T13 := by kernel_rfl
theorem w19_AttendApart.bits13 : waitsOk w19_AttendApart.T13.2 w19_AttendApart.B13 = true := by kernel_rfl
def w19_AttendApart.T14 : Bool × List (List Nat × List Nat) := (true, [([], []), ([], []), ([], []), ([], []), ([1, 2, 3], [1, 2, 3]), ([0, 4], [0, 4]), ([], []), ([], []), ([7], [7]), ([5, 6, 8, 5], [5, 6, 8]), ([9], [9]), ([10], [10]), ([10], [10]), ([11, 9, 0, 1, 2, 3, 4, 5, 6, 7, 8, 9, 10, 11], [11]), ([12, 13, 0, 1, 2, 3, 4, 5, 6, 7, 8, 9, 10, 11, 12, 13], [12])])
def w19_AttendApart.B14 : List Nat := [0, 0, 0, 0, 14, 31, 0, 0, 128, 511, 1023, 2047, 2047, 4095, 16383]
theorem w19_AttendApart.tab14 : rtab .any (opsOf Try.f8 14) = w19_AttendApart.T14 := by kernel_rfl
theorem w19_AttendApart.bits14 : waitsOk w19_AttendApart.T14.2 w19_AttendApart.B14 = true := by kernel_rfl
set_option maxHeartbeats 8000000 in
set_option maxRecDepth 100000 in
theorem w19_AttendApart.calls (k : Nat) (A0 : Option Addr) (c0 : Nat) (l0 : List Int) (a1_0 : Int) (a1_1 : Int) (A1_2 : Option Addr) (c1_2 : Nat) (l1_2 : List (S49)) (a2 : Int) (r : Bool) (w : World) (hr0 : Kd.C (Kd.int .i8) w A0 l0.length l0) (hc0 : l0.length ≤ c0) (hr1_2 : Kd.C k49 w A1_2 l1_2.length l1_2) (hc1_2 : l1_2.length ≤ c1_2) (h : w19_AttendApart.f k l0 a1_0 a1_1 l1_2 a2 = some r) :
  Calls Try.prog 8 #[.slice A0 l0.length c0, .agg #[.int .i64 a1_0, .int .i64 a1_1, .slice A1_2 l1_2.length c1_2], .int .i64 a2] w fun e w' => e = .returned (.bool r) ∧ Below w.heap.size w w' := by
 have hu43 := Try.underlying43
 have hu49 := Try.underlying49
 have HR0 := zK hr0
 have HC0 := zK hc0
 clear hr0 hc0
 have HR1_2 := zK hr1_2
 have HC1_2 := zK hc1_2
 clear hr1_2 hc1_2
 have HB := zK (Below.refl w.heap.size w)
 have H : ((attend_Look.f k l0 a1_0 l1_2 a1_1).bind fun bt523 => ((w19_pairs.f k l1_2).bind fun t527 => ((r19_Look.f k l0 a1_0 t527 a1_1).bind fun bt530 => ((w19_awake.f k).bind fun t534 => (if t534 = true then (w19_AttendApart.j0 k l0 a2 bt523.1 bt523.2 (bt523.2 != bt530.2) a1_0 a1_1 l1_2) else (w19_AttendApart.j0 k l0 a2 bt523.1 bt523.2 true a1_0 a1_1 l1_2)))))) = some r := h
 clear h
 replace H := yA.mp H
 obtain ⟨⟨t523, t526⟩, A40, H⟩ := H
 replace H : ((w19_pairs.f k l1_2).bind fun t527 => ((r19_Look.f k l0 a1_0 t527 a1_1).bind fun bt530 => ((w19_awake.f k).bind fun t534 => (if t534 = true then (w19_AttendApart.j0 k l0 a2 t523 t526 (t526 != bt530.2) a1_0 a1_1 l1_2) else (w19_AttendApart.j0 k l0 a2 t523 t526 true a1_0 a1_1 l1_2))))) = some r := H
 have A4 := zK A40
 clear A40
 replace H := yA.mp H
 obtain ⟨t527, A50, H⟩ := H
 replace H : ((r19_Look.f k l0 a1_0 t527 a1_1).bind fun bt530 => ((w19_awake.f k).bind fun t534 => (if t534 = true then (w19_AttendApart.j0 k l0 a2 t523 t526 (t526 != bt530.2) a1_0 a1_1 l1_2) else (w19_AttendApart.j0 k l0 a2 t523 t526 true a1_0 a1_1 l1_2)))) = some r := H
 have A5 := zK A50
 clear A50
 replace H := yA.mp H
 obtain ⟨⟨t530, t533⟩, A60, H⟩ := H
 replace H : ((w19_awake.f k).bind fun t534 => (if t534 = true then (w19_AttendApart.j0 k l0 a2 t523 t526 (t526 != t533) a1_0 a1_1 l1_2) else (w19_AttendApart.j0 k l0 a2 t523 t526 true a1_0 a1_1 l1_2))) = some r := H
 have A6 := zK A60
 clear A60
 have HC7 := zK H
 clear H
 go_enter Try.func8, Try.ntmps8
 try go_wp2_with (first | ((with_reducible refine gate_dst (N := 4) rfl ?_); refine box_event ?hg (N := 4) ?hd (cs := #[.int .i64 a1_0, .int .i64 a1_1, .slice A1_2 l1_2.length c1_2]) (t := 43) ?hr ?_; (case hd => rfl); (case hg => rfl); (case hr => first | (go_simp; done) | (go_simp; rfl)); intro Z3 hg w8 hbox hb; have n0_ := zK (yL (by repeat (first | (with_reducible first | exact HB.out | apply zJ | apply zD | apply zE) | exact HB.out)) hb); have n1_ := zK (hbox); have n2_ := zK ((by rw [hg]; exact (yK (by repeat (first | (with_reducible first | exact HB.out | apply zJ | apply zD | apply zE) | exact HB.out))) : w.heap.size ≤ Z3)); have n3_ := zK ((by rw [hg]; exact (yK (by repeat (first | (with_reducible first | exact HB.out | apply zJ | apply zD | apply zE) | exact HB.out))) : w.heap.size ≤ Z3)); clear HB; have HB := n0_; have Z0 := n1_; have Z2 := n2_; have Z1 := n3_; clear n0_ n1_ n2_ n3_ hb hbox hg; have hcz9_0 : w8.cell? ⟨Z3, 0, none⟩ = some (.int .i64 a1_0) := (zO Z0.out 0).trans rfl; have hcz9_1 : w8.cell? ⟨Z3, 1, none⟩ = some (.int .i64 a1_1) := (zO Z0.out 1).trans rfl; have hcz9_2 : w8.cell? ⟨Z3, 2, none⟩ = some (.slice A1_2 l1_2.length c1_2) := (zO Z0.out 2).trans rfl; have hfz9_0 := yE Z0.out 0; have hfz9_1 := yE Z0.out 1; have hfz9_2 := yE Z0.out 2) | ((with_reducible refine gate_callee (f := 19) rfl ?_); refine goesL_ (some 26) rfl rfl Try.func19 (by kernel_rfl) rfl #[.slice A0 l0.length c0, .int .i64 a1_0, .slice A1_2 l1_2.length c1_2, .int .i64 a1_1] rfl (by (try simp only [yH, yI, yJ]); first | done | rfl | (simp only [yG, yF]; rfl)) ?_; (with_reducible refine (attend_Look.calls k _ _ l0 a1_0 (fun k_ => k_ < w.heap.size) _ _ l1_2 a1_1 t523 t526 _ ?side1 ?side2 ?side3 A4.out).mono ?_); (case side1 => repeat (first | exact (yc HR0.out HB.out) | (with_reducible refine yS ?_ _) | (with_reducible refine yT ?_ _) | (with_reducible refine yU ?_))); (case side2 => exact HC0.out); (case side3 => exact Kd.V_mk HC1_2.out (Kd.F_below (Kd.C_F k49_heap HR1_2.out) (by repeat (first | (with_reducible first | exact HB.out | apply zJ | apply zD | apply zE | refine zI ?_ Z1.out) | exact HB.out)))); rintro e w10 ⟨v524, rfl, ho0, hb⟩; refine ⟨_, rfl, ?_⟩; have n0_ := zK (Kd.R_lower (yd (ok' := fun k_ => True) ho0 (fun _ hk_ => trivial)) (yK (by repeat (first | (with_reducible first | exact HB.out | apply zJ | apply zD | apply zE | refine zI ?_ Z1.out) | exact HB.out)))); have n1_ := zK (zP (g := Z3) (o := .cells #[.int .i64 a1_0, .int .i64 a1_1, .slice A1_2 l1_2.length c1_2] 43 (0, 0)) (by (with_reducible repeat (first | refine zF ?_ _ | refine zH ?_ | refine zG ?_ _)); exact Z0.out) hb); have n2_ := zK (yL (by repeat (first | (with_reducible first | exact HB.out | apply zJ | apply zD | apply zE | refine zI ?_ Z1.out) | exact HB.out)) hb); clear Z0 HB; have HO525 := n0_; have Z0 := n1_; have HB := n2_; clear n0_ n1_ n2_; (try clear hb); (try clear hb2); (try clear hk); (try clear hi); (try clear ho0)))
 have n0_ := zK (zN HO525.out)
 have n1_ := zK (zH Z0.out)
 have n2_ := zK (zE HB.out)
 clear HO525 Z0 HB
 have HO525 := n0_; have Z0 := n1_; have HB := n2_
 clear n0_ n1_ n2_
 refine start_ (n := 14) (S := fun w' => w'.cell? ⟨Z3, 0, none⟩ = some (.int .i64 a1_0) ∧ w'.cell? ⟨Z3, 1, none⟩ = some (.int .i64 a1_1) ∧ w'.cell? ⟨Z3, 2, none⟩ = some (.slice A1_2 l1_2.length c1_2)) (ds := []) #[false, false, false, false, false, false, false, false, false, false, false, false, false, false] (by kernel_rfl) rfl rfl ⟨(zO Z0.out 0).trans rfl, (zO Z0.out 1).trans rfl, (zO Z0.out 2).trans rfl⟩ (fun hHeld => ?_); refine with_tabW w19_AttendApart.tab2 w19_AttendApart.bits2 (fun HT_ HW_ => ?_)
 generalize w10.drew = w11 at HO525 Z0 HB hHeld ⊢
 refine pure_ (i := 0) (N := some 30) (v := ?_) (a' := ?_) #[true, false, false, false, false, false, false, false, false, false, false, false, false, false] rfl rfl (any_of HT_.out (by kernel_rfl)) (fun _ _ _ h => h) (Or.inl ⟨by rfl, ?_⟩) ?_ ?_
 rotate_left
 ·intro w'
  go_simp
  with_reducible rfl
 rotate_left
 ·simp only [Act.put, zA, zB, zC, i64_w, i32_w]
  rfl
 refine pure_ (i := 1) (N := some 31) (v := ?_) (a' := ?_) #[true, true, false, false, false, false, false, false, false, false, false, false, false, false] rfl rfl (any_of HT_.out (by kernel_rfl)) (fun _ _ _ h => h) (Or.inl ⟨by rfl, ?_⟩) ?_ ?_
 rotate_left
 ·intro w'
  go_simp
  with_reducible rfl
 rotate_left
 ·simp only [Act.put, zA, zB, zC, i64_w, i32_w]
  rfl
 refine pure_ (i := 3) (N := some 33) (v := ?_) (a' := ?_) #[true, true, false, true, false, false, false, false, false, false, false, false, false, false] rfl rfl (any_of HT_.out (by kernel_rfl)) (fun _ _ _ h => h) (Or.inl ⟨by rfl, ?_⟩) ?_ ?_
 rotate_left
 ·intro w'
  go_simp
  with_reducible rfl
 rotate_left
 ·simp only [Act.put, zA, zB, zC, i64_w, i32_w]
  rfl
 refine pure_ (i := 6) (N := some 36) (v := ?_) (a' := ?_) #[true, true, false, true, false, false, true, false, false, false, false, false, false, false] rfl rfl (any_of HT_.out (by kernel_rfl)) (fun _ _ _ h => h) (Or.inl ⟨by rfl, ?_⟩) ?_ ?_
 rotate_left
 ·intro w'
  go_simp
  with_reducible rfl
 rotate_left
 ·simp only [Act.put, zA, zB, zC, i64_w, i32_w]
  rfl
 refine take_ (i := 2) (N := some 32) (v := ?_) (a' := ?_) #[true, true, true, true, false, false, true, false, false, false, false, false, false, false] rfl rfl (take_ofW HT_.out HW_.out (by kernel_rfl)) (fun _ _ _ h => h) (Or.inl ⟨by rfl, ?_⟩) hHeld ?_ ?_
 rotate_left
 ·rintro w' ⟨s0, s1, s2⟩
  go_simp
  with_reducible rfl
 rotate_left
 ·simp only [Act.put, zA, zB, zC, i64_w, i32_w]
  rfl
 refine take_ (i := 4) (N := some 34) (v := ?_) (a' := ?_) #[true, true, true, true, true, false, true, false, false, false, false, false, false, false] rfl rfl (take_ofW HT_.out HW_.out (by kernel_rfl)) (fun _ _ _ h => h) (Or.inl ⟨by rfl, ?_⟩) hHeld ?_ ?_
 rotate_left
 ·rintro w' ⟨s0, s1, s2⟩
  go_simp
  with_reducible rfl
 rotate_left
 ·simp only [Act.put, zA, zB, zC, i64_w, i32_w]
  rfl
 refine take_ (i := 7) (N := some 37) (v := ?_) (a' := ?_) #[true, true, true, true, true, false, true, true, false, false, false, false, false, false] rfl rfl (take_ofW HT_.out HW_.out (by kernel_rfl)) (fun _ _ _ h => h) (Or.inl ⟨by rfl, ?_⟩) hHeld ?_ ?_
 rotate_left
 ·rintro w' ⟨s0, s1, s2⟩
  go_simp
  with_reducible rfl
 rotate_left
 ·simp only [Act.put, zA, zB, zC, i64_w, i32_w]
  rfl
 refine one_ (i := 5) (N := some 35) #[true, true, true, true, true, true, true, true, false, false, false, false, false, false] rfl rfl (one_of HT_.out (by kernel_rfl)) (by decide) (fun K hK => ?_)
 refine goes_ Try.func18 (by kernel_rfl) rfl #[.slice A1_2 l1_2.length c1_2] (by rfl) rfl rfl (by (try simp only [yH, yI, yJ]); first | done | rfl | (simp only [yG, yF]; rfl)) ?_
 with_reducible refine (w19_pairs.calls k _ _ l1_2 t527 _ ?side1 ?side2 A5.out).mono ?_
 (case side1 => repeat (first | exact (yc HR1_2.out HB.out) | (with_reducible refine yS ?_ _) | (with_reducible refine yT ?_ _) | (with_reducible refine yU ?_)))
 (case side2 => exact HC1_2.out)
 rintro e w12 ⟨v528, rfl, ho0, hb⟩
 refine ⟨_, rfl, ?_⟩
 have n0_ := zK (yb (by (with_reducible repeat (first | apply zL | apply zM | apply zN)); exact HO525.out) hb)
 have n1_ := zK (Kd.S_lower (Kd.S_new' ho0 (Kd.R_lt (by (with_reducible repeat (first | apply zL | apply zM | apply zN)); exact HO525.out))) (yK (by repeat (first | (with_reducible first | exact HB.out | apply zJ | apply zD | apply zE | refine zI ?_ Z1.out) | exact HB.out))))
 have n2_ := zK (zP (g := Z3) (o := .cells #[.int .i64 a1_0, .int .i64 a1_1, .slice A1_2 l1_2.length c1_2] 43 (0, 0)) (by (with_reducible repeat (first | refine zF ?_ _ | refine zH ?_ | refine zG ?_ _)); exact Z0.out) hb)
 have n3_ := zK (yL (by repeat (first | (with_reducible first | exact HB.out | apply zJ | apply zD | apply zE | refine zI ?_ Z1.out) | exact HB.out)) hb)
 clear HO525 Z0 HB
 have HO525 := n0_; have HO529 := n1_; have Z0 := n2_; have HB := n3_
 clear n0_ n1_ n2_ n3_
 (try clear hb)
 (try clear hb2)
 (try clear hk)
 (try clear hi)
 (try clear ho0)
 obtain ⟨Ao13, co13, eo13⟩ := Kd.S_slice HO529.out
 (first | subst eo13 | (injection eo13 with f1_ f2_ f3_; have f4_ := f1_.symm; have f5_ := f3_.symm; clear f1_ f2_ f3_; subst f4_; subst f5_))
 refine hK.out _ _ ⟨(zO Z0.out 0).trans rfl, (zO Z0.out 1).trans rfl, (zO Z0.out 2).trans rfl⟩ (fun hHeld => ?_)
 clear hK K
 refine norm_ (a' := ?_) ?_ ?_
 rotate_left
 ·show Act.put _ (some 35) _ = _
  simp only [Act.put, zA, zB, zC, i64_w, i32_w]
  rfl
 refine one_ (i := 8) (N := some 38) #[true, true, true, true, true, true, true, true, true, false, false, false, false, false] rfl rfl (one_of HT_.out (by kernel_rfl)) (by decide) (fun K hK => ?_)
 refine goes_ Try.func20 (by kernel_rfl) rfl #[.slice A0 l0.length c0, .int .i64 a1_0, .slice Ao13 t527.length co13, .int .i64 a1_1] (by rfl) rfl rfl (by (try simp only [yH, yI, yJ]); first | done | rfl | (simp only [yG, yF]; rfl)) ?_
 with_reducible refine (r19_Look.calls k _ _ l0 a1_0 (fun k_ => ((True ∧ some k_ ≠ (v524 : Value).ownBlock) ∧ k_ ≠ Z3)) _ _ t527 a1_1 t530 t533 _ ?side1 ?side2 ?side3 A6.out).mono ?_
 (case side1 => repeat (first | exact (yc HR0.out HB.out) | (with_reducible refine yS ?_ _) | (with_reducible refine yT ?_ _) | (with_reducible refine yU ?_)))
 (case side2 => exact HC0.out)
 (case side3 => exact Kd.S_V (Kd.S_types (HO529.out) Z0.out (by decide)))
 rintro e w14 ⟨v531, rfl, ho0, hb⟩
 refine ⟨_, rfl, ?_⟩
 have n0_ := zK (Kd.R_elder' (by (with_reducible repeat (first | apply zL | apply zM | apply zN)); exact HO525.out) (Kd.R_base ho0) hb)
 have n1_ := zK (Kd.S_elder' (by (with_reducible repeat (first | apply Kd.S_alloc | apply Kd.S_drewN | apply Kd.S_drew)); exact HO529.out) (Kd.R_base ho0) hb)
 have n2_ := zK (Kd.R_lower (Kd.R_new' (yd (ok' := fun k_ => True) ho0 (fun _ hk_ => trivial)) (Kd.R_lt (by (with_reducible repeat (first | apply zL | apply zM | apply zN)); exact HO525.out))) (yK (by repeat (first | (with_reducible first | exact HB.out | apply zJ | apply zD | apply zE | refine zI ?_ Z1.out) | exact HB.out))))
 have n3_ := zK (zP (g := Z3) (o := .cells #[.int .i64 a1_0, .int .i64 a1_1, .slice A1_2 l1_2.length c1_2] 43 (0, 0)) (by (with_reducible repeat (first | refine zF ?_ _ | refine zH ?_ | refine zG ?_ _)); exact Z0.out) hb)
 have n4_ := zK (yL (by repeat (first | (with_reducible first | exact HB.out | apply zJ | apply zD | apply zE | refine zI ?_ Z1.out) | exact HB.out)) hb)
 clear HO525 HO529 Z0 HB
 have HO525 := n0_; have HO529 := n1_; have HO532 := n2_; have Z0 := n3_; have HB := n4_
 clear n0_ n1_ n2_ n3_ n4_
 (try clear hb)
 (try clear hb2)
 (try clear hk)
 (try clear hi)
 (try clear ho0)
 refine hK.out _ _ ⟨(zO Z0.out 0).trans rfl, (zO Z0.out 1).trans rfl, (zO Z0.out 2).trans rfl⟩ (fun hHeld => ?_)
 clear hK K
 refine norm_ (a' := ?_) ?_ ?_
 rotate_left
 ·show Act.put _ (some 38) _ = _
  simp only [Act.put, zA, zB, zC, i64_w, i32_w]
  rfl
 refine pure_ (i := 9) (N := some 29) (v := ?_) (a' := ?_) #[true, true, true, true, true, true, true, true, true, true, false, false, false, false] rfl rfl (any_of HT_.out (by kernel_rfl)) (fun _ _ _ h => h) (Or.inl ⟨by rfl, ?_⟩) ?_ ?_
 rotate_left
 ·intro w'
  go_simp
  with_reducible rfl
 rotate_left
 ·simp only [Act.put, zA, zB, zC, i64_w, i32_w]
  rfl
 refine pure_ (i := 10) (N := some 39) (v := ?_) (a' := ?_) #[true, true, true, true, true, true, true, true, true, true, true, false, false, false] rfl rfl (any_of HT_.out (by kernel_rfl)) (fun _ _ _ h => h) (Or.inl ⟨by rfl, ?_⟩) ?_ ?_
 rotate_left
 ·intro w'
  go_simp
  with_reducible rfl
 rotate_left
 ·simp only [Act.put, zA, zB, zC, i64_w, i32_w]
  rfl
 refine pure_ (i := 11) (N := some 40) (v := ?_) (a' := ?_) #[true, true, true, true, true, true, true, true, true, true, true, true, false, false] rfl rfl (any_of HT_.out (by kernel_rfl)) (fun _ _ _ h => h) (Or.inl ⟨by rfl, ?_⟩) ?_ ?_
 rotate_left
 ·intro w'
  go_simp
  with_reducible rfl
 rotate_left
 ·simp only [Act.put, zA, zB, zC, i64_w, i32_w]
  rfl
 refine pure_ (i := 12) (N := some 9) (v := ?_) (a' := ?_) #[true, true, true, true, true, true, true, true, true, true, true, true, true, false] rfl rfl (any_of HT_.out (by kernel_rfl)) (fun _ _ _ h => h) (Or.inl ⟨by rfl, ?_⟩) ?_ ?_
 rotate_left
 ·intro w'
  go_simp
  with_reducible rfl
 rotate_left
 ·simp only [Act.put, zA, zB, zC, i64_w, i32_w]
  rfl
 refine pure_ (i := 13) (N := some 10) (v := ?_) (a' := ?_) #[true, true, true, true, true, true, true, true, true, true, true, true, true, true] rfl rfl (any_of HT_.out (by kernel_rfl)) (fun _ _ _ h => h) (Or.inl ⟨by rfl, ?_⟩) ?_ ?_
 rotate_left
 ·intro w'
  go_simp
  with_reducible rfl
 rotate_left
 ·simp only [Act.put, zA, zB, zC, i64_w, i32_w]
  rfl
 refine done_ (done_of HT_.out (by kernel_rfl)) ?_
 go_upto_region 3 with (fail)
 go_cut [47] (fun v47 wc => ∃ (kq : Nat) (x47_6 : Bool), v47 = .bool x47_6 ∧ Aside0 (w19_AttendApart.j0 kq l0 a2 t523 t526 x47_6 a1_0 a1_1 l1_2 = some r) ∧ Aside0 (kq ≤ k) ∧ Aside0 (Kd.R (Kd.int .i8) 53 wc w.heap.size (fun _ => True) v524 t523) ∧ Aside0 (wc.heap[Z3]? = some (.cells #[.int .i64 a1_0, .int .i64 a1_1, (.slice A1_2 l1_2.length c1_2)] 43 (0, 0))) ∧ Aside0 (Below w.heap.size w wc))
 case first =>
  have H := HC7.out
  clear HC7
  replace H := yA.mp H
  obtain ⟨t534, A150, H⟩ := H
  replace H : (if t534 = true then (w19_AttendApart.j0 k l0 a2 t523 t526 (t526 != t533) a1_0 a1_1 l1_2) else (w19_AttendApart.j0 k l0 a2 t523 t526 true a1_0 a1_1 l1_2)) = some r := H
  have A15 := zK A150
  clear A150
  by_cases c16 : t534 = true
  ·subst c16
   have H1 : (w19_AttendApart.j0 k l0 a2 t523 t526 (t526 != t533) a1_0 a1_1 l1_2) = some r := by rw [if_pos rfl] at H; exact H
   clear H
   have H := H1
   clear H1
   have H' := zK H
   clear H
   go_wp2_with (first | ((with_reducible refine gate_callee (f := 13) rfl ?_); refine goesL_ (some 41) rfl rfl Try.func13 (by kernel_rfl) rfl #[] rfl (by (try simp only [yH, yI, yJ]); first | done | rfl | (simp only [yG, yF]; rfl)) ?_; (with_reducible refine (w19_awake.calls k  true _ A15.out).mono ?_); rintro e w17 ⟨rfl, hb⟩; refine ⟨_, rfl, ?_⟩; have n0_ := zK (yb (by (with_reducible repeat (first | apply zL | apply zM | apply zN)); exact HO525.out) hb); have n1_ := zK (Kd.S_below (by (with_reducible repeat (first | apply Kd.S_alloc | apply Kd.S_drewN | apply Kd.S_drew)); exact HO529.out) hb); have n2_ := zK (yb (by (with_reducible repeat (first | apply zL | apply zM | apply zN)); exact HO532.out) hb); have n3_ := zK (zP (g := Z3) (o := .cells #[.int .i64 a1_0, .int .i64 a1_1, .slice A1_2 l1_2.length c1_2] 43 (0, 0)) (by (with_reducible repeat (first | refine zF ?_ _ | refine zH ?_ | refine zG ?_ _)); exact Z0.out) hb); have n4_ := zK (yL (by repeat (first | (with_reducible first | exact HB.out | apply zJ | apply zD | apply zE | refine zI ?_ Z1.out) | exact HB.out)) hb); clear HO525 HO529 HO532 Z0 HB; have HO525 := n0_; have HO529 := n1_; have HO532 := n2_; have Z0 := n3_; have HB := n4_; clear n0_ n1_ n2_ n3_ n4_; (try clear hb); (try clear hb2); (try clear hk); (try clear hi)))
   go_meet
   case rel => exact ⟨_, ((t526 != t533)), (by first | rfl | (simp; done) | (simp [*]; done)), H', ⟨by first | omega | exact yN _⟩, ⟨by (with_reducible repeat (first | apply zL | apply zM | apply zN)); exact yd HO525.out (fun _ hk => trivial)⟩, ⟨by (with_reducible repeat (first | refine zF ?_ _ | refine zH ?_ | refine zG ?_ _)); exact Z0.out⟩, ⟨by repeat (first | (with_reducible first | exact HB.out | apply zJ | apply zD | apply zE | refine zI ?_ Z1.out) | exact HB.out)⟩⟩
  ·replace c16 := yh.mpr c16
   subst c16
   have H1 : (w19_AttendApart.j0 k l0 a2 t523 t526 true a1_0 a1_1 l1_2) = some r := by rw [if_neg (show ¬ (false = true) by decide)] at H; exact H
   clear H
   have H := H1
   clear H1
   have H' := zK H
   clear H
   go_wp2_with (first | ((with_reducible refine gate_callee (f := 13) rfl ?_); refine goesL_ (some 41) rfl rfl Try.func13 (by kernel_rfl) rfl #[] rfl (by (try simp only [yH, yI, yJ]); first | done | rfl | (simp only [yG, yF]; rfl)) ?_; (with_reducible refine (w19_awake.calls k  false _ A15.out).mono ?_); rintro e w18 ⟨rfl, hb⟩; refine ⟨_, rfl, ?_⟩; have n0_ := zK (yb (by (with_reducible repeat (first | apply zL | apply zM | apply zN)); exact HO525.out) hb); have n1_ := zK (Kd.S_below (by (with_reducible repeat (first | apply Kd.S_alloc | apply Kd.S_drewN | apply Kd.S_drew)); exact HO529.out) hb); have n2_ := zK (yb (by (with_reducible repeat (first | apply zL | apply zM | apply zN)); exact HO532.out) hb); have n3_ := zK (zP (g := Z3) (o := .cells #[.int .i64 a1_0, .int .i64 a1_1, .slice A1_2 l1_2.length c1_2] 43 (0, 0)) (by (with_reducible repeat (first | refine zF ?_ _ | refine zH ?_ | refine zG ?_ _)); exact Z0.out) hb); have n4_ := zK (yL (by repeat (first | (with_reducible first | exact HB.out | apply zJ | apply zD | apply zE | refine zI ?_ Z1.out) | exact HB.out)) hb); clear HO525 HO529 HO532 Z0 HB; have HO525 := n0_; have HO529 := n1_; have HO532 := n2_; have Z0 := n3_; have HB := n4_; clear n0_ n1_ n2_ n3_ n4_; (try clear hb); (try clear hb2); (try clear hk); (try clear hi)))
   go_meet
   case rel => exact ⟨_, (true), (by first | rfl | (simp; done) | (simp [*]; done)), H', ⟨by first | omega | exact yN _⟩, ⟨by (with_reducible repeat (first | apply zL | apply zM | apply zN)); exact yd HO525.out (fun _ hk => trivial)⟩, ⟨by (with_reducible repeat (first | refine zF ?_ _ | refine zH ?_ | refine zG ?_ _)); exact Z0.out⟩, ⟨by repeat (first | (with_reducible first | exact HB.out | apply zJ | apply zD | apply zE | refine zI ?_ Z1.out) | exact HB.out)⟩⟩
 case rest =>
  clear HC7
  try clear c1
  try clear c2
  try clear p2
  try clear c8
  try clear c13
  try clear c16
  try clear c18
  try clear hcz9_0
  try clear hcz9_1
  try clear hcz9_2
  try clear hfz9_0
  try clear hfz9_1
  try clear hfz9_2
  obtain ⟨kq, x47_6, rfl, HA, HJ6, HO_7, Z0, HB⟩ := hcut
  cases kq with
  | zero => exact absurd HA.out (by simp [w19_AttendApart.j0])
  | succ kj6 =>
   have H := HA.out
   clear HA
   simp only [w19_AttendApart.j0] at H
   by_cases c19 : x47_6 = true
   ·subst c19
    have H1 : (some false) = some r := by rw [if_pos rfl] at H; exact H
    clear H
    have H := H1
    clear H1
    obtain rfl := yY H
    go_wp2
    go_ret
    exact ⟨by first | rfl | (simp [errW_none, errW_some] <;> rfl) | (simp [*, errW_none, errW_some] <;> rfl), by repeat (first | (with_reducible first | exact HB.out | apply zJ | apply zD | apply zE | refine zI ?_ Z1.out) | exact HB.out)⟩
   ·replace c19 := yh.mpr c19
    subst c19
    have H1 : (if t526 = 0 then (if a2 < 0 then (w19_AttendApart.j1 kj6 l0 a2 t523 true a1_0 a1_1 l1_2) else (w19_AttendApart.j1 kj6 l0 a2 t523 (decide (a2 ≥ a1_0)) a1_0 a1_1 l1_2)) else (w19_AttendApart.j1 kj6 l0 a2 t523 true a1_0 a1_1 l1_2)) = some r := by rw [if_neg (show ¬ (false = true) by decide)] at H; exact H
    clear H
    have H := H1
    clear H1
    have HC20 := zK H
    clear H
    go_upto_region 5 with (fail)
    go_cut [59] (fun v59 wc => ∃ (kq : Nat) (x59_19 : Bool), v59 = .bool x59_19 ∧ Aside0 (w19_AttendApart.j1 kq l0 a2 t523 x59_19 a1_0 a1_1 l1_2 = some r) ∧ Aside0 (kq ≤ kj6) ∧ Aside0 (Kd.R (Kd.int .i8) 53 wc w.heap.size (fun _ => True) v524 t523) ∧ Aside0 (wc.heap[Z3]? = some (.cells #[.int .i64 a1_0, .int .i64 a1_1, (.slice A1_2 l1_2.length c1_2)] 43 (0, 0))) ∧ Aside0 (Below w.heap.size w wc))
    case first =>
     have H := HC20.out
     clear HC20
     by_cases c21 : t526 = 0
     ·rw [if_pos c21] at H
      have c21b0 : (t526 == 0) = true := beq_iff_eq.mpr c21
      have c21b1 : (t526 != 0) = false := bne_eq_false_iff_eq.mpr c21
      clear c21
      (first | rw [c21b0] | (simp only [i64_w, i32_w]; rw [c21b0]) | skip)
      by_cases c22 : a2 < 0
      ·rw [if_pos c22] at H
       have c22b0 : decide (a2 < 0) = true := yC c22
       clear c22
       have H' := zK H
       clear H
       go_wp2
       go_meet
       case rel => exact ⟨_, (true), (by first | rfl | (simp; done) | (simp [*]; done)), H', ⟨by have := HJ6.out; first | omega | exact yN _⟩, ⟨by (with_reducible repeat (first | apply zL | apply zM | apply zN)); exact HO_7.out⟩, ⟨by (with_reducible repeat (first | refine zF ?_ _ | refine zH ?_ | refine zG ?_ _)); exact Z0.out⟩, ⟨by repeat (first | (with_reducible first | exact HB.out | apply zJ | apply zD | apply zE | refine zI ?_ Z1.out) | exact HB.out)⟩⟩
      ·rw [if_neg c22] at H
       have c22b0 : decide (a2 < 0) = false := yD c22
       clear c22
       have H' := zK H
       clear H
       have hcz23_0 : wc.cell? ⟨Z3, 0, none⟩ = some (.int .i64 a1_0) := (zO Z0.out 0).trans rfl
       have hcz23_1 : wc.cell? ⟨Z3, 1, none⟩ = some (.int .i64 a1_1) := (zO Z0.out 1).trans rfl
       have hcz23_2 : wc.cell? ⟨Z3, 2, none⟩ = some (.slice A1_2 l1_2.length c1_2) := (zO Z0.out 2).trans rfl
       have hfz23_0 := yE Z0.out 0
       have hfz23_1 := yE Z0.out 1
       have hfz23_2 := yE Z0.out 2
       go_wp2
       go_meet
       case rel => exact ⟨_, (decide (a2 ≥ a1_0)), (by first | rfl | (simp; done) | (simp [*]; done)), H', ⟨by have := HJ6.out; first | omega | exact yN _⟩, ⟨by (with_reducible repeat (first | apply zL | apply zM | apply zN)); exact HO_7.out⟩, ⟨by (with_reducible repeat (first | refine zF ?_ _ | refine zH ?_ | refine zG ?_ _)); exact Z0.out⟩, ⟨by repeat (first | (with_reducible first | exact HB.out | apply zJ | apply zD | apply zE | refine zI ?_ Z1.out) | exact HB.out)⟩⟩
     ·rw [if_neg c21] at H
      have c21b0 : (t526 == 0) = false := beq_eq_false_iff_ne.mpr c21
      have c21b1 : (t526 != 0) = true := bne_iff_ne.mpr c21
      (first | rw [c21b0] | (simp only [i64_w, i32_w]; rw [c21b0]) | skip)
      have H' := zK H
      clear H
      go_wp2
      go_meet
      case rel => exact ⟨_, (true), (by first | rfl | (simp; done) | (simp [*]; done)), H', ⟨by have := HJ6.out; first | omega | exact yN _⟩, ⟨by (with_reducible repeat (first | apply zL | apply zM | apply zN)); exact HO_7.out⟩, ⟨by (with_reducible repeat (first | refine zF ?_ _ | refine zH ?_ | refine zG ?_ _)); exact Z0.out⟩, ⟨by repeat (first | (with_reducible first | exact HB.out | apply zJ | apply zD | apply zE | refine zI ?_ Z1.out) | exact HB.out)⟩⟩
    case rest =>
     clear HC20
     try clear c1
     try clear c2
     try clear p2
     try clear c8
     try clear c13
     try clear c16
     try clear c18
     try clear c19
     try clear c20
     try clear c21
     try clear c21b0
     try clear c21b1
     try clear c22
     try clear c22b0
     try clear hcz23_0
     try clear hcz23_1
     try clear hcz23_2
     try clear hcz9_0
     try clear hcz9_1
     try clear hcz9_2
     try clear hfz23_0
     try clear hfz23_1
     try clear hfz23_2
     try clear hfz9_0
     try clear hfz9_1
     try clear hfz9_2
     try clear p2
     obtain ⟨kq, x59_19, rfl, HA, HJ19, HO_7, Z0, HB⟩ := hcut
     cases kq with
     | zero => exact absurd HA.out (by simp [w19_AttendApart.j1])
     | succ kj19 =>
      have H := HA.out
      clear HA
      simp only [w19_AttendApart.j1] at H
      by_cases c24 : x59_19 = true
      ·subst c24
       have H1 : (some true) = some r := by rw [if_pos rfl] at H; exact H
       clear H
       have H := H1
       clear H1
       obtain rfl := yY H
       go_wp2
       go_ret
       exact ⟨by first | rfl | (simp [errW_none, errW_some] <;> rfl) | (simp [*, errW_none, errW_some] <;> rfl), by repeat (first | (with_reducible first | exact HB.out | apply zJ | apply zD | apply zE | refine zI ?_ Z1.out) | exact HB.out)⟩
      ·replace c24 := yh.mpr c24
       subst c24
       have H1 : (if a1_0 = 0 then (none) else (w19_AttendApart.l0 kj19 l0 t523 (wrap64 (a2 * (wrap64 ((l0.length : Int) / a1_0)))) (wrap64 ((wrap64 (a2 + 1)) * (wrap64 ((l0.length : Int) / a1_0)))) (([] : List (S49))) 0 a1_0 a1_1 l1_2)) = some r := by rw [if_neg (show ¬ (false = true) by decide)] at H; exact H
       clear H
       have H := H1
       clear H1
       by_cases c25 : a1_0 = 0
       ·rw [if_pos c25] at H
        exact absurd H (by simp)
       ·rw [if_neg c25] at H
        have c25b0 : (a1_0 == 0) = false := beq_eq_false_iff_ne.mpr c25
        have c25b1 : (a1_0 != 0) = true := bne_iff_ne.mpr c25
        obtain ⟨y535, hy535⟩ : ∃ y_ : List (S49), y_ = (([] : List (S49))) := ⟨_, rfl⟩
        replace H : (w19_AttendApart.l0 kj19 l0 t523 (wrap64 (a2 * (wrap64 ((l0.length : Int) / a1_0)))) (wrap64 ((wrap64 (a2 + 1)) * (wrap64 ((l0.length : Int) / a1_0)))) y535 0 a1_0 a1_1 l1_2) = some r := by first | (rw [hy535]; with_reducible exact H) | (have H2_ := (yV _ _).symm.trans H; rw [hy535]; with_reducible exact H2_) | (have H2_ := (yV _ _).symm.trans H; with_reducible exact H2_) | with_reducible exact H | (rw [hy535]; exact H) | exact H
        have Ny535 := zK hy535
        clear hy535
        have H' := zK H
        clear H
        have hcz26_0 : wc.cell? ⟨Z3, 0, none⟩ = some (.int .i64 a1_0) := (zO Z0.out 0).trans rfl
        have hcz26_1 : wc.cell? ⟨Z3, 1, none⟩ = some (.int .i64 a1_1) := (zO Z0.out 1).trans rfl
        have hcz26_2 : wc.cell? ⟨Z3, 2, none⟩ = some (.slice A1_2 l1_2.length c1_2) := (zO Z0.out 2).trans rfl
        have hfz26_0 := yE Z0.out 0
        have hfz26_1 := yE Z0.out 1
        have hfz26_2 := yE Z0.out 2
        go_wp2_with (first | ((with_reducible refine gate_dst (N := 72) rfl ?_); refine Kd.S_lit k49 _ 49 ?hg (N := 72) ?hd (xs := ([] : List (S49))) (inner := []) (ok := fun _ => True) (okp := fun _ => True) ?hr ?hp (fun _ hk => hk) trivial (Below.refl _ _) (yN _) (by simp) ?_; (case hd => rfl); (case hg => rfl); (case hr => first | (go_simp; done) | (go_simp; rfl)); (case hp => exact (Reps.none _ _)); intro v536 w27 ho28 hb hg_ hnew_; clear hg_ hnew_; (first | rw [← Ny535.out] at ho28 | (simp only [Int.reduceToNat] at ho28; rw [← Ny535.out] at ho28)); have n0_ := zK (yb (by (with_reducible repeat (first | apply zL | apply zM | apply zN)); exact HO_7.out) hb); have n1_ := zK (Kd.S_lower (Kd.S_new' ho28 (Kd.R_lt (by (with_reducible repeat (first | apply zL | apply zM | apply zN)); exact HO_7.out))) (yK (by repeat (first | (with_reducible first | exact HB.out | apply zJ | apply zD | apply zE | refine zI ?_ Z1.out) | exact HB.out)))); have n2_ := zK (zP (g := Z3) (o := .cells #[.int .i64 a1_0, .int .i64 a1_1, .slice A1_2 l1_2.length c1_2] 43 (0, 0)) (by (with_reducible repeat (first | refine zF ?_ _ | refine zH ?_ | refine zG ?_ _)); exact Z0.out) hb); have n3_ := zK (yL (by repeat (first | (with_reducible first | exact HB.out | apply zJ | apply zD | apply zE | refine zI ?_ Z1.out) | exact HB.out)) hb); clear HO_7 Z0 HB; have HO_7 := n0_; have HO537 := n1_; have Z0 := n2_; have HB := n3_; clear n0_ n1_ n2_ n3_ hb ho28))
        go_loopg [14, 15] kj19 (fun kq v14 v15 w' => ∃ (x14_3 : List (S49)) (x15_3 : Int), v15 = .int .i64 x15_3 ∧ Aside0 (w19_AttendApart.l0 kq l0 t523 (wrap64 (a2 * (wrap64 ((l0.length : Int) / a1_0)))) (wrap64 ((wrap64 (a2 + 1)) * (wrap64 ((l0.length : Int) / a1_0)))) x14_3 x15_3 a1_0 a1_1 l1_2 = some r) ∧ Aside0 (kq ≤ kj19) ∧ Aside0 (Kd.R (Kd.int .i8) 53 w' w.heap.size (fun _ => True) v524 t523) ∧ Aside0 (Kd.S k49 49 w' w.heap.size (fun k_ => some k_ ≠ (v524 : Value).ownBlock) v14 x14_3) ∧ Aside0 (w'.heap[Z3]? = some (.cells #[.int .i64 a1_0, .int .i64 a1_1, (.slice A1_2 l1_2.length c1_2)] 43 (0, 0))) ∧ Aside0 (Below w.heap.size w w'))
        case atStart => exact ⟨(y535), (0), (by first | rfl | (simp; done) | (simp [*]; done)), H', ⟨yN _⟩, ⟨by (with_reducible repeat (first | apply zL | apply zM | apply zN)); exact HO_7.out⟩, ⟨by (with_reducible repeat (first | apply Kd.S_alloc | apply Kd.S_drewN | apply Kd.S_drew)); exact Kd.S_mono HO537.out (fun _ hk => hk.2)⟩, ⟨by (with_reducible repeat (first | refine zF ?_ _ | refine zH ?_ | refine zG ?_ _)); exact Z0.out⟩, ⟨by repeat (first | (with_reducible first | exact HB.out | apply zJ | apply zD | apply zE | refine zI ?_ Z1.out) | exact HB.out)⟩⟩
        case round =>
         clear H'
         try clear c1
         try clear c2
         try clear p2
         try clear p6
         try clear c8
         try clear c13
         try clear c16
         try clear c18
         try clear c19
         try clear c20
         try clear c21
         try clear c21b0
         try clear c21b1
         try clear c22
         try clear c22b0
         try clear c24
         try clear c25
         try clear c25b0
         try clear c25b1
         try clear hcz23_0
         try clear hcz23_1
         try clear hcz23_2
         try clear hcz26_0
         try clear hcz26_1
         try clear hcz26_2
         try clear hcz9_0
         try clear hcz9_1
         try clear hcz9_2
         try clear hfz23_0
         try clear hfz23_1
         try clear hfz23_2
         try clear hfz26_0
         try clear hfz26_1
         try clear hfz26_2
         try clear hfz9_0
         try clear hfz9_1
         try clear hfz9_2
         try clear p2
         obtain ⟨x14_3, x15_3, rfl, HA, HK3, HO_7, HO_14, Z0, HB⟩ := hrel
         cases gk with
         | zero => exact absurd HA.out (by simp [w19_AttendApart.l0])
         | succ k3 =>
          have H := HA.out
          clear HA
          simp only [w19_AttendApart.l0] at H
          by_cases c29 : x15_3 < (l1_2.length : Int)
          ·rw [if_pos c29] at H
           have c29b0 : decide (x15_3 < (l1_2.length : Int)) = true := yC c29
           clear c29
           obtain ⟨y538, hy538⟩ : ∃ y_ : List Int, y_ = (([] : List Int)) := ⟨_, rfl⟩
           replace H : (if 0 ≤ x15_3 then (if 0 ≤ (wrap64 (a2 * (wrap64 ((l0.length : Int) / a1_0)))) then (if (wrap64 (a2 * (wrap64 ((l0.length : Int) / a1_0)))) ≤ (wrap64 ((wrap64 (a2 + 1)) * (wrap64 ((l0.length : Int) / a1_0)))) then (if (wrap64 ((wrap64 (a2 + 1)) * (wrap64 ((l0.length : Int) / a1_0)))) ≤ (((rd_T49 l1_2 x15_3).f0).length : Int) then (if y538.length + ((((rd_T49 l1_2 x15_3).f0).take ((wrap64 ((wrap64 (a2 + 1)) * (wrap64 ((l0.length : Int) / a1_0)))) : Int).toNat).drop ((wrap64 (a2 * (wrap64 ((l0.length : Int) / a1_0)))) : Int).toNat).length < 140737488355328 then ((some (([] : List Int) : List Int)).bind fun y546 => (if (wrap64 ((wrap64 (a2 + 1)) * (wrap64 ((l0.length : Int) / a1_0)))) ≤ (((rd_T49 l1_2 x15_3).f1).length : Int) then (if y546.length + ((((rd_T49 l1_2 x15_3).f1).take ((wrap64 ((wrap64 (a2 + 1)) * (wrap64 ((l0.length : Int) / a1_0)))) : Int).toNat).drop ((wrap64 (a2 * (wrap64 ((l0.length : Int) / a1_0)))) : Int).toNat).length < 140737488355328 then (if x14_3.length < 2932031007402 then (w19_AttendApart.l0 k3 l0 t523 (wrap64 (a2 * (wrap64 ((l0.length : Int) / a1_0)))) (wrap64 ((wrap64 (a2 + 1)) * (wrap64 ((l0.length : Int) / a1_0)))) (x14_3 ++ [(⟨(y538 ++ ((((rd_T49 l1_2 x15_3).f0).take ((wrap64 ((wrap64 (a2 + 1)) * (wrap64 ((l0.length : Int) / a1_0)))) : Int).toNat).drop ((wrap64 (a2 * (wrap64 ((l0.length : Int) / a1_0)))) : Int).toNat)), (y546 ++ ((((rd_T49 l1_2 x15_3).f1).take ((wrap64 ((wrap64 (a2 + 1)) * (wrap64 ((l0.length : Int) / a1_0)))) : Int).toNat).drop ((wrap64 (a2 * (wrap64 ((l0.length : Int) / a1_0)))) : Int).toNat))⟩ : S49)]) (wrap64 (x15_3 + 1)) a1_0 a1_1 l1_2) else (none)) else (none)) else (none))) else (none)) else (none)) else (none)) else (none)) else (none)) = some r := by first | (rw [hy538]; with_reducible exact H) | (have H2_ := (yV _ _).symm.trans H; rw [hy538]; with_reducible exact H2_) | (have H2_ := (yV _ _).symm.trans H; with_reducible exact H2_) | with_reducible exact H | (rw [hy538]; exact H) | exact H
           have Ny538 := zK hy538
           clear hy538
           by_cases c30 : 0 ≤ x15_3
           ·rw [if_pos c30] at H
            have c30b0 : decide (0 ≤ x15_3) = true := yC c30
            clear c30
            obtain ⟨ji31, hji31⟩ : ∃ j_ : Int, (wrap64 (a2 * (wrap64 ((l0.length : Int) / a1_0)))) = j_ := ⟨_, rfl⟩
            replace H : (if 0 ≤ (ji31) then (if (ji31) ≤ (wrap64 ((wrap64 (a2 + 1)) * (wrap64 ((l0.length : Int) / a1_0)))) then (if (wrap64 ((wrap64 (a2 + 1)) * (wrap64 ((l0.length : Int) / a1_0)))) ≤ (((rd_T49 l1_2 x15_3).f0).length : Int) then (if y538.length + ((((rd_T49 l1_2 x15_3).f0).take ((wrap64 ((wrap64 (a2 + 1)) * (wrap64 ((l0.length : Int) / a1_0)))) : Int).toNat).drop ((ji31) : Int).toNat).length < 140737488355328 then ((some (([] : List Int) : List Int)).bind fun y546 => (if (wrap64 ((wrap64 (a2 + 1)) * (wrap64 ((l0.length : Int) / a1_0)))) ≤ (((rd_T49 l1_2 x15_3).f1).length : Int) then (if y546.length + ((((rd_T49 l1_2 x15_3).f1).take ((wrap64 ((wrap64 (a2 + 1)) * (wrap64 ((l0.length : Int) / a1_0)))) : Int).toNat).drop ((ji31) : Int).toNat).length < 140737488355328 then (if x14_3.length < 2932031007402 then (w19_AttendApart.l0 k3 l0 t523 (ji31) (wrap64 ((wrap64 (a2 + 1)) * (wrap64 ((l0.length : Int) / a1_0)))) (x14_3 ++ [(⟨(y538 ++ ((((rd_T49 l1_2 x15_3).f0).take ((wrap64 ((wrap64 (a2 + 1)) * (wrap64 ((l0.length : Int) / a1_0)))) : Int).toNat).drop ((ji31) : Int).toNat)), (y546 ++ ((((rd_T49 l1_2 x15_3).f1).take ((wrap64 ((wrap64 (a2 + 1)) * (wrap64 ((l0.length : Int) / a1_0)))) : Int).toNat).drop ((ji31) : Int).toNat))⟩ : S49)]) (wrap64 (x15_3 + 1)) a1_0 a1_1 l1_2) else (none)) else (none)) else (none))) else (none)) else (none)) else (none)) else (none)) = some r := by first | (rw [hji31] at H; exact H) | (simp only [hji31] at H ⊢; exact H)
            have hji31w : (IntKind.i64.wrap (a2 * (wrap64 ((l0.length : Int) / a1_0)))) = ji31 := (i64_w _).trans hji31
            by_cases c32 : 0 ≤ (ji31)
            ·rw [if_pos c32] at H
             have c32b0 := yg c32
             have c32b1 : decide (0 ≤ (ji31)) = true := yC c32
             clear c32
             by_cases c33 : (ji31) ≤ (wrap64 ((wrap64 (a2 + 1)) * (wrap64 ((l0.length : Int) / a1_0))))
             ·rw [if_pos c33] at H
              have c33b0 := yg c33
              have c33b1 : decide ((ji31) ≤ (wrap64 ((wrap64 (a2 + 1)) * (wrap64 ((l0.length : Int) / a1_0))))) = true := yC c33
              by_cases c34 : (wrap64 ((wrap64 (a2 + 1)) * (wrap64 ((l0.length : Int) / a1_0)))) ≤ (((rd_T49 l1_2 x15_3).f0).length : Int)
              ·rw [if_pos c34] at H
               have c34b0 := yg c34
               have c34b1 : decide ((wrap64 ((wrap64 (a2 + 1)) * (wrap64 ((l0.length : Int) / a1_0)))) ≤ (((rd_T49 l1_2 x15_3).f0).length : Int)) = true := yC c34
               by_cases c35 : y538.length + ((((rd_T49 l1_2 x15_3).f0).take ((wrap64 ((wrap64 (a2 + 1)) * (wrap64 ((l0.length : Int) / a1_0)))) : Int).toNat).drop ((ji31) : Int).toNat).length < 140737488355328
               ·rw [if_pos c35] at H
                have LMc35 := zK c35
                clear c35
                obtain ⟨y543, hy543⟩ : ∃ y_ : List Int, y_ = (y538 ++ ((((rd_T49 l1_2 x15_3).f0).take ((wrap64 ((wrap64 (a2 + 1)) * (wrap64 ((l0.length : Int) / a1_0)))) : Int).toNat).drop ((ji31) : Int).toNat)) := ⟨_, rfl⟩
                replace H : ((some (([] : List Int) : List Int)).bind fun y546 => (if (wrap64 ((wrap64 (a2 + 1)) * (wrap64 ((l0.length : Int) / a1_0)))) ≤ (((rd_T49 l1_2 x15_3).f1).length : Int) then (if y546.length + ((((rd_T49 l1_2 x15_3).f1).take ((wrap64 ((wrap64 (a2 + 1)) * (wrap64 ((l0.length : Int) / a1_0)))) : Int).toNat).drop ((ji31) : Int).toNat).length < 140737488355328 then (if x14_3.length < 2932031007402 then (w19_AttendApart.l0 k3 l0 t523 (ji31) (wrap64 ((wrap64 (a2 + 1)) * (wrap64 ((l0.length : Int) / a1_0)))) (x14_3 ++ [(⟨y543, (y546 ++ ((((rd_T49 l1_2 x15_3).f1).take ((wrap64 ((wrap64 (a2 + 1)) * (wrap64 ((l0.length : Int) / a1_0)))) : Int).toNat).drop ((ji31) : Int).toNat))⟩ : S49)]) (wrap64 (x15_3 + 1)) a1_0 a1_1 l1_2) else (none)) else (none)) else (none))) = some r := by first | (rw [hy543]; with_reducible exact H) | (have H2_ := (yV _ _).symm.trans H; rw [hy543]; with_reducible exact H2_) | (have H2_ := (yV _ _).symm.trans H; with_reducible exact H2_) | with_reducible exact H | (rw [hy543]; exact H) | exact H
                have Ny543 := zK hy543
                clear hy543
                obtain ⟨y546, hy546⟩ : ∃ y_ : List Int, y_ = (([] : List Int)) := ⟨_, rfl⟩
                replace H : (if (wrap64 ((wrap64 (a2 + 1)) * (wrap64 ((l0.length : Int) / a1_0)))) ≤ (((rd_T49 l1_2 x15_3).f1).length : Int) then (if y546.length + ((((rd_T49 l1_2 x15_3).f1).take ((wrap64 ((wrap64 (a2 + 1)) * (wrap64 ((l0.length : Int) / a1_0)))) : Int).toNat).drop ((ji31) : Int).toNat).length < 140737488355328 then (if x14_3.length < 2932031007402 then (w19_AttendApart.l0 k3 l0 t523 (ji31) (wrap64 ((wrap64 (a2 + 1)) * (wrap64 ((l0.length : Int) / a1_0)))) (x14_3 ++ [(⟨y543, (y546 ++ ((((rd_T49 l1_2 x15_3).f1).take ((wrap64 ((wrap64 (a2 + 1)) * (wrap64 ((l0.length : Int) / a1_0)))) : Int).toNat).drop ((ji31) : Int).toNat))⟩ : S49)]) (wrap64 (x15_3 + 1)) a1_0 a1_1 l1_2) else (none)) else (none)) else (none)) = some r := by first | (rw [hy546]; with_reducible exact H) | (have H2_ := (yV _ _).symm.trans H; rw [hy546]; with_reducible exact H2_) | (have H2_ := (yV _ _).symm.trans H; with_reducible exact H2_) | with_reducible exact H | (rw [hy546]; exact H) | exact H
                have Ny546 := zK hy546
                clear hy546
                have c36b0 := yg (yB (by first | (with_reducible assumption) | assumption) : 0 ≤ (ji31))
                have c37b0 := yg (yB (by first | (with_reducible assumption) | assumption) : (ji31) ≤ (wrap64 ((wrap64 (a2 + 1)) * (wrap64 ((l0.length : Int) / a1_0)))))
                by_cases c38 : (wrap64 ((wrap64 (a2 + 1)) * (wrap64 ((l0.length : Int) / a1_0)))) ≤ (((rd_T49 l1_2 x15_3).f1).length : Int)
                ·rw [if_pos c38] at H
                 have c38b0 := yg c38
                 have c38b1 : decide ((wrap64 ((wrap64 (a2 + 1)) * (wrap64 ((l0.length : Int) / a1_0)))) ≤ (((rd_T49 l1_2 x15_3).f1).length : Int)) = true := yC c38
                 by_cases c39 : y546.length + ((((rd_T49 l1_2 x15_3).f1).take ((wrap64 ((wrap64 (a2 + 1)) * (wrap64 ((l0.length : Int) / a1_0)))) : Int).toNat).drop ((ji31) : Int).toNat).length < 140737488355328
                 ·rw [if_pos c39] at H
                  have LMc39 := zK c39
                  clear c39
                  obtain ⟨y551, hy551⟩ : ∃ y_ : List Int, y_ = (y546 ++ ((((rd_T49 l1_2 x15_3).f1).take ((wrap64 ((wrap64 (a2 + 1)) * (wrap64 ((l0.length : Int) / a1_0)))) : Int).toNat).drop ((ji31) : Int).toNat)) := ⟨_, rfl⟩
                  replace H : (if x14_3.length < 2932031007402 then (w19_AttendApart.l0 k3 l0 t523 (ji31) (wrap64 ((wrap64 (a2 + 1)) * (wrap64 ((l0.length : Int) / a1_0)))) (x14_3 ++ [(⟨y543, y551⟩ : S49)]) (wrap64 (x15_3 + 1)) a1_0 a1_1 l1_2) else (none)) = some r := by first | (rw [hy551]; with_reducible exact H) | (have H2_ := (yV _ _).symm.trans H; rw [hy551]; with_reducible exact H2_) | (have H2_ := (yV _ _).symm.trans H; with_reducible exact H2_) | with_reducible exact H | (rw [hy551]; exact H) | exact H
                  have Ny551 := zK hy551
                  clear hy551
                  by_cases c40 : x14_3.length < 2932031007402
                  ·rw [if_pos c40] at H
                   have LMc40 := zK c40
                   clear c40
                   obtain ⟨y554, hy554⟩ : ∃ y_ : List (S49), y_ = (x14_3 ++ [(⟨y543, y551⟩ : S49)]) := ⟨_, rfl⟩
                   replace H : (w19_AttendApart.l0 k3 l0 t523 (ji31) (wrap64 ((wrap64 (a2 + 1)) * (wrap64 ((l0.length : Int) / a1_0)))) y554 (wrap64 (x15_3 + 1)) a1_0 a1_1 l1_2) = some r := by first | (rw [hy554]; with_reducible exact H) | (have H2_ := (yV _ _).symm.trans H; rw [hy554]; with_reducible exact H2_) | (have H2_ := (yV _ _).symm.trans H; with_reducible exact H2_) | with_reducible exact H | (rw [hy554]; exact H) | exact H
                   have Ny554 := zK hy554
                   clear hy554
                   have H' := zK H
                   clear H
                   have hcz41_0 : wr.cell? ⟨Z3, 0, none⟩ = some (.int .i64 a1_0) := (zO Z0.out 0).trans rfl
                   have hcz41_1 : wr.cell? ⟨Z3, 1, none⟩ = some (.int .i64 a1_1) := (zO Z0.out 1).trans rfl
                   have hcz41_2 : wr.cell? ⟨Z3, 2, none⟩ = some (.slice A1_2 l1_2.length c1_2) := (zO Z0.out 2).trans rfl
                   have hfz41_0 := yE Z0.out 0
                   have hfz41_1 := yE Z0.out 1
                   have hfz41_2 := yE Z0.out 2
                   obtain ⟨Ao42, co42, eo42⟩ := Kd.S_slice HO_14.out
                   subst eo42
                   try go_wp2
                   have n0_ := zK (zN HO_7.out)
                   have n1_ := zK (Kd.S_drew HO_14.out)
                   have n2_ := zK (zH Z0.out)
                   have n3_ := zK (zE HB.out)
                   clear HO_7 HO_14 Z0 HB
                   have HO_7 := n0_; have HO_14 := n1_; have Z0 := n2_; have HB := n3_
                   clear n0_ n1_ n2_ n3_
                   have p541 : 0 ≤ (x15_3 : Int) := yB (by first | (with_reducible assumption) | assumption)
                   have q541 : x15_3 < (l1_2.length : Int) := yB (by first | (with_reducible assumption) | assumption)
                   obtain ⟨ad541, A541_0, c541_0, A541_1, c541_1, e541, hx541_0, hx541_1, hl541_0, hi541_0, hl541_1, hi541_1⟩ := at_T49 HR1_2.out x15_3 p541 q541
                   have hw541_1 := hx541_1
                   have hw541_0 := hx541_0
                   cases e541
                   replace hx541_0 := (HB.out.cell (World.block_lt_of_cell? w _ hx541_0)).trans hx541_0
                   replace hx541_1 := (HB.out.cell (World.block_lt_of_cell? w _ hx541_1)).trans hx541_1
                   have HR541_0 := zK hi541_0
                   have HC541_0 := zK hl541_0
                   clear hi541_0 hl541_0
                   have HR541_1 := zK hi541_1
                   have HC541_1 := zK hl541_1
                   clear hi541_1 hl541_1
                   replace p541 := yg p541
                   replace q541 := yg q541
                   obtain ⟨i044, hi044, _, hsz44, _⟩ := yj info53
                   obtain ⟨A44, hcut44, hA44, hC44⟩ := print_mid_of (P := Try.prog) (Value.int .i8) 0 22 53 .i64 .i64 Try.underlying22 hi044 hsz44 A541_0 c541_0 ((rd_T49 l1_2 x15_3).f0) (ji31) (wrap64 ((wrap64 (a2 + 1)) * (wrap64 ((l0.length : Int) / a1_0)))) (yB (by first | (with_reducible assumption) | assumption)) (by first | omega | exact yB (by first | (with_reducible assumption) | assumption)) (yB (by first | (with_reducible assumption) | assumption)) HC541_0.out
                   have HR542 := zK (Kd.C_of_reads (h1 := fun _ => rfl) (hA44 _ (Kd.reads_of_C HR541_0.out)))
                   have HC542 := zK hC44
                   clear hA44 hC44 hi044 hsz44
                   have p549 : 0 ≤ (x15_3 : Int) := yB (by first | (with_reducible assumption) | assumption)
                   have q549 : x15_3 < (l1_2.length : Int) := yB (by first | (with_reducible assumption) | assumption)
                   obtain ⟨ad549, A549_0, c549_0, A549_1, c549_1, e549, hx549_0, hx549_1, hl549_0, hi549_0, hl549_1, hi549_1⟩ := at_T49 HR1_2.out x15_3 p549 q549
                   have hw549_1 := hx549_1
                   have hw549_0 := hx549_0
                   obtain rfl : ad541 = ad549 := (by injection e549)
                   replace hx549_0 := (HB.out.cell (World.block_lt_of_cell? w _ hx549_0)).trans hx549_0
                   replace hx549_1 := (HB.out.cell (World.block_lt_of_cell? w _ hx549_1)).trans hx549_1
                   have HR549_0 := zK hi549_0
                   have HC549_0 := zK hl549_0
                   clear hi549_0 hl549_0
                   have HR549_1 := zK hi549_1
                   have HC549_1 := zK hl549_1
                   clear hi549_1 hl549_1
                   replace p549 := yg p549
                   replace q549 := yg q549
                   have ea_ := yY (hx541_0.symm.trans hx549_0)
                   injection ea_ with ea_ en_ ec_
                   subst ea_
                   subst ec_
                   clear en_
                   have ea_ := yY (hx541_1.symm.trans hx549_1)
                   injection ea_ with ea_ en_ ec_
                   subst ea_
                   subst ec_
                   clear en_
                   obtain ⟨i045, hi045, _, hsz45, _⟩ := yj info53
                   obtain ⟨A45, hcut45, hA45, hC45⟩ := print_mid_of (P := Try.prog) (Value.int .i8) 0 22 53 .i64 .i64 Try.underlying22 hi045 hsz45 A541_1 c541_1 ((rd_T49 l1_2 x15_3).f1) (ji31) (wrap64 ((wrap64 (a2 + 1)) * (wrap64 ((l0.length : Int) / a1_0)))) (yB (by first | (with_reducible assumption) | assumption)) (by first | omega | exact yB (by first | (with_reducible assumption) | assumption)) (yB (by first | (with_reducible assumption) | assumption)) HC549_1.out
                   have HR550 := zK (Kd.C_of_reads (h1 := fun _ => rfl) (hA45 _ (Kd.reads_of_C HR549_1.out)))
                   have HC550 := zK hC45
                   clear hA45 hC45 hi045 hsz45
                   refine start_ (n := 27) (S := fun w' => w'.cell? ⟨Z3, 0, none⟩ = some (.int .i64 a1_0) ∧ w'.cell? ⟨Z3, 1, none⟩ = some (.int .i64 a1_1) ∧ w'.cell? ⟨Z3, 2, none⟩ = some (.slice (some ad541) l1_2.length c1_2) ∧ w'.cell? (ad541.add ((x15_3).toNat * 2)) = some (.slice A541_0 ((rd_T49 l1_2 x15_3).f0).length c541_0) ∧ w'.cell? ⟨(ad541.add ((x15_3).toNat * 2)).block, (ad541.add ((x15_3).toNat * 2)).off + 1, none⟩ = some (.slice A541_1 ((rd_T49 l1_2 x15_3).f1).length c541_1) ∧ w'.cell? (ad541.add ((x15_3).toNat * 2)) = some (.slice A541_0 ((rd_T49 l1_2 x15_3).f0).length c541_0) ∧ w'.cell? ⟨(ad541.add ((x15_3).toNat * 2)).block, (ad541.add ((x15_3).toNat * 2)).off + 1, none⟩ = some (.slice A541_1 ((rd_T49 l1_2 x15_3).f1).length c541_1)) (ds := []) #[false, false, false, false, false, false, false, false, false, false, false, false, false, false, false, false, false, false, false, false, false, false, false, false, false, false, false] (by kernel_rfl) rfl rfl ⟨(zO Z0.out 0).trans rfl, (zO Z0.out 1).trans rfl, (zO Z0.out 2).trans rfl, ((HB.out.cell (World.block_lt_of_cell? w _ hw541_0)).trans hw541_0), ((HB.out.cell (World.block_lt_of_cell? w _ hw541_1)).trans hw541_1), ((HB.out.cell (World.block_lt_of_cell? w _ hw549_0)).trans hw549_0), ((HB.out.cell (World.block_lt_of_cell? w _ hw549_1)).trans hw549_1)⟩ (fun hHeld => ?_); refine with_tabW w19_AttendApart.tab13 w19_AttendApart.bits13 (fun HT_ HW_ => ?_)
                   generalize wr.drew = w43 at HO_7 HO_14 Z0 HB HR541_0 HR541_1 HR542 HR549_0 HR549_1 HR550 hx541_0 hx541_1 hx549_0 hx549_1 hHeld ⊢
                   refine pure_ (i := 0) (N := some 80) (v := ?_) (a' := ?_) #[true, false, false, false, false, false, false, false, false, false, false, false, false, false, false, false, false, false, false, false, false, false, false, false, false, false, false] rfl rfl (any_of HT_.out (by kernel_rfl)) (fun _ _ _ h => h) (Or.inl ⟨by rfl, ?_⟩) ?_ ?_
                   rotate_left
                   ·intro w'
                    go_simp
                    with_reducible rfl
                   rotate_left
                   ·simp only [Act.put, zA, zB, zC, i64_w, i32_w]
                    rfl
                   refine pure_ (i := 2) (N := some 82) (v := ?_) (a' := ?_) #[true, false, true, false, false, false, false, false, false, false, false, false, false, false, false, false, false, false, false, false, false, false, false, false, false, false, false] rfl rfl (any_of HT_.out (by kernel_rfl)) (fun _ _ _ h => h) (Or.inl ⟨by rfl, ?_⟩) ?_ ?_
                   rotate_left
                   ·intro w'
                    go_simp
                    with_reducible rfl
                   rotate_left
                   ·simp only [Act.put, zA, zB, zC, i64_w, i32_w]
                    rfl
                   refine pure_ (i := 4) (N := some 84) (v := ?_) (a' := ?_) #[true, false, true, false, true, false, false, false, false, false, false, false, false, false, false, false, false, false, false, false, false, false, false, false, false, false, false] rfl rfl (any_of HT_.out (by kernel_rfl)) (fun _ _ _ h => h) (Or.inl ⟨by rfl, ?_⟩) ?_ ?_
                   rotate_left
                   ·intro w'
                    go_simp
                    with_reducible rfl
                   rotate_left
                   ·simp only [Act.put, zA, zB, zC, i64_w, i32_w]
                    rfl
                   refine pure_ (i := 8) (N := some 88) (v := ?_) (a' := ?_) #[true, false, true, false, true, false, false, false, true, false, false, false, false, false, false, false, false, false, false, false, false, false, false, false, false, false, false] rfl rfl (any_of HT_.out (by kernel_rfl)) (fun _ _ _ h => h) (Or.inl ⟨by rfl, ?_⟩) ?_ ?_
                   rotate_left
                   ·intro w'
                    go_simp
                    with_reducible rfl
                   rotate_left
                   ·simp only [Act.put, zA, zB, zC, i64_w, i32_w]
                    rfl
                   refine pure_ (i := 9) (N := some 89) (v := ?_) (a' := ?_) #[true, false, true, false, true, false, false, false, true, true, false, false, false, false, false, false, false, false, false, false, false, false, false, false, false, false, false] rfl rfl (any_of HT_.out (by kernel_rfl)) (fun _ _ _ h => h) (Or.inl ⟨by rfl, ?_⟩) ?_ ?_
                   rotate_left
                   ·intro w'
                    go_simp
                    with_reducible rfl
                   rotate_left
                   ·simp only [Act.put, zA, zB, zC, i64_w, i32_w]
                    rfl
                   refine pure_ (i := 13) (N := some 93) (v := ?_) (a' := ?_) #[true, false, true, false, true, false, false, false, true, true, false, false, false, true, false, false, false, false, false, false, false, false, false, false, false, false, false] rfl rfl (any_of HT_.out (by kernel_rfl)) (fun _ _ _ h => h) (Or.inl ⟨by rfl, ?_⟩) ?_ ?_
                   rotate_left
                   ·intro w'
                    go_simp
                    with_reducible rfl
                   rotate_left
                   ·simp only [Act.put, zA, zB, zC, i64_w, i32_w]
                    rfl
                   refine pure_ (i := 15) (N := some 95) (v := ?_) (a' := ?_) #[true, false, true, false, true, false, false, false, true, true, false, false, false, true, false, true, false, false, false, false, false, false, false, false, false, false, false] rfl rfl (any_of HT_.out (by kernel_rfl)) (fun _ _ _ h => h) (Or.inl ⟨by rfl, ?_⟩) ?_ ?_
                   rotate_left
                   ·intro w'
                    go_simp
                    with_reducible rfl
                   rotate_left
                   ·simp only [Act.put, zA, zB, zC, i64_w, i32_w]
                    rfl
                   refine pure_ (i := 19) (N := some 99) (v := ?_) (a' := ?_) #[true, false, true, false, true, false, false, false, true, true, false, false, false, true, false, true, false, false, false, true, false, false, false, false, false, false, false] rfl rfl (any_of HT_.out (by kernel_rfl)) (fun _ _ _ h => h) (Or.inl ⟨by rfl, ?_⟩) ?_ ?_
                   rotate_left
                   ·intro w'
                    go_simp
                    with_reducible rfl
                   rotate_left
                   ·simp only [Act.put, zA, zB, zC, i64_w, i32_w]
                    rfl
                   refine pure_ (i := 20) (N := some 100) (v := ?_) (a' := ?_) #[true, false, true, false, true, false, false, false, true, true, false, false, false, true, false, true, false, false, false, true, true, false, false, false, false, false, false] rfl rfl (any_of HT_.out (by kernel_rfl)) (fun _ _ _ h => h) (Or.inl ⟨by rfl, ?_⟩) ?_ ?_
                   rotate_left
                   ·intro w'
                    go_simp
                    with_reducible rfl
                   rotate_left
                   ·simp only [Act.put, zA, zB, zC, i64_w, i32_w]
                    rfl
                   refine take_ (i := 3) (N := some 83) (v := ?_) (a' := ?_) #[true, false, true, true, true, false, false, false, true, true, false, false, false, true, false, true, false, false, false, true, true, false, false, false, false, false, false] rfl rfl (take_ofW HT_.out HW_.out (by kernel_rfl)) (fun _ _ _ h => h) (Or.inl ⟨by rfl, ?_⟩) hHeld ?_ ?_
                   rotate_left
                   ·rintro w' ⟨s0, s1, s2, s3, s4, s5, s6⟩
                    go_simp
                    with_reducible rfl
                   rotate_left
                   ·simp only [Act.put, zA, zB, zC, i64_w, i32_w]
                    rfl
                   refine pure_ (i := 5) (N := some 85) (v := ?_) (a' := ?_) #[true, false, true, true, true, true, false, false, true, true, false, false, false, true, false, true, false, false, false, true, true, false, false, false, false, false, false] rfl rfl (any_of HT_.out (by kernel_rfl)) (fun _ _ _ h => h) (Or.inl ⟨by rfl, ?_⟩) ?_ ?_
                   rotate_left
                   ·intro w'
                    go_simp
                    with_reducible rfl
                   rotate_left
                   ·simp only [Act.put, zA, zB, zC, i64_w, i32_w]
                    rfl
                   refine pure_ (i := 6) (N := some 86) (v := ?_) (a' := ?_) #[true, false, true, true, true, true, true, false, true, true, false, false, false, true, false, true, false, false, false, true, true, false, false, false, false, false, false] rfl rfl (any_of HT_.out (by kernel_rfl)) (fun _ _ _ h => h) (Or.inl ⟨by rfl, ?_⟩) ?_ ?_
                   rotate_left
                   ·intro w'
                    go_simp
                    with_reducible rfl
                   rotate_left
                   ·simp only [Act.put, zA, zB, zC, i64_w, i32_w]
                    rfl
                   refine take_ (i := 7) (N := some 87) (v := ?_) (a' := ?_) #[true, false, true, true, true, true, true, true, true, true, false, false, false, true, false, true, false, false, false, true, true, false, false, false, false, false, false] rfl rfl (take_ofW HT_.out HW_.out (by kernel_rfl)) (fun _ _ _ h => h) (Or.inl ⟨by rfl, ?_⟩) hHeld ?_ ?_
                   rotate_left
                   ·rintro w' ⟨s0, s1, s2, s3, s4, s5, s6⟩
                    go_simp
                    with_reducible rfl
                   rotate_left
                   ·simp only [Act.put, zA, zB, zC, i64_w, i32_w]
                    rfl
                   refine pure_ (i := 10) (N := some 90) (v := ?_) (a' := ?_) #[true, false, true, true, true, true, true, true, true, true, true, false, false, true, false, true, false, false, false, true, true, false, false, false, false, false, false] rfl rfl (any_of HT_.out (by kernel_rfl)) (fun _ _ _ h => h) (Or.inl ⟨by rfl, ?_⟩) ?_ ?_
                   rotate_left
                   ·intro w'
                    go_simp
                    with_reducible rfl
                   rotate_left
                   ·simp only [Act.put, zA, zB, zC, i64_w, i32_w]
                    rfl
                   refine take_ (i := 14) (N := some 94) (v := ?_) (a' := ?_) #[true, false, true, true, true, true, true, true, true, true, true, false, false, true, true, true, false, false, false, true, true, false, false, false, false, false, false] rfl rfl (take_ofW HT_.out HW_.out (by kernel_rfl)) (fun _ _ _ h => h) (Or.inl ⟨by rfl, ?_⟩) hHeld ?_ ?_
                   rotate_left
                   ·rintro w' ⟨s0, s1, s2, s3, s4, s5, s6⟩
                    go_simp
                    with_reducible rfl
                   rotate_left
                   ·simp only [Act.put, zA, zB, zC, i64_w, i32_w]
                    rfl
                   refine pure_ (i := 16) (N := some 96) (v := ?_) (a' := ?_) #[true, false, true, true, true, true, true, true, true, true, true, false, false, true, true, true, true, false, false, true, true, false, false, false, false, false, false] rfl rfl (any_of HT_.out (by kernel_rfl)) (fun _ _ _ h => h) (Or.inl ⟨by rfl, ?_⟩) ?_ ?_
                   rotate_left
                   ·intro w'
                    go_simp
                    with_reducible rfl
                   rotate_left
                   ·simp only [Act.put, zA, zB, zC, i64_w, i32_w]
                    rfl
                   refine pure_ (i := 17) (N := some 97) (v := ?_) (a' := ?_) #[true, false, true, true, true, true, true, true, true, true, true, false, false, true, true, true, true, true, false, true, true, false, false, false, false, false, false] rfl rfl (any_of HT_.out (by kernel_rfl)) (fun _ _ _ h => h) (Or.inl ⟨by rfl, ?_⟩) ?_ ?_
                   rotate_left
                   ·intro w'
                    go_simp
                    with_reducible rfl
                   rotate_left
                   ·simp only [Act.put, zA, zB, zC, i64_w, i32_w]
                    rfl
                   refine take_ (i := 18) (N := some 98) (v := ?_) (a' := ?_) #[true, false, true, true, true, true, true, true, true, true, true, false, false, true, true, true, true, true, true, true, true, false, false, false, false, false, false] rfl rfl (take_ofW HT_.out HW_.out (by kernel_rfl)) (fun _ _ _ h => h) (Or.inl ⟨by rfl, ?_⟩) hHeld ?_ ?_
                   rotate_left
                   ·rintro w' ⟨s0, s1, s2, s3, s4, s5, s6⟩
                    go_simp
                    with_reducible rfl
                   rotate_left
                   ·simp only [Act.put, zA, zB, zC, i64_w, i32_w]
                    rfl
                   refine pure_ (i := 21) (N := some 101) (v := ?_) (a' := ?_) #[true, false, true, true, true, true, true, true, true, true, true, false, false, true, true, true, true, true, true, true, true, true, false, false, false, false, false] rfl rfl (any_of HT_.out (by kernel_rfl)) (fun _ _ _ h => h) (Or.inl ⟨by rfl, ?_⟩) ?_ ?_
                   rotate_left
                   ·intro w'
                    go_simp
                    with_reducible rfl
                   rotate_left
                   ·simp only [Act.put, zA, zB, zC, i64_w, i32_w]
                    rfl
                   refine join_ (σ := Value × Value × Value) 5 #[true, true, true, true, true, true, true, true, true, true, true, true, true, true, true, true, true, true, true, true, true, true, false, false, false, false, false] (fun s_ => [(81, s_.1), (91, s_.2.1), (92, s_.2.2)]) (fun s_ w' => (w'.cell? ⟨Z3, 0, none⟩ = some (.int .i64 a1_0) ∧ w'.cell? ⟨Z3, 1, none⟩ = some (.int .i64 a1_1) ∧ w'.cell? ⟨Z3, 2, none⟩ = some (.slice (some ad541) l1_2.length c1_2) ∧ w'.cell? (ad541.add ((x15_3).toNat * 2)) = some (.slice A541_0 ((rd_T49 l1_2 x15_3).f0).length c541_0) ∧ w'.cell? ⟨(ad541.add ((x15_3).toNat * 2)).block, (ad541.add ((x15_3).toNat * 2)).off + 1, none⟩ = some (.slice A541_1 ((rd_T49 l1_2 x15_3).f1).length c541_1) ∧ w'.cell? (ad541.add ((x15_3).toNat * 2)) = some (.slice A541_0 ((rd_T49 l1_2 x15_3).f0).length c541_0) ∧ w'.cell? ⟨(ad541.add ((x15_3).toNat * 2)).block, (ad541.add ((x15_3).toNat * 2)).off + 1, none⟩ = some (.slice A541_1 ((rd_T49 l1_2 x15_3).f1).length c541_1)) ∧ (Kd.R (Kd.int .i8) 53 w' w.heap.size (fun k_ => some k_ ≠ (s_.2.2 : Value).ownBlock ∧ some k_ ≠ (v524 : Value).ownBlock) s_.2.1 y543) ∧ (Kd.R (Kd.int .i8) 53 w' w.heap.size (fun k_ => some k_ ≠ (s_.2.1 : Value).ownBlock ∧ some k_ ≠ (v524 : Value).ownBlock) s_.2.2 y546) ∧ (Kd.S k49 49 w' w.heap.size (fun k_ => some k_ ≠ (s_.2.1 : Value).ownBlock ∧ some k_ ≠ (s_.2.2 : Value).ownBlock ∧ some k_ ≠ (v524 : Value).ownBlock) (.slice Ao42 x14_3.length co42) x14_3) ∧ (Kd.R (Kd.int .i8) 53 w' w.heap.size (fun k_ => some k_ ≠ (s_.2.1 : Value).ownBlock ∧ some k_ ≠ (s_.2.2 : Value).ownBlock) v524 t523) ∧ (w'.heap[Z3]? = some (.cells #[.int .i64 a1_0, .int .i64 a1_1, .slice (some ad541) l1_2.length c1_2] 43 (0, 0))) ∧ (Below w.heap.size w w')) ?_ ?_
                   rotate_left
                   ·intro hCont
                    refine two_ (i := 1) (j := 12) (Ni := some 81) (Nj := some 92) #[true, true, true, true, true, true, true, true, true, true, true, false, false, true, true, true, true, true, true, true, true, true, false, false, false, false, false] #[true, false, true, true, true, true, true, true, true, true, true, false, true, true, true, true, true, true, true, true, true, true, false, false, false, false, false] rfl rfl rfl rfl (two_of HT_.out (by kernel_rfl)) (by decide) (by decide) (fun K hK => ?_) (fun K hK => ?_)
                    ·skip
                     refine Kd.R_lit_step (Kd.int .i8) _ 53 ?hg (N := 81) ?hd (xs := ([] : List Int)) (inner := []) (ok := fun _ => True) (okp := fun _ => True) ?hr ?hp (fun _ hk => hk) trivial (Below.refl _ _) (yN _) (by simp) ?_; (case hd => rfl); (case hg => rfl); (case hr => first | (go_simp; done) | (go_simp; rfl)); (case hp => exact (Reps.none _ _))
                     intro v539 w46 ho47 hb hg_ hnew_
                     clear hg_ hnew_
                     (first | rw [← Ny538.out] at ho47 | (simp only [Int.reduceToNat] at ho47; rw [← Ny538.out] at ho47))
                     have n0_ := zK (Kd.R_elder' (by (with_reducible repeat (first | apply zL | apply zM | apply zN)); exact HO_7.out) (Kd.R_base ho47) hb)
                     have n1_ := zK (Kd.S_elder' (by (with_reducible repeat (first | apply Kd.S_alloc | apply Kd.S_drewN | apply Kd.S_drew)); exact HO_14.out) (Kd.R_base ho47) hb)
                     have n2_ := zK (Kd.R_lower (Kd.R_new' ho47 (Kd.R_lt (by (with_reducible repeat (first | apply zL | apply zM | apply zN)); exact HO_7.out))) (yK (by repeat (first | (with_reducible first | exact HB.out | apply zJ | apply zD | apply zE | refine zI ?_ Z1.out) | exact HB.out))))
                     have n3_ := zK (zP (g := Z3) (o := .cells #[.int .i64 a1_0, .int .i64 a1_1, .slice (some ad541) l1_2.length c1_2] 43 (0, 0)) (by (with_reducible repeat (first | refine zF ?_ _ | refine zH ?_ | refine zG ?_ _)); exact Z0.out) hb)
                     have n4_ := zK (yL (by repeat (first | (with_reducible first | exact HB.out | apply zJ | apply zD | apply zE | refine zI ?_ Z1.out) | exact HB.out)) hb)
                     clear HO_7 HO_14 Z0 HB
                     have HO_7 := n0_; have HO_14 := n1_; have HO540 := n2_; have Z0 := n3_; have HB := n4_
                     clear n0_ n1_ n2_ n3_ n4_ hb ho47
                     refine hK.out _ _ ⟨(zO Z0.out 0).trans rfl, (zO Z0.out 1).trans rfl, (zO Z0.out 2).trans rfl, ((HB.out.cell (World.block_lt_of_cell? w _ hw541_0)).trans hw541_0), ((HB.out.cell (World.block_lt_of_cell? w _ hw541_1)).trans hw541_1), ((HB.out.cell (World.block_lt_of_cell? w _ hw549_0)).trans hw549_0), ((HB.out.cell (World.block_lt_of_cell? w _ hw549_1)).trans hw549_1)⟩ (fun hHeld => ?_)
                     clear hK K
                     refine norm_ (a' := ?_) ?_ ?_
                     rotate_left
                     ·show Act.put _ (some 81) _ = _
                      simp only [Act.put, zA, zB, zC, i64_w, i32_w]
                      rfl
                     refine two_ (i := 11) (j := 12) (Ni := some 91) (Nj := some 92) #[true, true, true, true, true, true, true, true, true, true, true, true, false, true, true, true, true, true, true, true, true, true, false, false, false, false, false] #[true, true, true, true, true, true, true, true, true, true, true, false, true, true, true, true, true, true, true, true, true, true, false, false, false, false, false] rfl rfl rfl rfl (two_of HT_.out (by kernel_rfl)) (by decide) (by decide) (fun K hK => ?_) (fun K hK => ?_)
                     ·skip
                      refine Kd.R_append_rows_step (Kd.int .i8) (w0 := w) w.heap.size (by rfl) (.tmp 81) (.tmp 90) 22 53 (.int .i8 0) 1 rfl Try.underlying22 info53 rfl (by decide) (by omega) v539 y538 ((((rd_T49 l1_2 x15_3).f0).take ((wrap64 ((wrap64 (a2 + 1)) * (wrap64 ((l0.length : Int) / a1_0)))) : Int).toNat).drop ((ji31) : Int).toNat) _ _ _ (fun k_ => some k_ ≠ (v524 : Value).ownBlock) (fun _ => False) rfl rfl ?aO ?aR (fun _ _ h => h) (fun _ h => h.elim) ?aF ?aB ?aS ?aL ?_
                      (case aR => first | (rw [← show ((((rd_T49 l1_2 x15_3).f0).take ((wrap64 ((wrap64 (a2 + 1)) * (wrap64 ((l0.length : Int) / a1_0)))) : Int).toNat).drop ((ji31) : Int).toNat).length = ((wrap64 ((wrap64 (a2 + 1)) * (wrap64 ((l0.length : Int) / a1_0)))).toNat - (ji31).toNat) from (by rw [yG, yF]; have h_ : ((wrap64 ((wrap64 (a2 + 1)) * (wrap64 ((l0.length : Int) / a1_0)))) : Int) ≤ (((rd_T49 l1_2 x15_3).f0).length : Int) := yB (by first | (with_reducible assumption) | assumption); omega)]; repeat (first | exact (yc HR542.out HB.out) | (with_reducible refine yS ?_ _) | (with_reducible refine yT ?_ _) | (with_reducible refine yU ?_))) | (repeat (first | exact (yc HR542.out HB.out) | (with_reducible refine yS ?_ _) | (with_reducible refine yT ?_ _) | (with_reducible refine yU ?_))))
                      (case aB => exact (by repeat (first | (with_reducible first | exact HB.out | apply zJ | apply zD | apply zE | refine zI ?_ Z1.out) | exact HB.out)))
                      (case aF => exact (fun k_ hk => Kd.fresh' (Kd.R_lt (by (with_reducible repeat (first | apply zL | apply zM | apply zN)); exact HO_7.out)) k_ hk))
                      (case aO => exact (by (with_reducible repeat (first | apply zL | apply zM | apply zN)); exact yd HO540.out (fun _ hk => hk.2)))
                      (case aS => exact (yK (by repeat (first | (with_reducible first | exact HB.out | apply zJ | apply zD | apply zE | refine zI ?_ Z1.out) | exact HB.out))))
                      (case aL => have := LMc35.out; have hlx_ := (show ((((rd_T49 l1_2 x15_3).f0).take ((wrap64 ((wrap64 (a2 + 1)) * (wrap64 ((l0.length : Int) / a1_0)))) : Int).toNat).drop ((ji31) : Int).toNat).length = ((wrap64 ((wrap64 (a2 + 1)) * (wrap64 ((l0.length : Int) / a1_0)))).toNat - (ji31).toNat) from (by rw [yG, yF]; have h_ : ((wrap64 ((wrap64 (a2 + 1)) * (wrap64 ((l0.length : Int) / a1_0)))) : Int) ≤ (((rd_T49 l1_2 x15_3).f0).length : Int) := yB (by first | (with_reducible assumption) | assumption); omega)); omega)
                      intro v544 w48 ho hb hg hat
                      rw [← Ny543.out] at ho
                      have n0_ := zK (Kd.R_after (ok := (fun _ => True)) (by (with_reducible repeat (first | apply zL | apply zM | apply zN)); exact HO_7.out) hg hat)
                      have n1_ := zK (Kd.S_after (ok := (fun k_ => some k_ ≠ (v524 : Value).ownBlock)) (by (with_reducible repeat (first | apply Kd.S_alloc | apply Kd.S_drewN | apply Kd.S_drew)); exact HO_14.out) hg hat)
                      have n2_ := zK (blk_grown (g := Z3) (o := .cells #[.int .i64 a1_0, .int .i64 a1_1, .slice (some ad541) l1_2.length c1_2] 43 (0, 0)) (by (with_reducible repeat (first | refine zF ?_ _ | refine zH ?_ | refine zG ?_ _)); exact Z0.out) hg (Kd.R_ne HO540.out Z0.out (by decide)))
                      have n3_ := zK (hb)
                      have n4_ := zK (ho)
                      clear HO_7 HO_14 Z0 HB HO540
                      have HO_7 := n0_; have HO_14 := n1_; have Z0 := n2_; have HB := n3_; have HO545 := n4_
                      clear n0_ n1_ n2_ n3_ n4_ ho hb hg hat
                      refine hK.out _ _ ⟨(zO Z0.out 0).trans rfl, (zO Z0.out 1).trans rfl, (zO Z0.out 2).trans rfl, ((HB.out.cell (World.block_lt_of_cell? w _ hw541_0)).trans hw541_0), ((HB.out.cell (World.block_lt_of_cell? w _ hw541_1)).trans hw541_1), ((HB.out.cell (World.block_lt_of_cell? w _ hw549_0)).trans hw549_0), ((HB.out.cell (World.block_lt_of_cell? w _ hw549_1)).trans hw549_1)⟩ (fun hHeld => ?_)
                      clear hK K
                      refine norm_ (a' := ?_) ?_ ?_
                      rotate_left
                      ·show Act.put _ (some 91) _ = _
                       simp only [Act.put, zA, zB, zC, i64_w, i32_w]
                       rfl
                      refine one_ (i := 12) (N := some 92) #[true, true, true, true, true, true, true, true, true, true, true, true, true, true, true, true, true, true, true, true, true, true, false, false, false, false, false] rfl rfl (one_of HT_.out (by kernel_rfl)) (by decide) (fun K hK => ?_)
                      refine Kd.R_lit_step (Kd.int .i8) _ 53 ?hg (N := 92) ?hd (xs := ([] : List Int)) (inner := []) (ok := fun _ => True) (okp := fun _ => True) ?hr ?hp (fun _ hk => hk) trivial (Below.refl _ _) (yN _) (by simp) ?_; (case hd => rfl); (case hg => rfl); (case hr => first | (go_simp; done) | (go_simp; rfl)); (case hp => exact (Reps.none _ _))
                      intro v547 w49 ho50 hb hg_ hnew_
                      clear hg_ hnew_
                      (first | rw [← Ny546.out] at ho50 | (simp only [Int.reduceToNat] at ho50; rw [← Ny546.out] at ho50))
                      have n0_ := zK (Kd.R_elder' (by (with_reducible repeat (first | apply zL | apply zM | apply zN)); exact HO_7.out) (Kd.R_base ho50) hb)
                      have n1_ := zK (Kd.S_elder' (by (with_reducible repeat (first | apply Kd.S_alloc | apply Kd.S_drewN | apply Kd.S_drew)); exact HO_14.out) (Kd.R_base ho50) hb)
                      have n2_ := zK (Kd.R_elder' (by (with_reducible repeat (first | apply zL | apply zM | apply zN)); exact HO545.out) (Kd.R_base ho50) hb)
                      have n3_ := zK (Kd.R_lower (Kd.R_new' (Kd.R_new' ho50 (Kd.R_lt (by (with_reducible repeat (first | apply zL | apply zM | apply zN)); exact HO_7.out))) (Kd.R_lt (by (with_reducible repeat (first | apply zL | apply zM | apply zN)); exact HO545.out))) (yK (by repeat (first | (with_reducible first | exact HB.out | apply zJ | apply zD | apply zE | refine zI ?_ Z1.out) | exact HB.out))))
                      have n4_ := zK (zP (g := Z3) (o := .cells #[.int .i64 a1_0, .int .i64 a1_1, .slice (some ad541) l1_2.length c1_2] 43 (0, 0)) (by (with_reducible repeat (first | refine zF ?_ _ | refine zH ?_ | refine zG ?_ _)); exact Z0.out) hb)
                      have n5_ := zK (yL (by repeat (first | (with_reducible first | exact HB.out | apply zJ | apply zD | apply zE | refine zI ?_ Z1.out) | exact HB.out)) hb)
                      clear HO_7 HO_14 HO545 Z0 HB
                      have HO_7 := n0_; have HO_14 := n1_; have HO545 := n2_; have HO548 := n3_; have Z0 := n4_; have HB := n5_
                      clear n0_ n1_ n2_ n3_ n4_ n5_ hb ho50
                      refine hK.out _ _ ⟨(zO Z0.out 0).trans rfl, (zO Z0.out 1).trans rfl, (zO Z0.out 2).trans rfl, ((HB.out.cell (World.block_lt_of_cell? w _ hw541_0)).trans hw541_0), ((HB.out.cell (World.block_lt_of_cell? w _ hw541_1)).trans hw541_1), ((HB.out.cell (World.block_lt_of_cell? w _ hw549_0)).trans hw549_0), ((HB.out.cell (World.block_lt_of_cell? w _ hw549_1)).trans hw549_1)⟩ (fun hHeld => ?_)
                      clear hK K
                      refine norm_ (a' := ?_) ?_ ?_
                      rotate_left
                      ·show Act.put _ (some 92) _ = _
                       simp only [Act.put, zA, zB, zC, i64_w, i32_w]
                       rfl
                      exact norm_ (by simp only [putAll, Act.put, zA, zB, zC]) (hCont (v539, v544, v547) _ ⟨hHeld, (by (with_reducible repeat (first | apply zL | apply zM | apply zN)); exact yd HO545.out (fun _ hk => ⟨hk.2, hk.1⟩)), (by (with_reducible repeat (first | apply zL | apply zM | apply zN)); exact yd HO548.out (fun _ hk => ⟨hk.2, hk.1.2⟩)), (by (with_reducible repeat (first | apply Kd.S_alloc | apply Kd.S_drewN | apply Kd.S_drew)); exact Kd.S_mono HO_14.out (fun _ hk => ⟨hk.1.2, ⟨hk.2, hk.1.1⟩⟩)), (by (with_reducible repeat (first | apply zL | apply zM | apply zN)); exact yd HO_7.out (fun _ hk => ⟨hk.1.2, hk.2⟩)), (by (with_reducible repeat (first | refine zF ?_ _ | refine zH ?_ | refine zG ?_ _)); exact Z0.out), (by repeat (first | (with_reducible first | exact HB.out | apply zJ | apply zD | apply zE | refine zI ?_ Z1.out) | exact HB.out))⟩)
                     ·skip
                      refine Kd.R_lit_step (Kd.int .i8) _ 53 ?hg (N := 92) ?hd (xs := ([] : List Int)) (inner := []) (ok := fun _ => True) (okp := fun _ => True) ?hr ?hp (fun _ hk => hk) trivial (Below.refl _ _) (yN _) (by simp) ?_; (case hd => rfl); (case hg => rfl); (case hr => first | (go_simp; done) | (go_simp; rfl)); (case hp => exact (Reps.none _ _))
                      intro v547 w48 ho49 hb hg_ hnew_
                      clear hg_ hnew_
                      (first | rw [← Ny546.out] at ho49 | (simp only [Int.reduceToNat] at ho49; rw [← Ny546.out] at ho49))
                      have n0_ := zK (Kd.R_elder' (by (with_reducible repeat (first | apply zL | apply zM | apply zN)); exact HO_7.out) (Kd.R_base ho49) hb)
                      have n1_ := zK (Kd.S_elder' (by (with_reducible repeat (first | apply Kd.S_alloc | apply Kd.S_drewN | apply Kd.S_drew)); exact HO_14.out) (Kd.R_base ho49) hb)
                      have n2_ := zK (Kd.R_elder' (by (with_reducible repeat (first | apply zL | apply zM | apply zN)); exact HO540.out) (Kd.R_base ho49) hb)
                      have n3_ := zK (Kd.R_lower (Kd.R_new' (Kd.R_new' ho49 (Kd.R_lt (by (with_reducible repeat (first | apply zL | apply zM | apply zN)); exact HO_7.out))) (Kd.R_lt (by (with_reducible repeat (first | apply zL | apply zM | apply zN)); exact HO540.out))) (yK (by repeat (first | (with_reducible first | exact HB.out | apply zJ | apply zD | apply zE | refine zI ?_ Z1.out) | exact HB.out))))
                      have n4_ := zK (zP (g := Z3) (o := .cells #[.int .i64 a1_0, .int .i64 a1_1, .slice (some ad541) l1_2.length c1_2] 43 (0, 0)) (by (with_reducible repeat (first | refine zF ?_ _ | refine zH ?_ | refine zG ?_ _)); exact Z0.out) hb)
                      have n5_ := zK (yL (by repeat (first | (with_reducible first | exact HB.out | apply zJ | apply zD | apply zE | refine zI ?_ Z1.out) | exact HB.out)) hb)
                      clear HO_7 HO_14 HO540 Z0 HB
                      have HO_7 := n0_; have HO_14 := n1_; have HO540 := n2_; have HO548 := n3_; have Z0 := n4_; have HB := n5_
                      clear n0_ n1_ n2_ n3_ n4_ n5_ hb ho49
                      refine hK.out _ _ ⟨(zO Z0.out 0).trans rfl, (zO Z0.out 1).trans rfl, (zO Z0.out 2).trans rfl, ((HB.out.cell (World.block_lt_of_cell? w _ hw541_0)).trans hw541_0), ((HB.out.cell (World.block_lt_of_cell? w _ hw541_1)).trans hw541_1), ((HB.out.cell (World.block_lt_of_cell? w _ hw549_0)).trans hw549_0), ((HB.out.cell (World.block_lt_of_cell? w _ hw549_1)).trans hw549_1)⟩ (fun hHeld => ?_)
                      clear hK K
                      refine norm_ (a' := ?_) ?_ ?_
                      rotate_left
                      ·show Act.put _ (some 92) _ = _
                       simp only [Act.put, zA, zB, zC, i64_w, i32_w]
                       rfl
                      refine one_ (i := 11) (N := some 91) #[true, true, true, true, true, true, true, true, true, true, true, true, true, true, true, true, true, true, true, true, true, true, false, false, false, false, false] rfl rfl (one_of HT_.out (by kernel_rfl)) (by decide) (fun K hK => ?_)
                      refine Kd.R_append_rows_step (Kd.int .i8) (w0 := w) w.heap.size (by rfl) (.tmp 81) (.tmp 90) 22 53 (.int .i8 0) 1 rfl Try.underlying22 info53 rfl (by decide) (by omega) v539 y538 ((((rd_T49 l1_2 x15_3).f0).take ((wrap64 ((wrap64 (a2 + 1)) * (wrap64 ((l0.length : Int) / a1_0)))) : Int).toNat).drop ((ji31) : Int).toNat) _ _ _ (fun k_ => some k_ ≠ (v524 : Value).ownBlock ∧ some k_ ≠ (v547 : Value).ownBlock) (fun _ => False) rfl rfl ?aO ?aR (fun _ _ h => h) (fun _ h => h.elim) ?aF ?aB ?aS ?aL ?_
                      (case aR => first | (rw [← show ((((rd_T49 l1_2 x15_3).f0).take ((wrap64 ((wrap64 (a2 + 1)) * (wrap64 ((l0.length : Int) / a1_0)))) : Int).toNat).drop ((ji31) : Int).toNat).length = ((wrap64 ((wrap64 (a2 + 1)) * (wrap64 ((l0.length : Int) / a1_0)))).toNat - (ji31).toNat) from (by rw [yG, yF]; have h_ : ((wrap64 ((wrap64 (a2 + 1)) * (wrap64 ((l0.length : Int) / a1_0)))) : Int) ≤ (((rd_T49 l1_2 x15_3).f0).length : Int) := yB (by first | (with_reducible assumption) | assumption); omega)]; repeat (first | exact (yc HR542.out HB.out) | (with_reducible refine yS ?_ _) | (with_reducible refine yT ?_ _) | (with_reducible refine yU ?_))) | (repeat (first | exact (yc HR542.out HB.out) | (with_reducible refine yS ?_ _) | (with_reducible refine yT ?_ _) | (with_reducible refine yU ?_))))
                      (case aB => exact (by repeat (first | (with_reducible first | exact HB.out | apply zJ | apply zD | apply zE | refine zI ?_ Z1.out) | exact HB.out)))
                      (case aF => exact (fun k_ hk => ⟨Kd.fresh' (Kd.R_lt (by (with_reducible repeat (first | apply zL | apply zM | apply zN)); exact HO_7.out)) k_ hk, Kd.fresh' (Kd.R_lt (by (with_reducible repeat (first | apply zL | apply zM | apply zN)); exact HO548.out)) k_ hk⟩))
                      (case aO => exact (by (with_reducible repeat (first | apply zL | apply zM | apply zN)); exact yd HO540.out (fun _ hk => ⟨hk.1.2, hk.2⟩)))
                      (case aS => exact (yK (by repeat (first | (with_reducible first | exact HB.out | apply zJ | apply zD | apply zE | refine zI ?_ Z1.out) | exact HB.out))))
                      (case aL => have := LMc35.out; have hlx_ := (show ((((rd_T49 l1_2 x15_3).f0).take ((wrap64 ((wrap64 (a2 + 1)) * (wrap64 ((l0.length : Int) / a1_0)))) : Int).toNat).drop ((ji31) : Int).toNat).length = ((wrap64 ((wrap64 (a2 + 1)) * (wrap64 ((l0.length : Int) / a1_0)))).toNat - (ji31).toNat) from (by rw [yG, yF]; have h_ : ((wrap64 ((wrap64 (a2 + 1)) * (wrap64 ((l0.length : Int) / a1_0)))) : Int) ≤ (((rd_T49 l1_2 x15_3).f0).length : Int) := yB (by first | (with_reducible assumption) | assumption); omega)); omega)
                      intro v544 w50 ho hb hg hat
                      rw [← Ny543.out] at ho
                      have n0_ := zK (Kd.R_after (ok := (fun k_ => some k_ ≠ (v547 : Value).ownBlock)) (by (with_reducible repeat (first | apply zL | apply zM | apply zN)); exact yd HO_7.out (fun _ hk => ⟨hk.2, hk.1.2⟩)) hg hat)
                      have n1_ := zK (Kd.S_after (ok := (fun k_ => some k_ ≠ (v524 : Value).ownBlock ∧ some k_ ≠ (v547 : Value).ownBlock)) (by (with_reducible repeat (first | apply Kd.S_alloc | apply Kd.S_drewN | apply Kd.S_drew)); exact Kd.S_mono HO_14.out (fun _ hk => ⟨⟨hk.1.1, hk.2⟩, hk.1.2⟩)) hg hat)
                      have n2_ := zK (blk_grown (g := Z3) (o := .cells #[.int .i64 a1_0, .int .i64 a1_1, .slice (some ad541) l1_2.length c1_2] 43 (0, 0)) (by (with_reducible repeat (first | refine zF ?_ _ | refine zH ?_ | refine zG ?_ _)); exact Z0.out) hg (Kd.R_ne HO540.out Z0.out (by decide)))
                      have n3_ := zK (Kd.R_after (ok := (fun k_ => some k_ ≠ (v524 : Value).ownBlock)) (by (with_reducible repeat (first | apply zL | apply zM | apply zN)); exact yd HO548.out (fun _ hk => ⟨hk.1.2, hk.2⟩)) hg hat)
                      have n4_ := zK (hb)
                      have n5_ := zK (ho)
                      clear HO_7 HO_14 Z0 HO548 HB HO540
                      have HO_7 := n0_; have HO_14 := n1_; have Z0 := n2_; have HO548 := n3_; have HB := n4_; have HO545 := n5_
                      clear n0_ n1_ n2_ n3_ n4_ n5_ ho hb hg hat
                      refine hK.out _ _ ⟨(zO Z0.out 0).trans rfl, (zO Z0.out 1).trans rfl, (zO Z0.out 2).trans rfl, ((HB.out.cell (World.block_lt_of_cell? w _ hw541_0)).trans hw541_0), ((HB.out.cell (World.block_lt_of_cell? w _ hw541_1)).trans hw541_1), ((HB.out.cell (World.block_lt_of_cell? w _ hw549_0)).trans hw549_0), ((HB.out.cell (World.block_lt_of_cell? w _ hw549_1)).trans hw549_1)⟩ (fun hHeld => ?_)
                      clear hK K
                      refine norm_ (a' := ?_) ?_ ?_
                      rotate_left
                      ·show Act.put _ (some 91) _ = _
                       simp only [Act.put, zA, zB, zC, i64_w, i32_w]
                       rfl
                      exact norm_ (by simp only [putAll, Act.put, zA, zB, zC]) (hCont (v539, v544, v547) _ ⟨hHeld, (by (with_reducible repeat (first | apply zL | apply zM | apply zN)); exact yd HO545.out (fun _ hk => ⟨hk.2, hk.1⟩)), (by (with_reducible repeat (first | apply zL | apply zM | apply zN)); exact yd HO548.out (fun _ hk => ⟨hk.2, hk.1⟩)), (by (with_reducible repeat (first | apply Kd.S_alloc | apply Kd.S_drewN | apply Kd.S_drew)); exact Kd.S_mono HO_14.out (fun _ hk => ⟨hk.2, ⟨hk.1.2, hk.1.1⟩⟩)), (by (with_reducible repeat (first | apply zL | apply zM | apply zN)); exact yd HO_7.out (fun _ hk => ⟨hk.2, hk.1⟩)), (by (with_reducible repeat (first | refine zF ?_ _ | refine zH ?_ | refine zG ?_ _)); exact Z0.out), (by repeat (first | (with_reducible first | exact HB.out | apply zJ | apply zD | apply zE | refine zI ?_ Z1.out) | exact HB.out))⟩)
                    ·skip
                     refine Kd.R_lit_step (Kd.int .i8) _ 53 ?hg (N := 92) ?hd (xs := ([] : List Int)) (inner := []) (ok := fun _ => True) (okp := fun _ => True) ?hr ?hp (fun _ hk => hk) trivial (Below.refl _ _) (yN _) (by simp) ?_; (case hd => rfl); (case hg => rfl); (case hr => first | (go_simp; done) | (go_simp; rfl)); (case hp => exact (Reps.none _ _))
                     intro v547 w46 ho47 hb hg_ hnew_
                     clear hg_ hnew_
                     (first | rw [← Ny546.out] at ho47 | (simp only [Int.reduceToNat] at ho47; rw [← Ny546.out] at ho47))
                     have n0_ := zK (Kd.R_elder' (by (with_reducible repeat (first | apply zL | apply zM | apply zN)); exact HO_7.out) (Kd.R_base ho47) hb)
                     have n1_ := zK (Kd.S_elder' (by (with_reducible repeat (first | apply Kd.S_alloc | apply Kd.S_drewN | apply Kd.S_drew)); exact HO_14.out) (Kd.R_base ho47) hb)
                     have n2_ := zK (Kd.R_lower (Kd.R_new' ho47 (Kd.R_lt (by (with_reducible repeat (first | apply zL | apply zM | apply zN)); exact HO_7.out))) (yK (by repeat (first | (with_reducible first | exact HB.out | apply zJ | apply zD | apply zE | refine zI ?_ Z1.out) | exact HB.out))))
                     have n3_ := zK (zP (g := Z3) (o := .cells #[.int .i64 a1_0, .int .i64 a1_1, .slice (some ad541) l1_2.length c1_2] 43 (0, 0)) (by (with_reducible repeat (first | refine zF ?_ _ | refine zH ?_ | refine zG ?_ _)); exact Z0.out) hb)
                     have n4_ := zK (yL (by repeat (first | (with_reducible first | exact HB.out | apply zJ | apply zD | apply zE | refine zI ?_ Z1.out) | exact HB.out)) hb)
                     clear HO_7 HO_14 Z0 HB
                     have HO_7 := n0_; have HO_14 := n1_; have HO548 := n2_; have Z0 := n3_; have HB := n4_
                     clear n0_ n1_ n2_ n3_ n4_ hb ho47
                     refine hK.out _ _ ⟨(zO Z0.out 0).trans rfl, (zO Z0.out 1).trans rfl, (zO Z0.out 2).trans rfl, ((HB.out.cell (World.block_lt_of_cell? w _ hw541_0)).trans hw541_0), ((HB.out.cell (World.block_lt_of_cell? w _ hw541_1)).trans hw541_1), ((HB.out.cell (World.block_lt_of_cell? w _ hw549_0)).trans hw549_0), ((HB.out.cell (World.block_lt_of_cell? w _ hw549_1)).trans hw549_1)⟩ (fun hHeld => ?_)
                     clear hK K
                     refine norm_ (a' := ?_) ?_ ?_
                     rotate_left
                     ·show Act.put _ (some 92) _ = _
                      simp only [Act.put, zA, zB, zC, i64_w, i32_w]
                      rfl
                     refine one_ (i := 1) (N := some 81) #[true, true, true, true, true, true, true, true, true, true, true, false, true, true, true, true, true, true, true, true, true, true, false, false, false, false, false] rfl rfl (one_of HT_.out (by kernel_rfl)) (by decide) (fun K hK => ?_)
                     refine Kd.R_lit_step (Kd.int .i8) _ 53 ?hg (N := 81) ?hd (xs := ([] : List Int)) (inner := []) (ok := fun _ => True) (okp := fun _ => True) ?hr ?hp (fun _ hk => hk) trivial (Below.refl _ _) (yN _) (by simp) ?_; (case hd => rfl); (case hg => rfl); (case hr => first | (go_simp; done) | (go_simp; rfl)); (case hp => exact (Reps.none _ _))
                     intro v539 w48 ho49 hb hg_ hnew_
                     clear hg_ hnew_
                     (first | rw [← Ny538.out] at ho49 | (simp only [Int.reduceToNat] at ho49; rw [← Ny538.out] at ho49))
                     have n0_ := zK (Kd.R_elder' (by (with_reducible repeat (first | apply zL | apply zM | apply zN)); exact HO_7.out) (Kd.R_base ho49) hb)
                     have n1_ := zK (Kd.S_elder' (by (with_reducible repeat (first | apply Kd.S_alloc | apply Kd.S_drewN | apply Kd.S_drew)); exact HO_14.out) (Kd.R_base ho49) hb)
                     have n2_ := zK (Kd.R_elder' (by (with_reducible repeat (first | apply zL | apply zM | apply zN)); exact HO548.out) (Kd.R_base ho49) hb)
                     have n3_ := zK (Kd.R_lower (Kd.R_new' (Kd.R_new' ho49 (Kd.R_lt (by (with_reducible repeat (first | apply zL | apply zM | apply zN)); exact HO_7.out))) (Kd.R_lt (by (with_reducible repeat (first | apply zL | apply zM | apply zN)); exact HO548.out))) (yK (by repeat (first | (with_reducible first | exact HB.out | apply zJ | apply zD | apply zE | refine zI ?_ Z1.out) | exact HB.out))))
                     have n4_ := zK (zP (g := Z3) (o := .cells #[.int .i64 a1_0, .int .i64 a1_1, .slice (some ad541) l1_2.length c1_2] 43 (0, 0)) (by (with_reducible repeat (first | refine zF ?_ _ | refine zH ?_ | refine zG ?_ _)); exact Z0.out) hb)
                     have n5_ := zK (yL (by repeat (first | (with_reducible first | exact HB.out | apply zJ | apply zD | apply zE | refine zI ?_ Z1.out) | exact HB.out)) hb)
                     clear HO_7 HO_14 HO548 Z0 HB
                     have HO_7 := n0_; have HO_14 := n1_; have HO548 := n2_; have HO540 := n3_; have Z0 := n4_; have HB := n5_
                     clear n0_ n1_ n2_ n3_ n4_ n5_ hb ho49
                     refine hK.out _ _ ⟨(zO Z0.out 0).trans rfl, (zO Z0.out 1).trans rfl, (zO Z0.out 2).trans rfl, ((HB.out.cell (World.block_lt_of_cell? w _ hw541_0)).trans hw541_0), ((HB.out.cell (World.block_lt_of_cell? w _ hw541_1)).trans hw541_1), ((HB.out.cell (World.block_lt_of_cell? w _ hw549_0)).trans hw549_0), ((HB.out.cell (World.block_lt_of_cell? w _ hw549_1)).trans hw549_1)⟩ (fun hHeld => ?_)
                     clear hK K
                     refine norm_ (a' := ?_) ?_ ?_
                     rotate_left
                     ·show Act.put _ (some 81) _ = _
                      simp only [Act.put, zA, zB, zC, i64_w, i32_w]
                      rfl
                     refine one_ (i := 11) (N := some 91) #[true, true, true, true, true, true, true, true, true, true, true, true, true, true, true, true, true, true, true, true, true, true, false, false, false, false, false] rfl rfl (one_of HT_.out (by kernel_rfl)) (by decide) (fun K hK => ?_)
                     refine Kd.R_append_rows_step (Kd.int .i8) (w0 := w) w.heap.size (by rfl) (.tmp 81) (.tmp 90) 22 53 (.int .i8 0) 1 rfl Try.underlying22 info53 rfl (by decide) (by omega) v539 y538 ((((rd_T49 l1_2 x15_3).f0).take ((wrap64 ((wrap64 (a2 + 1)) * (wrap64 ((l0.length : Int) / a1_0)))) : Int).toNat).drop ((ji31) : Int).toNat) _ _ _ (fun k_ => some k_ ≠ (v524 : Value).ownBlock ∧ some k_ ≠ (v547 : Value).ownBlock) (fun _ => False) rfl rfl ?aO ?aR (fun _ _ h => h) (fun _ h => h.elim) ?aF ?aB ?aS ?aL ?_
                     (case aR => first | (rw [← show ((((rd_T49 l1_2 x15_3).f0).take ((wrap64 ((wrap64 (a2 + 1)) * (wrap64 ((l0.length : Int) / a1_0)))) : Int).toNat).drop ((ji31) : Int).toNat).length = ((wrap64 ((wrap64 (a2 + 1)) * (wrap64 ((l0.length : Int) / a1_0)))).toNat - (ji31).toNat) from (by rw [yG, yF]; have h_ : ((wrap64 ((wrap64 (a2 + 1)) * (wrap64 ((l0.length : Int) / a1_0)))) : Int) ≤ (((rd_T49 l1_2 x15_3).f0).length : Int) := yB (by first | (with_reducible assumption) | assumption); omega)]; repeat (first | exact (yc HR542.out HB.out) | (with_reducible refine yS ?_ _) | (with_reducible refine yT ?_ _) | (with_reducible refine yU ?_))) | (repeat (first | exact (yc HR542.out HB.out) | (with_reducible refine yS ?_ _) | (with_reducible refine yT ?_ _) | (with_reducible refine yU ?_))))
                     (case aB => exact (by repeat (first | (with_reducible first | exact HB.out | apply zJ | apply zD | apply zE | refine zI ?_ Z1.out) | exact HB.out)))
                     (case aF => exact (fun k_ hk => ⟨Kd.fresh' (Kd.R_lt (by (with_reducible repeat (first | apply zL | apply zM | apply zN)); exact HO_7.out)) k_ hk, Kd.fresh' (Kd.R_lt (by (with_reducible repeat (first | apply zL | apply zM | apply zN)); exact HO548.out)) k_ hk⟩))
                     (case aO => exact (by (with_reducible repeat (first | apply zL | apply zM | apply zN)); exact yd HO540.out (fun _ hk => ⟨hk.1.2, hk.2⟩)))
                     (case aS => exact (yK (by repeat (first | (with_reducible first | exact HB.out | apply zJ | apply zD | apply zE | refine zI ?_ Z1.out) | exact HB.out))))
                     (case aL => have := LMc35.out; have hlx_ := (show ((((rd_T49 l1_2 x15_3).f0).take ((wrap64 ((wrap64 (a2 + 1)) * (wrap64 ((l0.length : Int) / a1_0)))) : Int).toNat).drop ((ji31) : Int).toNat).length = ((wrap64 ((wrap64 (a2 + 1)) * (wrap64 ((l0.length : Int) / a1_0)))).toNat - (ji31).toNat) from (by rw [yG, yF]; have h_ : ((wrap64 ((wrap64 (a2 + 1)) * (wrap64 ((l0.length : Int) / a1_0)))) : Int) ≤ (((rd_T49 l1_2 x15_3).f0).length : Int) := yB (by first | (with_reducible assumption) | assumption); omega)); omega)
                     intro v544 w50 ho hb hg hat
                     rw [← Ny543.out] at ho
                     have n0_ := zK (Kd.R_after (ok := (fun k_ => some k_ ≠ (v547 : Value).ownBlock)) (by (with_reducible repeat (first | apply zL | apply zM | apply zN)); exact yd HO_7.out (fun _ hk => ⟨hk.1.2, hk.2⟩)) hg hat)
                     have n1_ := zK (Kd.S_after (ok := (fun k_ => some k_ ≠ (v524 : Value).ownBlock ∧ some k_ ≠ (v547 : Value).ownBlock)) (by (with_reducible repeat (first | apply Kd.S_alloc | apply Kd.S_drewN | apply Kd.S_drew)); exact HO_14.out) hg hat)
                     have n2_ := zK (blk_grown (g := Z3) (o := .cells #[.int .i64 a1_0, .int .i64 a1_1, .slice (some ad541) l1_2.length c1_2] 43 (0, 0)) (by (with_reducible repeat (first | refine zF ?_ _ | refine zH ?_ | refine zG ?_ _)); exact Z0.out) hg (Kd.R_ne HO540.out Z0.out (by decide)))
                     have n3_ := zK (Kd.R_after (ok := (fun k_ => some k_ ≠ (v524 : Value).ownBlock)) (by (with_reducible repeat (first | apply zL | apply zM | apply zN)); exact yd HO548.out (fun _ hk => ⟨hk.1.2, hk.2⟩)) hg hat)
                     have n4_ := zK (hb)
                     have n5_ := zK (ho)
                     clear HO_7 HO_14 Z0 HO548 HB HO540
                     have HO_7 := n0_; have HO_14 := n1_; have Z0 := n2_; have HO548 := n3_; have HB := n4_; have HO545 := n5_
                     clear n0_ n1_ n2_ n3_ n4_ n5_ ho hb hg hat
                     refine hK.out _ _ ⟨(zO Z0.out 0).trans rfl, (zO Z0.out 1).trans rfl, (zO Z0.out 2).trans rfl, ((HB.out.cell (World.block_lt_of_cell? w _ hw541_0)).trans hw541_0), ((HB.out.cell (World.block_lt_of_cell? w _ hw541_1)).trans hw541_1), ((HB.out.cell (World.block_lt_of_cell? w _ hw549_0)).trans hw549_0), ((HB.out.cell (World.block_lt_of_cell? w _ hw549_1)).trans hw549_1)⟩ (fun hHeld => ?_)
                     clear hK K
                     refine norm_ (a' := ?_) ?_ ?_
                     rotate_left
                     ·show Act.put _ (some 91) _ = _
                      simp only [Act.put, zA, zB, zC, i64_w, i32_w]
                      rfl
                     exact norm_ (by simp only [putAll, Act.put, zA, zB, zC]) (hCont (v539, v544, v547) _ ⟨hHeld, (by (with_reducible repeat (first | apply zL | apply zM | apply zN)); exact yd HO545.out (fun _ hk => ⟨hk.2, hk.1⟩)), (by (with_reducible repeat (first | apply zL | apply zM | apply zN)); exact yd HO548.out (fun _ hk => ⟨hk.2, hk.1⟩)), (by (with_reducible repeat (first | apply Kd.S_alloc | apply Kd.S_drewN | apply Kd.S_drew)); exact Kd.S_mono HO_14.out (fun _ hk => ⟨hk.2, ⟨hk.1.2, hk.1.1⟩⟩)), (by (with_reducible repeat (first | apply zL | apply zM | apply zN)); exact yd HO_7.out (fun _ hk => ⟨hk.2, hk.1⟩)), (by (with_reducible repeat (first | refine zF ?_ _ | refine zH ?_ | refine zG ?_ _)); exact Z0.out), (by repeat (first | (with_reducible first | exact HB.out | apply zJ | apply zD | apply zE | refine zI ?_ Z1.out) | exact HB.out))⟩)
                   rintro ⟨v539, v544, v547⟩ w51 ⟨hS_, h0_, h1_, h2_, h3_, h4_, h5_⟩
                   have n0_ : Aside0 (Kd.R (Kd.int .i8) 53 w51 w.heap.size (fun k_ => some k_ ≠ (v547 : Value).ownBlock ∧ some k_ ≠ (v524 : Value).ownBlock) v544 y543) := ⟨h0_⟩
                   have n1_ : Aside0 (Kd.R (Kd.int .i8) 53 w51 w.heap.size (fun k_ => some k_ ≠ (v544 : Value).ownBlock ∧ some k_ ≠ (v524 : Value).ownBlock) v547 y546) := ⟨h1_⟩
                   have n2_ : Aside0 (Kd.S k49 49 w51 w.heap.size (fun k_ => some k_ ≠ (v544 : Value).ownBlock ∧ some k_ ≠ (v547 : Value).ownBlock ∧ some k_ ≠ (v524 : Value).ownBlock) (.slice Ao42 x14_3.length co42) x14_3) := ⟨h2_⟩
                   have n3_ : Aside0 (Kd.R (Kd.int .i8) 53 w51 w.heap.size (fun k_ => some k_ ≠ (v544 : Value).ownBlock ∧ some k_ ≠ (v547 : Value).ownBlock) v524 t523) := ⟨h3_⟩
                   have n4_ : Aside0 (w51.heap[Z3]? = some (.cells #[.int .i64 a1_0, .int .i64 a1_1, .slice (some ad541) l1_2.length c1_2] 43 (0, 0))) := ⟨h4_⟩
                   have n5_ : Aside0 (Below w.heap.size w w51) := ⟨h5_⟩
                   clear HO_7 HO_14 Z0 HB h0_ h1_ h2_ h3_ h4_ h5_
                   have HO545 := n0_; have HO548 := n1_; have HO_14 := n2_; have HO_7 := n3_; have Z0 := n4_; have HB := n5_
                   clear n0_ n1_ n2_ n3_ n4_ n5_
                   have hHeld : w51.cell? ⟨Z3, 0, none⟩ = some (.int .i64 a1_0) ∧ w51.cell? ⟨Z3, 1, none⟩ = some (.int .i64 a1_1) ∧ w51.cell? ⟨Z3, 2, none⟩ = some (.slice (some ad541) l1_2.length c1_2) ∧ w51.cell? (ad541.add ((x15_3).toNat * 2)) = some (.slice A541_0 ((rd_T49 l1_2 x15_3).f0).length c541_0) ∧ w51.cell? ⟨(ad541.add ((x15_3).toNat * 2)).block, (ad541.add ((x15_3).toNat * 2)).off + 1, none⟩ = some (.slice A541_1 ((rd_T49 l1_2 x15_3).f1).length c541_1) ∧ w51.cell? (ad541.add ((x15_3).toNat * 2)) = some (.slice A541_0 ((rd_T49 l1_2 x15_3).f0).length c541_0) ∧ w51.cell? ⟨(ad541.add ((x15_3).toNat * 2)).block, (ad541.add ((x15_3).toNat * 2)).off + 1, none⟩ = some (.slice A541_1 ((rd_T49 l1_2 x15_3).f1).length c541_1) := hS_
                   refine norm_ (a' := ?_) ?_ ?_
                   rotate_left
                   ·simp only [putAll, Act.put, zA, zB, zC]
                    rfl
                   refine one_ (i := 22) (N := some 102) #[true, true, true, true, true, true, true, true, true, true, true, true, true, true, true, true, true, true, true, true, true, true, true, false, false, false, false] rfl rfl (one_of HT_.out (by kernel_rfl)) (by decide) (fun K hK => ?_)
                   refine Kd.R_append_rows_step (Kd.int .i8) (w0 := w) w.heap.size (by rfl) (.tmp 92) (.tmp 101) 22 53 (.int .i8 0) 1 rfl Try.underlying22 info53 rfl (by decide) (by omega) v547 y546 ((((rd_T49 l1_2 x15_3).f1).take ((wrap64 ((wrap64 (a2 + 1)) * (wrap64 ((l0.length : Int) / a1_0)))) : Int).toNat).drop ((ji31) : Int).toNat) _ _ _ (fun k_ => some k_ ≠ (v524 : Value).ownBlock ∧ some k_ ≠ (v544 : Value).ownBlock) (fun _ => False) rfl rfl ?aO ?aR (fun _ _ h => h) (fun _ h => h.elim) ?aF ?aB ?aS ?aL ?_
                   (case aR => first | (rw [← show ((((rd_T49 l1_2 x15_3).f1).take ((wrap64 ((wrap64 (a2 + 1)) * (wrap64 ((l0.length : Int) / a1_0)))) : Int).toNat).drop ((ji31) : Int).toNat).length = ((wrap64 ((wrap64 (a2 + 1)) * (wrap64 ((l0.length : Int) / a1_0)))).toNat - (ji31).toNat) from (by rw [yG, yF]; have h_ : ((wrap64 ((wrap64 (a2 + 1)) * (wrap64 ((l0.length : Int) / a1_0)))) : Int) ≤ (((rd_T49 l1_2 x15_3).f1).length : Int) := yB (by first | (with_reducible assumption) | assumption); omega)]; repeat (first | exact (yc HR550.out HB.out) | (with_reducible refine yS ?_ _) | (with_reducible refine yT ?_ _) | (with_reducible refine yU ?_))) | (repeat (first | exact (yc HR550.out HB.out) | (with_reducible refine yS ?_ _) | (with_reducible refine yT ?_ _) | (with_reducible refine yU ?_))))
                   (case aB => exact (by repeat (first | (with_reducible first | exact HB.out | apply zJ | apply zD | apply zE | refine zI ?_ Z1.out) | exact HB.out)))
                   (case aF => exact (fun k_ hk => ⟨Kd.fresh' (Kd.R_lt (by (with_reducible repeat (first | apply zL | apply zM | apply zN)); exact HO_7.out)) k_ hk, Kd.fresh' (Kd.R_lt (by (with_reducible repeat (first | apply zL | apply zM | apply zN)); exact HO545.out)) k_ hk⟩))
                   (case aO => exact (by (with_reducible repeat (first | apply zL | apply zM | apply zN)); exact yd HO548.out (fun _ hk => ⟨hk.2, hk.1⟩)))
                   (case aS => exact (yK (by repeat (first | (with_reducible first | exact HB.out | apply zJ | apply zD | apply zE | refine zI ?_ Z1.out) | exact HB.out))))
                   (case aL => have := LMc39.out; have hlx_ := (show ((((rd_T49 l1_2 x15_3).f1).take ((wrap64 ((wrap64 (a2 + 1)) * (wrap64 ((l0.length : Int) / a1_0)))) : Int).toNat).drop ((ji31) : Int).toNat).length = ((wrap64 ((wrap64 (a2 + 1)) * (wrap64 ((l0.length : Int) / a1_0)))).toNat - (ji31).toNat) from (by rw [yG, yF]; have h_ : ((wrap64 ((wrap64 (a2 + 1)) * (wrap64 ((l0.length : Int) / a1_0)))) : Int) ≤ (((rd_T49 l1_2 x15_3).f1).length : Int) := yB (by first | (with_reducible assumption) | assumption); omega)); omega)
                   intro v552 w52 ho hb hg hat
                   rw [← Ny551.out] at ho
                   have n0_ := zK (Kd.R_after (ok := (fun k_ => some k_ ≠ (v544 : Value).ownBlock)) (by (with_reducible repeat (first | apply zL | apply zM | apply zN)); exact HO_7.out) hg hat)
                   have n1_ := zK (Kd.S_after (ok := (fun k_ => some k_ ≠ (v524 : Value).ownBlock ∧ some k_ ≠ (v544 : Value).ownBlock)) (by (with_reducible repeat (first | apply Kd.S_alloc | apply Kd.S_drewN | apply Kd.S_drew)); exact Kd.S_mono HO_14.out (fun _ hk => ⟨⟨hk.2.2, hk.1⟩, hk.2.1⟩)) hg hat)
                   have n2_ := zK (blk_grown (g := Z3) (o := .cells #[.int .i64 a1_0, .int .i64 a1_1, .slice (some ad541) l1_2.length c1_2] 43 (0, 0)) (by (with_reducible repeat (first | refine zF ?_ _ | refine zH ?_ | refine zG ?_ _)); exact Z0.out) hg (Kd.R_ne HO548.out Z0.out (by decide)))
                   have n3_ := zK (Kd.R_after (ok := (fun k_ => some k_ ≠ (v524 : Value).ownBlock)) (by (with_reducible repeat (first | apply zL | apply zM | apply zN)); exact yd HO545.out (fun _ hk => ⟨hk.2, hk.1⟩)) hg hat)
                   have n4_ := zK (hb)
                   have n5_ := zK (ho)
                   clear HO_7 HO_14 Z0 HO545 HB HO548
                   have HO_7 := n0_; have HO_14 := n1_; have Z0 := n2_; have HO545 := n3_; have HB := n4_; have HO553 := n5_
                   clear n0_ n1_ n2_ n3_ n4_ n5_ ho hb hg hat
                   obtain ⟨Ao53, co53, eo53⟩ := Kd.R_slice HO553.out
                   (first | subst eo53 | (injection eo53 with f1_ f2_ f3_; have f4_ := f1_.symm; have f5_ := f3_.symm; clear f1_ f2_ f3_; subst f4_; subst f5_))
                   obtain ⟨Ao54, co54, eo54⟩ := Kd.R_slice HO545.out
                   (first | subst eo54 | (injection eo54 with f1_ f2_ f3_; have f4_ := f1_.symm; have f5_ := f3_.symm; clear f1_ f2_ f3_; subst f4_; subst f5_))
                   refine hK.out _ _ ⟨(zO Z0.out 0).trans rfl, (zO Z0.out 1).trans rfl, (zO Z0.out 2).trans rfl, ((HB.out.cell (World.block_lt_of_cell? w _ hw541_0)).trans hw541_0), ((HB.out.cell (World.block_lt_of_cell? w _ hw541_1)).trans hw541_1), ((HB.out.cell (World.block_lt_of_cell? w _ hw549_0)).trans hw549_0), ((HB.out.cell (World.block_lt_of_cell? w _ hw549_1)).trans hw549_1)⟩ (fun hHeld => ?_)
                   clear hK K
                   refine norm_ (a' := ?_) ?_ ?_
                   rotate_left
                   ·show Act.put _ (some 102) _ = _
                    simp only [Act.put, zA, zB, zC, i64_w, i32_w]
                    rfl
                   refine pure_ (i := 23) (N := some 103) (v := ?_) (a' := ?_) #[true, true, true, true, true, true, true, true, true, true, true, true, true, true, true, true, true, true, true, true, true, true, true, true, false, false, false] rfl rfl (any_of HT_.out (by kernel_rfl)) (fun _ _ _ h => h) (Or.inl ⟨by rfl, ?_⟩) ?_ ?_
                   rotate_left
                   ·intro w'
                    go_simp
                    with_reducible rfl
                   rotate_left
                   ·simp only [Act.put, zA, zB, zC, i64_w, i32_w]
                    rfl
                   refine one_ (i := 24) (N := some 104) #[true, true, true, true, true, true, true, true, true, true, true, true, true, true, true, true, true, true, true, true, true, true, true, true, true, false, false] rfl rfl (one_of HT_.out (by kernel_rfl)) (by decide) (fun K hK => ?_)
                   refine value_ (w1 := ?_) (v := ?_) (by rfl) rfl ?_ ?_
                   rotate_left 2
                   ·go_simp
                    constructor
                    ·rfl
                    ·rfl
                   refine hK.out _ _ ⟨(zO (zG Z0.out _) 0).trans rfl, (zO (zG Z0.out _) 1).trans rfl, (zO (zG Z0.out _) 2).trans rfl, (World.cell?_alloc_lt _ _ _ (World.block_lt_of_cell? _ _ (((HB.out.cell (World.block_lt_of_cell? w _ hw541_0)).trans hw541_0)))).trans (((HB.out.cell (World.block_lt_of_cell? w _ hw541_0)).trans hw541_0)), (World.cell?_alloc_lt _ _ _ (World.block_lt_of_cell? _ _ (((HB.out.cell (World.block_lt_of_cell? w _ hw541_1)).trans hw541_1)))).trans (((HB.out.cell (World.block_lt_of_cell? w _ hw541_1)).trans hw541_1)), (World.cell?_alloc_lt _ _ _ (World.block_lt_of_cell? _ _ (((HB.out.cell (World.block_lt_of_cell? w _ hw549_0)).trans hw549_0)))).trans (((HB.out.cell (World.block_lt_of_cell? w _ hw549_0)).trans hw549_0)), (World.cell?_alloc_lt _ _ _ (World.block_lt_of_cell? _ _ (((HB.out.cell (World.block_lt_of_cell? w _ hw549_1)).trans hw549_1)))).trans (((HB.out.cell (World.block_lt_of_cell? w _ hw549_1)).trans hw549_1))⟩ (fun hHeld => ?_)
                   clear hK K
                   refine norm_ (a' := ?_) ?_ ?_
                   rotate_left
                   ·show Act.put _ (some 104) _ = _
                    simp only [Act.put, zA, zB, zC, i64_w, i32_w]
                    rfl
                   refine one_ (i := 25) (N := some 105) #[true, true, true, true, true, true, true, true, true, true, true, true, true, true, true, true, true, true, true, true, true, true, true, true, true, true, false] rfl rfl (one_of HT_.out (by kernel_rfl)) (by decide) (fun K hK => ?_)
                   refine Kd.S_append_step k49 (w0 := w) w.heap.size (by rfl) (.tmp 80) (.tmp 104) 41 49 (.agg #[(.slice none 0 0), (.slice none 0 0)]) 48 rfl Try.underlying41 info49 rfl (by decide) (by omega) (.slice Ao42 x14_3.length co42) x14_3 (⟨y543, y551⟩ : S49) [.slice Ao54 y543.length co54, .slice Ao53 y551.length co53] (fun k_ => some k_ ≠ (v524 : Value).ownBlock) (fun k_ => some k_ = (.slice Ao54 y543.length co54 : Value).ownBlock ∨ some k_ = (.slice Ao53 y551.length co53 : Value).ownBlock) rfl rfl ?aP (fun k_ hk_ => hk_.elim (fun h_ => ((yd (ok' := fun k_ => ((fun k_ => some k_ ≠ (v524 : Value).ownBlock)) k_ ∧ some k_ ≠ (.slice Ao42 x14_3.length co42 : Value).ownBlock) (Kd.R_apart' (HO545.out) (Kd.S_typed HO_14.out) (by decide)) (fun k_ hk => ⟨hk.1.1, hk.2⟩))).1 k_ h_.symm) (fun h_ => ((yd (ok' := fun k_ => ((fun k_ => some k_ ≠ (v524 : Value).ownBlock)) k_ ∧ some k_ ≠ (.slice Ao42 x14_3.length co42 : Value).ownBlock) (Kd.R_apart' (HO553.out) (Kd.S_typed HO_14.out) (by decide)) (fun k_ hk => ⟨hk.1.1, hk.2⟩))).1 k_ h_.symm)) ?aF ?aO ?aB ?aS ?aL ?_
                   (case aP => exact k49_mkM _ _ _ (⟨y543, y551⟩ : S49) (yd (Kd.R_tight rfl (yd (ok' := fun k_ => ((fun k_ => some k_ ≠ (v524 : Value).ownBlock)) k_ ∧ some k_ ≠ (.slice Ao42 x14_3.length co42 : Value).ownBlock) (Kd.R_apart' (HO545.out) (Kd.S_typed HO_14.out) (by decide)) (fun k_ hk => ⟨hk.1.1, hk.2⟩))) (fun _ h_ => Or.inl h_)) (yd (Kd.R_tight rfl (yd (ok' := fun k_ => ((fun k_ => some k_ ≠ (v524 : Value).ownBlock)) k_ ∧ some k_ ≠ (.slice Ao42 x14_3.length co42 : Value).ownBlock) (Kd.R_apart' (HO553.out) (Kd.S_typed HO_14.out) (by decide)) (fun k_ hk => ⟨hk.1.1, hk.2⟩))) (fun _ h_ => Or.inr (h_))))
                   (case aB => exact (by repeat (first | (with_reducible first | exact HB.out | apply zJ | apply zD | apply zE | refine zI ?_ Z1.out) | exact HB.out)))
                   (case aF => exact (fun k_ hk => Kd.fresh' (Kd.R_lt (by (with_reducible repeat (first | apply zL | apply zM | apply zN)); exact HO_7.out)) k_ hk))
                   (case aO => exact (by (with_reducible repeat (first | apply Kd.S_alloc | apply Kd.S_drewN | apply Kd.S_drew)); exact Kd.S_mono HO_14.out (fun k_ hk => ⟨hk.1.1, fun e_ => e_.elim (fun h_ => hk.1.2 h_) (fun h_ => hk.2 h_)⟩)))
                   (case aS => exact (yK (by repeat (first | (with_reducible first | exact HB.out | apply zJ | apply zD | apply zE | refine zI ?_ Z1.out) | exact HB.out))))
                   (case aL => have := LMc40.out; omega)
                   intro v555 w55 ho hb hg hat
                   rw [← Ny554.out] at ho
                   have n0_ := zK (Kd.R_over' (by (with_reducible repeat (first | apply zL | apply zM | apply zN)); exact HO_7.out) (Kd.S_typed (by (with_reducible repeat (first | apply Kd.S_alloc | apply Kd.S_drewN | apply Kd.S_drew)); exact HO_14.out)) (by decide) hg)
                   have n1_ := zK (blk_grown (g := Z3) (o := .cells #[.int .i64 a1_0, .int .i64 a1_1, .slice (some ad541) l1_2.length c1_2] 43 (0, 0)) (by (with_reducible repeat (first | refine zF ?_ _ | refine zH ?_ | refine zG ?_ _)); exact Z0.out) hg (Kd.S_ne HO_14.out Z0.out (by decide)))
                   have n2_ := zK (hb)
                   have n3_ := zK (ho)
                   clear HO_7 Z0 HB HO_14 HO545 HO553
                   have HO_7 := n0_; have Z0 := n1_; have HB := n2_; have HO556 := n3_
                   clear n0_ n1_ n2_ n3_ ho hb hg hat
                   refine hK.out _ _ ⟨(zO Z0.out 0).trans rfl, (zO Z0.out 1).trans rfl, (zO Z0.out 2).trans rfl, ((HB.out.cell (World.block_lt_of_cell? w _ hw541_0)).trans hw541_0), ((HB.out.cell (World.block_lt_of_cell? w _ hw541_1)).trans hw541_1), ((HB.out.cell (World.block_lt_of_cell? w _ hw549_0)).trans hw549_0), ((HB.out.cell (World.block_lt_of_cell? w _ hw549_1)).trans hw549_1)⟩ (fun hHeld => ?_)
                   clear hK K
                   refine norm_ (a' := ?_) ?_ ?_
                   rotate_left
                   ·show Act.put _ (some 105) _ = _
                    simp only [Act.put, zA, zB, zC, i64_w, i32_w]
                    rfl
                   refine pure_ (i := 26) (N := some 14) (v := ?_) (a' := ?_) #[true, true, true, true, true, true, true, true, true, true, true, true, true, true, true, true, true, true, true, true, true, true, true, true, true, true, true] rfl rfl (any_of HT_.out (by kernel_rfl)) (fun _ _ _ h => h) (Or.inl ⟨by rfl, ?_⟩) ?_ ?_
                   rotate_left
                   ·intro w'
                    go_simp
                    with_reducible rfl
                   rotate_left
                   ·simp only [Act.put, zA, zB, zC, i64_w, i32_w]
                    rfl
                   refine done_ (done_of HT_.out (by kernel_rfl)) ?_
                   try go_wp2
                   subst hji31
                   go_roundg k3
                   case measure => have := HJ6.out; have := HJ19.out; have := HK3.out; omega
                   case rel => exact ⟨(y554), (wrap64 (x15_3 + 1)), (by first | rfl | (simp; done) | (simp [*]; done)), H', ⟨by have := HJ6.out; have := HJ19.out; have := HK3.out; omega⟩, ⟨by (with_reducible repeat (first | apply zL | apply zM | apply zN)); exact yd HO_7.out (fun _ hk => trivial)⟩, ⟨by (with_reducible repeat (first | apply Kd.S_alloc | apply Kd.S_drewN | apply Kd.S_drew)); exact HO556.out⟩, ⟨by (with_reducible repeat (first | refine zF ?_ _ | refine zH ?_ | refine zG ?_ _)); exact Z0.out⟩, ⟨by repeat (first | (with_reducible first | exact HB.out | apply zJ | apply zD | apply zE | refine zI ?_ Z1.out) | exact HB.out)⟩⟩
                  ·rw [if_neg c40] at H
                   exact absurd H (by simp)
                 ·rw [if_neg c39] at H
                  exact absurd H (by simp)
                ·rw [if_neg c38] at H
                 exact absurd H (by simp)
               ·rw [if_neg c35] at H
                exact absurd H (by simp)
              ·rw [if_neg c34] at H
               exact absurd H (by simp)
             ·rw [if_neg c33] at H
              exact absurd H (by simp)
            ·rw [if_neg c32] at H
             exact absurd H (by simp)
           ·rw [if_neg c30] at H
            exact absurd H (by simp)
          ·rw [if_neg c29] at H
           have c29b0 : decide (x15_3 < (l1_2.length : Int)) = false := yD c29
           clear c29
           obtain ⟨y557, hy557⟩ : ∃ y_ : List Int, y_ = (([] : List Int)) := ⟨_, rfl⟩
           replace H : (if 0 ≤ (wrap64 (a2 * (wrap64 ((l0.length : Int) / a1_0)))) then (if (wrap64 (a2 * (wrap64 ((l0.length : Int) / a1_0)))) ≤ (wrap64 ((wrap64 (a2 + 1)) * (wrap64 ((l0.length : Int) / a1_0)))) then (if (wrap64 ((wrap64 (a2 + 1)) * (wrap64 ((l0.length : Int) / a1_0)))) ≤ (l0.length : Int) then (if y557.length + ((l0.take ((wrap64 ((wrap64 (a2 + 1)) * (wrap64 ((l0.length : Int) / a1_0)))) : Int).toNat).drop ((wrap64 (a2 * (wrap64 ((l0.length : Int) / a1_0)))) : Int).toNat).length < 140737488355328 then ((attend_Look.f k3 (y557 ++ ((l0.take ((wrap64 ((wrap64 (a2 + 1)) * (wrap64 ((l0.length : Int) / a1_0)))) : Int).toNat).drop ((wrap64 (a2 * (wrap64 ((l0.length : Int) / a1_0)))) : Int).toNat)) 1 x14_3 a1_1).bind fun bt564 => (if bt564.2 = 0 then (if (t523.length : Int) = (l0.length : Int) then (if (wrap64 ((wrap64 (a2 + 1)) * (wrap64 ((l0.length : Int) / a1_0)))) ≤ (t523.length : Int) then ((w19_rows.f k3 ((t523.take ((wrap64 ((wrap64 (a2 + 1)) * (wrap64 ((l0.length : Int) / a1_0)))) : Int).toNat).drop ((wrap64 (a2 * (wrap64 ((l0.length : Int) / a1_0)))) : Int).toNat) bt564.1).bind fun t572 => (some t572)) else (none)) else (some false)) else (some false))) else (none)) else (none)) else (none)) else (none)) = some r := by first | (rw [hy557]; with_reducible exact H) | (have H2_ := (yV _ _).symm.trans H; rw [hy557]; with_reducible exact H2_) | (have H2_ := (yV _ _).symm.trans H; with_reducible exact H2_) | with_reducible exact H | (rw [hy557]; exact H) | exact H
           have Ny557 := zK hy557
           clear hy557
           obtain ⟨ji56, hji56⟩ : ∃ j_ : Int, (wrap64 (a2 * (wrap64 ((l0.length : Int) / a1_0)))) = j_ := ⟨_, rfl⟩
           replace H : (if 0 ≤ (ji56) then (if (ji56) ≤ (wrap64 ((wrap64 (a2 + 1)) * (wrap64 ((l0.length : Int) / a1_0)))) then (if (wrap64 ((wrap64 (a2 + 1)) * (wrap64 ((l0.length : Int) / a1_0)))) ≤ (l0.length : Int) then (if y557.length + ((l0.take ((wrap64 ((wrap64 (a2 + 1)) * (wrap64 ((l0.length : Int) / a1_0)))) : Int).toNat).drop ((ji56) : Int).toNat).length < 140737488355328 then ((attend_Look.f k3 (y557 ++ ((l0.take ((wrap64 ((wrap64 (a2 + 1)) * (wrap64 ((l0.length : Int) / a1_0)))) : Int).toNat).drop ((ji56) : Int).toNat)) 1 x14_3 a1_1).bind fun bt564 => (if bt564.2 = 0 then (if (t523.length : Int) = (l0.length : Int) then (if (wrap64 ((wrap64 (a2 + 1)) * (wrap64 ((l0.length : Int) / a1_0)))) ≤ (t523.length : Int) then ((w19_rows.f k3 ((t523.take ((wrap64 ((wrap64 (a2 + 1)) * (wrap64 ((l0.length : Int) / a1_0)))) : Int).toNat).drop ((ji56) : Int).toNat) bt564.1).bind fun t572 => (some t572)) else (none)) else (some false)) else (some false))) else (none)) else (none)) else (none)) else (none)) = some r := by first | (rw [hji56] at H; exact H) | (simp only [hji56] at H ⊢; exact H)
           have hji56w : (IntKind.i64.wrap (a2 * (wrap64 ((l0.length : Int) / a1_0)))) = ji56 := (i64_w _).trans hji56
           by_cases c57 : 0 ≤ (ji56)
           ·rw [if_pos c57] at H
            have c57b0 := yg c57
            have c57b1 : decide (0 ≤ (ji56)) = true := yC c57
            clear c57
            by_cases c58 : (ji56) ≤ (wrap64 ((wrap64 (a2 + 1)) * (wrap64 ((l0.length : Int) / a1_0))))
            ·rw [if_pos c58] at H
             have c58b0 := yg c58
             have c58b1 : decide ((ji56) ≤ (wrap64 ((wrap64 (a2 + 1)) * (wrap64 ((l0.length : Int) / a1_0))))) = true := yC c58
             by_cases c59 : (wrap64 ((wrap64 (a2 + 1)) * (wrap64 ((l0.length : Int) / a1_0)))) ≤ (l0.length : Int)
             ·rw [if_pos c59] at H
              have c59b0 := yg c59
              have c59b1 : decide ((wrap64 ((wrap64 (a2 + 1)) * (wrap64 ((l0.length : Int) / a1_0)))) ≤ (l0.length : Int)) = true := yC c59
              by_cases c60 : y557.length + ((l0.take ((wrap64 ((wrap64 (a2 + 1)) * (wrap64 ((l0.length : Int) / a1_0)))) : Int).toNat).drop ((ji56) : Int).toNat).length < 140737488355328
              ·rw [if_pos c60] at H
               have LMc60 := zK c60
               clear c60
               obtain ⟨y561, hy561⟩ : ∃ y_ : List Int, y_ = (y557 ++ ((l0.take ((wrap64 ((wrap64 (a2 + 1)) * (wrap64 ((l0.length : Int) / a1_0)))) : Int).toNat).drop ((ji56) : Int).toNat)) := ⟨_, rfl⟩
               replace H : ((attend_Look.f k3 y561 1 x14_3 a1_1).bind fun bt564 => (if bt564.2 = 0 then (if (t523.length : Int) = (l0.length : Int) then (if (wrap64 ((wrap64 (a2 + 1)) * (wrap64 ((l0.length : Int) / a1_0)))) ≤ (t523.length : Int) then ((w19_rows.f k3 ((t523.take ((wrap64 ((wrap64 (a2 + 1)) * (wrap64 ((l0.length : Int) / a1_0)))) : Int).toNat).drop ((ji56) : Int).toNat) bt564.1).bind fun t572 => (some t572)) else (none)) else (some false)) else (some false))) = some r := by first | (rw [hy561]; with_reducible exact H) | (have H2_ := (yV _ _).symm.trans H; rw [hy561]; with_reducible exact H2_) | (have H2_ := (yV _ _).symm.trans H; with_reducible exact H2_) | with_reducible exact H | (rw [hy561]; exact H) | exact H
               have Ny561 := zK hy561
               clear hy561
               replace H := yA.mp H
               obtain ⟨⟨t564, t567⟩, A610, H⟩ := H
               replace H : (if t567 = 0 then (if (t523.length : Int) = (l0.length : Int) then (if (wrap64 ((wrap64 (a2 + 1)) * (wrap64 ((l0.length : Int) / a1_0)))) ≤ (t523.length : Int) then ((w19_rows.f k3 ((t523.take ((wrap64 ((wrap64 (a2 + 1)) * (wrap64 ((l0.length : Int) / a1_0)))) : Int).toNat).drop ((ji56) : Int).toNat) t564).bind fun t572 => (some t572)) else (none)) else (some false)) else (some false)) = some r := H
               have A61 := zK A610
               clear A610
               by_cases c62 : t567 = 0
               ·rw [if_pos c62] at H
                have c62b0 : (t567 == 0) = true := beq_iff_eq.mpr c62
                have c62b1 : (t567 != 0) = false := bne_eq_false_iff_eq.mpr c62
                clear c62
                by_cases c63 : (t523.length : Int) = (l0.length : Int)
                ·rw [if_pos c63] at H
                 have c63b0 : ((t523.length : Int) == (l0.length : Int)) = true := beq_iff_eq.mpr c63
                 have c63b1 : ((t523.length : Int) != (l0.length : Int)) = false := bne_eq_false_iff_eq.mpr c63
                 have c63b2 : (t523.length == l0.length) = true := by first | simpa using c63 | (simp at c63 ⊢; omega)
                 clear c63
                 have c64b0 := yg (yB (by first | (with_reducible assumption) | assumption) : 0 ≤ (ji56))
                 have c65b0 := yg (yB (by first | (with_reducible assumption) | assumption) : (ji56) ≤ (wrap64 ((wrap64 (a2 + 1)) * (wrap64 ((l0.length : Int) / a1_0)))))
                 by_cases c66 : (wrap64 ((wrap64 (a2 + 1)) * (wrap64 ((l0.length : Int) / a1_0)))) ≤ (t523.length : Int)
                 ·rw [if_pos c66] at H
                  have c66b0 := yg c66
                  have c66b1 : decide ((wrap64 ((wrap64 (a2 + 1)) * (wrap64 ((l0.length : Int) / a1_0)))) ≤ (t523.length : Int)) = true := yC c66
                  obtain ⟨y568, hy568⟩ : ∃ y_ : List Int, y_ = ((t523.take ((wrap64 ((wrap64 (a2 + 1)) * (wrap64 ((l0.length : Int) / a1_0)))) : Int).toNat).drop ((ji56) : Int).toNat) := ⟨_, rfl⟩
                  replace H : ((w19_rows.f k3 y568 t564).bind fun t572 => (some t572)) = some r := by first | (rw [hy568]; with_reducible exact H) | (have H2_ := (yV _ _).symm.trans H; rw [hy568]; with_reducible exact H2_) | (have H2_ := (yV _ _).symm.trans H; with_reducible exact H2_) | with_reducible exact H | (rw [hy568]; exact H) | exact H
                  have Ny568 := zK hy568
                  clear hy568
                  replace H := yA.mp H
                  obtain ⟨t572, A670, H⟩ := H
                  replace H : (some t572) = some r := H
                  have A67 := zK A670
                  clear A670
                  obtain rfl := yY H
                  have hcz68_0 : wr.cell? ⟨Z3, 0, none⟩ = some (.int .i64 a1_0) := (zO Z0.out 0).trans rfl
                  have hcz68_1 : wr.cell? ⟨Z3, 1, none⟩ = some (.int .i64 a1_1) := (zO Z0.out 1).trans rfl
                  have hcz68_2 : wr.cell? ⟨Z3, 2, none⟩ = some (.slice A1_2 l1_2.length c1_2) := (zO Z0.out 2).trans rfl
                  have hfz68_0 := yE Z0.out 0
                  have hfz68_1 := yE Z0.out 1
                  have hfz68_2 := yE Z0.out 2
                  try go_wp2
                  have n0_ := zK (zN HO_7.out)
                  have n1_ := zK (Kd.S_drew HO_14.out)
                  have n2_ := zK (zH Z0.out)
                  have n3_ := zK (zE HB.out)
                  clear HO_7 HO_14 Z0 HB
                  have HO_7 := n0_; have HO_14 := n1_; have Z0 := n2_; have HB := n3_
                  clear n0_ n1_ n2_ n3_
                  obtain ⟨i070, hi070, _, hsz70, _⟩ := yj info53
                  obtain ⟨A70, hcut70, hA70, hC70⟩ := print_mid_of (P := Try.prog) (Value.int .i8) 0 22 53 .i64 .i64 Try.underlying22 hi070 hsz70 A0 c0 l0 (ji56) (wrap64 ((wrap64 (a2 + 1)) * (wrap64 ((l0.length : Int) / a1_0)))) (yB (by first | (with_reducible assumption) | assumption)) (by first | omega | exact yB (by first | (with_reducible assumption) | assumption)) (yB (by first | (with_reducible assumption) | assumption)) HC0.out
                  have HR560 := zK (Kd.C_of_reads (h1 := fun _ => rfl) (hA70 _ (Kd.reads_of_C HR0.out)))
                  have HC560 := zK hC70
                  clear hA70 hC70 hi070 hsz70
                  refine start_ (n := 15) (S := fun w' => w'.cell? ⟨Z3, 0, none⟩ = some (.int .i64 a1_0) ∧ w'.cell? ⟨Z3, 1, none⟩ = some (.int .i64 a1_1) ∧ w'.cell? ⟨Z3, 2, none⟩ = some (.slice A1_2 l1_2.length c1_2)) (ds := []) #[false, false, false, false, false, false, false, false, false, false, false, false, false, false, false] (by kernel_rfl) rfl rfl ⟨(zO Z0.out 0).trans rfl, (zO Z0.out 1).trans rfl, (zO Z0.out 2).trans rfl⟩ (fun hHeld => ?_); refine with_tabW w19_AttendApart.tab14 w19_AttendApart.bits14 (fun HT_ HW_ => ?_)
                  generalize wr.drew = w69 at HO_7 HO_14 Z0 HB HR560 hHeld ⊢
                  refine pure_ (i := 1) (N := some 108) (v := ?_) (a' := ?_) #[false, true, false, false, false, false, false, false, false, false, false, false, false, false, false] rfl rfl (any_of HT_.out (by kernel_rfl)) (fun _ _ _ h => h) (Or.inl ⟨by rfl, ?_⟩) ?_ ?_
                  rotate_left
                  ·intro w'
                   go_simp
                   with_reducible rfl
                  rotate_left
                  ·simp only [Act.put, zA, zB, zC, i64_w, i32_w]
                   rfl
                  refine pure_ (i := 2) (N := some 109) (v := ?_) (a' := ?_) #[false, true, true, false, false, false, false, false, false, false, false, false, false, false, false] rfl rfl (any_of HT_.out (by kernel_rfl)) (fun _ _ _ h => h) (Or.inl ⟨by rfl, ?_⟩) ?_ ?_
                  rotate_left
                  ·intro w'
                   go_simp
                   with_reducible rfl
                  rotate_left
                  ·simp only [Act.put, zA, zB, zC, i64_w, i32_w]
                   rfl
                  refine pure_ (i := 3) (N := some 110) (v := ?_) (a' := ?_) #[false, true, true, true, false, false, false, false, false, false, false, false, false, false, false] rfl rfl (any_of HT_.out (by kernel_rfl)) (fun _ _ _ h => h) (Or.inl ⟨by rfl, ?_⟩) ?_ ?_
                  rotate_left
                  ·intro w'
                   go_simp
                   with_reducible rfl
                  rotate_left
                  ·simp only [Act.put, zA, zB, zC, i64_w, i32_w]
                   rfl
                  refine pure_ (i := 4) (N := some 111) (v := ?_) (a' := ?_) #[false, true, true, true, true, false, false, false, false, false, false, false, false, false, false] rfl rfl (any_of HT_.out (by kernel_rfl)) (fun _ _ _ h => h) (Or.inl ⟨by rfl, ?_⟩) ?_ ?_
                  rotate_left
                  ·intro w'
                   go_simp
                   with_reducible rfl
                  rotate_left
                  ·simp only [Act.put, zA, zB, zC, i64_w, i32_w]
                   rfl
                  refine pure_ (i := 6) (N := some 113) (v := ?_) (a' := ?_) #[false, true, true, true, true, false, true, false, false, false, false, false, false, false, false] rfl rfl (any_of HT_.out (by kernel_rfl)) (fun _ _ _ h => h) (Or.inl ⟨by rfl, ?_⟩) ?_ ?_
                  rotate_left
                  ·intro w'
                   go_simp
                   with_reducible rfl
                  rotate_left
                  ·simp only [Act.put, zA, zB, zC, i64_w, i32_w]
                   rfl
                  refine pure_ (i := 7) (N := some 114) (v := ?_) (a' := ?_) #[false, true, true, true, true, false, true, true, false, false, false, false, false, false, false] rfl rfl (any_of HT_.out (by kernel_rfl)) (fun _ _ _ h => h) (Or.inl ⟨by rfl, ?_⟩) ?_ ?_
                  rotate_left
                  ·intro w'
                   go_simp
                   with_reducible rfl
                  rotate_left
                  ·simp only [Act.put, zA, zB, zC, i64_w, i32_w]
                   rfl
                  refine take_ (i := 8) (N := some 115) (v := ?_) (a' := ?_) #[false, true, true, true, true, false, true, true, true, false, false, false, false, false, false] rfl rfl (take_ofW HT_.out HW_.out (by kernel_rfl)) (fun _ _ _ h => h) (Or.inl ⟨by rfl, ?_⟩) hHeld ?_ ?_
                  rotate_left
                  ·rintro w' ⟨s0, s1, s2⟩
                   go_simp
                   with_reducible rfl
                  rotate_left
                  ·simp only [Act.put, zA, zB, zC, i64_w, i32_w]
                   rfl
                  refine one_ (i := 0) (N := some 107) #[true, true, true, true, true, false, true, true, true, false, false, false, false, false, false] rfl rfl (one_of HT_.out (by kernel_rfl)) (by decide) (fun K hK => ?_)
                  refine Kd.R_lit_step (Kd.int .i8) _ 53 ?hg (N := 107) ?hd (xs := ([] : List Int)) (inner := []) (ok := fun _ => True) (okp := fun _ => True) ?hr ?hp (fun _ hk => hk) trivial (Below.refl _ _) (yN _) (by simp) ?_; (case hd => rfl); (case hg => rfl); (case hr => first | (go_simp; done) | (go_simp; rfl)); (case hp => exact (Reps.none _ _))
                  intro v558 w71 ho72 hb hg_ hnew_
                  clear hg_ hnew_
                  (first | rw [← Ny557.out] at ho72 | (simp only [Int.reduceToNat] at ho72; rw [← Ny557.out] at ho72))
                  have n0_ := zK (Kd.R_elder' (by (with_reducible repeat (first | apply zL | apply zM | apply zN)); exact HO_7.out) (Kd.R_base ho72) hb)
                  have n1_ := zK (Kd.S_elder' (by (with_reducible repeat (first | apply Kd.S_alloc | apply Kd.S_drewN | apply Kd.S_drew)); exact HO_14.out) (Kd.R_base ho72) hb)
                  have n2_ := zK (Kd.R_lower (Kd.R_new' ho72 (Kd.R_lt (by (with_reducible repeat (first | apply zL | apply zM | apply zN)); exact HO_7.out))) (yK (by repeat (first | (with_reducible first | exact HB.out | apply zJ | apply zD | apply zE | refine zI ?_ Z1.out) | exact HB.out))))
                  have n3_ := zK (zP (g := Z3) (o := .cells #[.int .i64 a1_0, .int .i64 a1_1, .slice A1_2 l1_2.length c1_2] 43 (0, 0)) (by (with_reducible repeat (first | refine zF ?_ _ | refine zH ?_ | refine zG ?_ _)); exact Z0.out) hb)
                  have n4_ := zK (yL (by repeat (first | (with_reducible first | exact HB.out | apply zJ | apply zD | apply zE | refine zI ?_ Z1.out) | exact HB.out)) hb)
                  clear HO_7 HO_14 Z0 HB
                  have HO_7 := n0_; have HO_14 := n1_; have HO559 := n2_; have Z0 := n3_; have HB := n4_
                  clear n0_ n1_ n2_ n3_ n4_ hb ho72
                  refine hK.out _ _ ⟨(zO Z0.out 0).trans rfl, (zO Z0.out 1).trans rfl, (zO Z0.out 2).trans rfl⟩ (fun hHeld => ?_)
                  clear hK K
                  refine norm_ (a' := ?_) ?_ ?_
                  rotate_left
                  ·show Act.put _ (some 107) _ = _
                   simp only [Act.put, zA, zB, zC, i64_w, i32_w]
                   rfl
                  refine one_ (i := 5) (N := some 112) #[true, true, true, true, true, true, true, true, true, false, false, false, false, false, false] rfl rfl (one_of HT_.out (by kernel_rfl)) (by decide) (fun K hK => ?_)
                  refine Kd.R_append_rows_step (Kd.int .i8) (w0 := w) w.heap.size (by rfl) (.tmp 107) (.tmp 111) 22 53 (.int .i8 0) 1 rfl Try.underlying22 info53 rfl (by decide) (by omega) v558 y557 ((l0.take ((wrap64 ((wrap64 (a2 + 1)) * (wrap64 ((l0.length : Int) / a1_0)))) : Int).toNat).drop ((ji56) : Int).toNat) _ _ _ (fun k_ => some k_ ≠ (v524 : Value).ownBlock) (fun _ => False) rfl rfl ?aO ?aR (fun _ _ h => h) (fun _ h => h.elim) ?aF ?aB ?aS ?aL ?_
                  (case aR => first | (rw [← show ((l0.take ((wrap64 ((wrap64 (a2 + 1)) * (wrap64 ((l0.length : Int) / a1_0)))) : Int).toNat).drop ((ji56) : Int).toNat).length = ((wrap64 ((wrap64 (a2 + 1)) * (wrap64 ((l0.length : Int) / a1_0)))).toNat - (ji56).toNat) from (by rw [yG, yF]; have h_ : ((wrap64 ((wrap64 (a2 + 1)) * (wrap64 ((l0.length : Int) / a1_0)))) : Int) ≤ (l0.length : Int) := yB (by first | (with_reducible assumption) | assumption); omega)]; repeat (first | exact (yc HR560.out HB.out) | (with_reducible refine yS ?_ _) | (with_reducible refine yT ?_ _) | (with_reducible refine yU ?_))) | (repeat (first | exact (yc HR560.out HB.out) | (with_reducible refine yS ?_ _) | (with_reducible refine yT ?_ _) | (with_reducible refine yU ?_))))
                  (case aB => exact (by repeat (first | (with_reducible first | exact HB.out | apply zJ | apply zD | apply zE | refine zI ?_ Z1.out) | exact HB.out)))
                  (case aF => exact (fun k_ hk => Kd.fresh' (Kd.R_lt (by (with_reducible repeat (first | apply zL | apply zM | apply zN)); exact HO_7.out)) k_ hk))
                  (case aO => exact (by (with_reducible repeat (first | apply zL | apply zM | apply zN)); exact yd HO559.out (fun _ hk => hk.2)))
                  (case aS => exact (yK (by repeat (first | (with_reducible first | exact HB.out | apply zJ | apply zD | apply zE | refine zI ?_ Z1.out) | exact HB.out))))
                  (case aL => have := LMc60.out; have hlx_ := (show ((l0.take ((wrap64 ((wrap64 (a2 + 1)) * (wrap64 ((l0.length : Int) / a1_0)))) : Int).toNat).drop ((ji56) : Int).toNat).length = ((wrap64 ((wrap64 (a2 + 1)) * (wrap64 ((l0.length : Int) / a1_0)))).toNat - (ji56).toNat) from (by rw [yG, yF]; have h_ : ((wrap64 ((wrap64 (a2 + 1)) * (wrap64 ((l0.length : Int) / a1_0)))) : Int) ≤ (l0.length : Int) := yB (by first | (with_reducible assumption) | assumption); omega)); omega)
                  intro v562 w73 ho hb hg hat
                  rw [← Ny561.out] at ho
                  have n0_ := zK (Kd.R_after (ok := (fun _ => True)) (by (with_reducible repeat (first | apply zL | apply zM | apply zN)); exact HO_7.out) hg hat)
                  have n1_ := zK (Kd.S_after (ok := (fun k_ => some k_ ≠ (v524 : Value).ownBlock)) (by (with_reducible repeat (first | apply Kd.S_alloc | apply Kd.S_drewN | apply Kd.S_drew)); exact HO_14.out) hg hat)
                  have n2_ := zK (blk_grown (g := Z3) (o := .cells #[.int .i64 a1_0, .int .i64 a1_1, .slice A1_2 l1_2.length c1_2] 43 (0, 0)) (by (with_reducible repeat (first | refine zF ?_ _ | refine zH ?_ | refine zG ?_ _)); exact Z0.out) hg (Kd.R_ne HO559.out Z0.out (by decide)))
                  have n3_ := zK (hb)
                  have n4_ := zK (ho)
                  clear HO_7 HO_14 Z0 HB HO559
                  have HO_7 := n0_; have HO_14 := n1_; have Z0 := n2_; have HB := n3_; have HO563 := n4_
                  clear n0_ n1_ n2_ n3_ n4_ ho hb hg hat
                  obtain ⟨Ao74, co74, eo74⟩ := Kd.R_slice HO563.out
                  (first | subst eo74 | (injection eo74 with f1_ f2_ f3_; have f4_ := f1_.symm; have f5_ := f3_.symm; clear f1_ f2_ f3_; subst f4_; subst f5_))
                  obtain ⟨Ao75, co75, eo75⟩ := Kd.S_slice HO_14.out
                  (first | subst eo75 | (injection eo75 with f1_ f2_ f3_; have f4_ := f1_.symm; have f5_ := f3_.symm; clear f1_ f2_ f3_; subst f4_; subst f5_))
                  refine hK.out _ _ ⟨(zO Z0.out 0).trans rfl, (zO Z0.out 1).trans rfl, (zO Z0.out 2).trans rfl⟩ (fun hHeld => ?_)
                  clear hK K
                  refine norm_ (a' := ?_) ?_ ?_
                  rotate_left
                  ·show Act.put _ (some 112) _ = _
                   simp only [Act.put, zA, zB, zC, i64_w, i32_w]
                   rfl
                  refine one_ (i := 9) (N := some 116) #[true, true, true, true, true, true, true, true, true, true, false, false, false, false, false] rfl rfl (one_of HT_.out (by kernel_rfl)) (by decide) (fun K hK => ?_)
                  refine goes_ Try.func19 (by kernel_rfl) rfl #[.slice Ao74 y561.length co74, .int .i64 1, .slice Ao75 x14_3.length co75, .int .i64 a1_1] (by rfl) rfl rfl (by (try simp only [yH, yI, yJ]); first | done | rfl | (simp only [yG, yF]; rfl)) ?_
                  with_reducible refine (attend_Look.calls k3 _ _ y561 1 (fun k_ => ((some k_ ≠ (v524 : Value).ownBlock ∧ some k_ ≠ (.slice Ao74 y561.length co74 : Value).ownBlock) ∧ k_ ≠ Z3)) _ _ x14_3 a1_1 t564 t567 _ ?side1 ?side2 ?side3 A61.out).mono ?_
                  (case side1 => repeat (first | exact (yM HO563.out).2.2 | (with_reducible refine yS ?_ _) | (with_reducible refine yT ?_ _) | (with_reducible refine yU ?_)))
                  (case side2 => exact (yM HO563.out).2.1)
                  (case side3 => exact Kd.S_V (Kd.S_types (HO_14.out) Z0.out (by decide)))
                  rintro e w76 ⟨v565, rfl, ho0, hb⟩
                  refine ⟨_, rfl, ?_⟩
                  have n0_ := zK (Kd.R_elder' (by (with_reducible repeat (first | apply zL | apply zM | apply zN)); exact HO_7.out) (Kd.R_base ho0) hb)
                  have n1_ := zK (Kd.S_elder' (by (with_reducible repeat (first | apply Kd.S_alloc | apply Kd.S_drewN | apply Kd.S_drew)); exact HO_14.out) (Kd.R_base ho0) hb)
                  have n2_ := zK (Kd.R_elder' (by (with_reducible repeat (first | apply zL | apply zM | apply zN)); exact HO563.out) (Kd.R_base ho0) hb)
                  have n3_ := zK (Kd.R_lower (Kd.R_new' (Kd.R_new' (yd (ok' := fun k_ => True) ho0 (fun _ hk_ => trivial)) (Kd.R_lt (by (with_reducible repeat (first | apply zL | apply zM | apply zN)); exact HO_7.out))) (Kd.R_lt (by (with_reducible repeat (first | apply zL | apply zM | apply zN)); exact HO563.out))) (yK (by repeat (first | (with_reducible first | exact HB.out | apply zJ | apply zD | apply zE | refine zI ?_ Z1.out) | exact HB.out))))
                  have n4_ := zK (zP (g := Z3) (o := .cells #[.int .i64 a1_0, .int .i64 a1_1, .slice A1_2 l1_2.length c1_2] 43 (0, 0)) (by (with_reducible repeat (first | refine zF ?_ _ | refine zH ?_ | refine zG ?_ _)); exact Z0.out) hb)
                  have n5_ := zK (yL (by repeat (first | (with_reducible first | exact HB.out | apply zJ | apply zD | apply zE | refine zI ?_ Z1.out) | exact HB.out)) hb)
                  clear HO_7 HO_14 HO563 Z0 HB
                  have HO_7 := n0_; have HO_14 := n1_; have HO563 := n2_; have HO566 := n3_; have Z0 := n4_; have HB := n5_
                  clear n0_ n1_ n2_ n3_ n4_ n5_
                  (try clear hb)
                  (try clear hb2)
                  (try clear hk)
                  (try clear hi)
                  (try clear ho0)
                  refine hK.out _ _ ⟨(zO Z0.out 0).trans rfl, (zO Z0.out 1).trans rfl, (zO Z0.out 2).trans rfl⟩ (fun hHeld => ?_)
                  clear hK K
                  refine norm_ (a' := ?_) ?_ ?_
                  rotate_left
                  ·show Act.put _ (some 116) _ = _
                   simp only [Act.put, zA, zB, zC, i64_w, i32_w]
                   rfl
                  refine pure_ (i := 10) (N := some 106) (v := ?_) (a' := ?_) #[true, true, true, true, true, true, true, true, true, true, true, false, false, false, false] rfl rfl (any_of HT_.out (by kernel_rfl)) (fun _ _ _ h => h) (Or.inl ⟨by rfl, ?_⟩) ?_ ?_
                  rotate_left
                  ·intro w'
                   go_simp
                   with_reducible rfl
                  rotate_left
                  ·simp only [Act.put, zA, zB, zC, i64_w, i32_w]
                   rfl
                  refine pure_ (i := 11) (N := some 117) (v := ?_) (a' := ?_) #[true, true, true, true, true, true, true, true, true, true, true, true, false, false, false] rfl rfl (any_of HT_.out (by kernel_rfl)) (fun _ _ _ h => h) (Or.inl ⟨by rfl, ?_⟩) ?_ ?_
                  rotate_left
                  ·intro w'
                   go_simp
                   with_reducible rfl
                  rotate_left
                  ·simp only [Act.put, zA, zB, zC, i64_w, i32_w]
                   rfl
                  refine pure_ (i := 12) (N := some 118) (v := ?_) (a' := ?_) #[true, true, true, true, true, true, true, true, true, true, true, true, true, false, false] rfl rfl (any_of HT_.out (by kernel_rfl)) (fun _ _ _ h => h) (Or.inl ⟨by rfl, ?_⟩) ?_ ?_
                  rotate_left
                  ·intro w'
                   go_simp
                   with_reducible rfl
                  rotate_left
                  ·simp only [Act.put, zA, zB, zC, i64_w, i32_w]
                   rfl
                  refine pure_ (i := 13) (N := some 16) (v := ?_) (a' := ?_) #[true, true, true, true, true, true, true, true, true, true, true, true, true, true, false] rfl rfl (any_of HT_.out (by kernel_rfl)) (fun _ _ _ h => h) (Or.inl ⟨by rfl, ?_⟩) ?_ ?_
                  rotate_left
                  ·intro w'
                   go_simp
                   with_reducible rfl
                  rotate_left
                  ·simp only [Act.put, zA, zB, zC, i64_w, i32_w]
                   rfl
                  refine pure_ (i := 14) (N := some 17) (v := ?_) (a' := ?_) #[true, true, true, true, true, true, true, true, true, true, true, true, true, true, true] rfl rfl (any_of HT_.out (by kernel_rfl)) (fun _ _ _ h => h) (Or.inl ⟨by rfl, ?_⟩) ?_ ?_
                  rotate_left
                  ·intro w'
                   go_simp
                   with_reducible rfl
                  rotate_left
                  ·simp only [Act.put, zA, zB, zC, i64_w, i32_w]
                   rfl
                  refine done_ (done_of HT_.out (by kernel_rfl)) ?_
                  obtain ⟨Ao77, co77, eo77⟩ := Kd.R_slice HO_7.out
                  subst eo77
                  have q78 : ((wrap64 ((wrap64 (a2 + 1)) * (wrap64 ((l0.length : Int) / a1_0)))) : Int) ≤ ((t523.length : Int) : Int) := yB (by first | (with_reducible assumption) | assumption)
                  obtain ⟨i078, hi078, _, hsz78, _⟩ := yj info53
                  have hroom78 : t523.length ≤ co77 := (yM HO_7.out).2.1
                  have hC78 : Kd.C (Kd.int .i8) _ Ao77 t523.length t523 := (yM HO_7.out).2.2
                  have ql78 : ((ji56) : Int) ≤ ((wrap64 ((wrap64 (a2 + 1)) * (wrap64 ((l0.length : Int) / a1_0)))) : Int) := yB (by first | (with_reducible assumption) | assumption)
                  have q078 : (0 : Int) ≤ ((ji56) : Int) := yB (by first | (with_reducible assumption) | assumption)
                  have hcut78 := cut_mid (P := Try.prog) 22 53 .i64 .i64 Try.underlying22 hi078 1 hsz78 Ao77 t523.length co77 (ji56) (wrap64 ((wrap64 (a2 + 1)) * (wrap64 ((l0.length : Int) / a1_0)))) q078 ql78 q78 hroom78
                  have hr78 := Kd.C_mid (lo := ((ji56) : Int).toNat) (hi := ((wrap64 ((wrap64 (a2 + 1)) * (wrap64 ((l0.length : Int) / a1_0)))) : Int).toNat) (c := co77) hC78 (by omega) (by omega) hroom78
                  obtain ⟨A78, hA78⟩ : ∃ Aq_, Aq_ = (if co77 = ((ji56) : Int).toNat then Ao77 else (Ao77 : Option Addr).map (·.add (((ji56) : Int).toNat * 1))) := ⟨_, rfl⟩
                  obtain ⟨c78, hc78⟩ : ∃ cq_, cq_ = co77 - ((ji56) : Int).toNat := ⟨_, rfl⟩
                  have hy78 : y568.length = ((wrap64 ((wrap64 (a2 + 1)) * (wrap64 ((l0.length : Int) / a1_0)))) : Int).toNat - ((ji56) : Int).toNat := (by rw [Ny568.out, yG, yF] <;> omega)
                  rw [show ((t523).take ((wrap64 ((wrap64 (a2 + 1)) * (wrap64 ((l0.length : Int) / a1_0)))) : Int).toNat).drop ((ji56) : Int).toNat = y568 from Ny568.out.symm] at hr78
                  replace hr78 : Kd.C (Kd.int .i8) _ A78 y568.length y568 := (by rw [hA78]; exact hr78)
                  rw [← hy78, ← hA78, ← hc78] at hcut78
                  have HR571 := zK hr78
                  have HC571 := zK (show y568.length ≤ c78 from by rw [hy78, hc78]; exact Nat.sub_le_sub_right (yl (by omega) hroom78) _)
                  clear hr78 hC78 hroom78 hi078 hsz78 hc78
                  have KY78 := zK hy78
                  have KA78 := zK hA78
                  clear hy78 hA78
                  have KL78 := zK (show ((wrap64 ((wrap64 (a2 + 1)) * (wrap64 ((l0.length : Int) / a1_0)))) : Int).toNat ≤ t523.length from by omega)
                  have KM78 := zK (show ((ji56) : Int).toNat ≤ ((wrap64 ((wrap64 (a2 + 1)) * (wrap64 ((l0.length : Int) / a1_0)))) : Int).toNat from by omega)
                  replace q78 := yg q78
                  obtain ⟨Ao79, co79, eo79⟩ := Kd.R_slice HO566.out
                  subst eo79
                  try go_wp2_with (first | (go_at_call 17; (with_reducible refine (w19_rows.calls k3 _ _ y568 _ _ t564 t572 _ ?side1 ?side2 ?side3 ?side4 A67.out).mono ?_); (case side1 => repeat (first | exact (by repeat (first | (with_reducible exact HR571.out) | (with_reducible refine yS ?_ _) | (with_reducible refine yT ?_ _) | (with_reducible refine yU ?_) | exact HR571.out)) | (with_reducible refine yS ?_ _) | (with_reducible refine yT ?_ _) | (with_reducible refine yU ?_))); (case side2 => exact HC571.out); (case side3 => repeat (first | exact (yM HO566.out).2.2 | (with_reducible refine yS ?_ _) | (with_reducible refine yT ?_ _) | (with_reducible refine yU ?_))); (case side4 => exact (yM HO566.out).2.1); rintro e w' ⟨rfl, ⟨nd, rfl⟩⟩))
                  go_ret
                  exact ⟨by first | rfl | (simp [errW_none, errW_some] <;> rfl) | (simp only [← hji56]; first | rfl | (simp [errW_none, errW_some] <;> rfl)) | (simp [*, errW_none, errW_some] <;> rfl), by repeat (first | (with_reducible first | exact HB.out | apply zJ | apply zD | apply zE | refine zI ?_ Z1.out) | exact HB.out)⟩
                 ·rw [if_neg c66] at H
                  exact absurd H (by simp)
                ·rw [if_neg c63] at H
                 have c63b0 : ((t523.length : Int) == (l0.length : Int)) = false := beq_eq_false_iff_ne.mpr c63
                 have c63b1 : ((t523.length : Int) != (l0.length : Int)) = true := bne_iff_ne.mpr c63
                 have c63b2 : (t523.length == l0.length) = false := by first | simpa using c63 | (simp at c63 ⊢; omega)
                 obtain rfl := yY H
                 have hcz80_0 : wr.cell? ⟨Z3, 0, none⟩ = some (.int .i64 a1_0) := (zO Z0.out 0).trans rfl
                 have hcz80_1 : wr.cell? ⟨Z3, 1, none⟩ = some (.int .i64 a1_1) := (zO Z0.out 1).trans rfl
                 have hcz80_2 : wr.cell? ⟨Z3, 2, none⟩ = some (.slice A1_2 l1_2.length c1_2) := (zO Z0.out 2).trans rfl
                 have hfz80_0 := yE Z0.out 0
                 have hfz80_1 := yE Z0.out 1
                 have hfz80_2 := yE Z0.out 2
                 try go_wp2
                 have n0_ := zK (zN HO_7.out)
                 have n1_ := zK (Kd.S_drew HO_14.out)
                 have n2_ := zK (zH Z0.out)
                 have n3_ := zK (zE HB.out)
                 clear HO_7 HO_14 Z0 HB
                 have HO_7 := n0_; have HO_14 := n1_; have Z0 := n2_; have HB := n3_
                 clear n0_ n1_ n2_ n3_
                 obtain ⟨i082, hi082, _, hsz82, _⟩ := yj info53
                 obtain ⟨A82, hcut82, hA82, hC82⟩ := print_mid_of (P := Try.prog) (Value.int .i8) 0 22 53 .i64 .i64 Try.underlying22 hi082 hsz82 A0 c0 l0 (ji56) (wrap64 ((wrap64 (a2 + 1)) * (wrap64 ((l0.length : Int) / a1_0)))) (yB (by first | (with_reducible assumption) | assumption)) (by first | omega | exact yB (by first | (with_reducible assumption) | assumption)) (yB (by first | (with_reducible assumption) | assumption)) HC0.out
                 have HR560 := zK (Kd.C_of_reads (h1 := fun _ => rfl) (hA82 _ (Kd.reads_of_C HR0.out)))
                 have HC560 := zK hC82
                 clear hA82 hC82 hi082 hsz82
                 refine start_ (n := 15) (S := fun w' => w'.cell? ⟨Z3, 0, none⟩ = some (.int .i64 a1_0) ∧ w'.cell? ⟨Z3, 1, none⟩ = some (.int .i64 a1_1) ∧ w'.cell? ⟨Z3, 2, none⟩ = some (.slice A1_2 l1_2.length c1_2)) (ds := []) #[false, false, false, false, false, false, false, false, false, false, false, false, false, false, false] (by kernel_rfl) rfl rfl ⟨(zO Z0.out 0).trans rfl, (zO Z0.out 1).trans rfl, (zO Z0.out 2).trans rfl⟩ (fun hHeld => ?_); refine with_tabW w19_AttendApart.tab14 w19_AttendApart.bits14 (fun HT_ HW_ => ?_)
                 generalize wr.drew = w81 at HO_7 HO_14 Z0 HB HR560 hHeld ⊢
                 refine pure_ (i := 1) (N := some 108) (v := ?_) (a' := ?_) #[false, true, false, false, false, false, false, false, false, false, false, false, false, false, false] rfl rfl (any_of HT_.out (by kernel_rfl)) (fun _ _ _ h => h) (Or.inl ⟨by rfl, ?_⟩) ?_ ?_
                 rotate_left
                 ·intro w'
                  go_simp
                  with_reducible rfl
                 rotate_left
                 ·simp only [Act.put, zA, zB, zC, i64_w, i32_w]
                  rfl
                 refine pure_ (i := 2) (N := some 109) (v := ?_) (a' := ?_) #[false, true, true, false, false, false, false, false, false, false, false, false, false, false, false] rfl rfl (any_of HT_.out (by kernel_rfl)) (fun _ _ _ h => h) (Or.inl ⟨by rfl, ?_⟩) ?_ ?_
                 rotate_left
                 ·intro w'
                  go_simp
                  with_reducible rfl
                 rotate_left
                 ·simp only [Act.put, zA, zB, zC, i64_w, i32_w]
                  rfl
                 refine pure_ (i := 3) (N := some 110) (v := ?_) (a' := ?_) #[false, true, true, true, false, false, false, false, false, false, false, false, false, false, false] rfl rfl (any_of HT_.out (by kernel_rfl)) (fun _ _ _ h => h) (Or.inl ⟨by rfl, ?_⟩) ?_ ?_
                 rotate_left
                 ·intro w'
                  go_simp
                  with_reducible rfl
                 rotate_left
                 ·simp only [Act.put, zA, zB, zC, i64_w, i32_w]
                  rfl
                 refine pure_ (i := 4) (N := some 111) (v := ?_) (a' := ?_) #[false, true, true, true, true, false, false, false, false, false, false, false, false, false, false] rfl rfl (any_of HT_.out (by kernel_rfl)) (fun _ _ _ h => h) (Or.inl ⟨by rfl, ?_⟩) ?_ ?_
                 rotate_left
                 ·intro w'
                  go_simp
                  with_reducible rfl
                 rotate_left
                 ·simp only [Act.put, zA, zB, zC, i64_w, i32_w]
                  rfl
                 refine pure_ (i := 6) (N := some 113) (v := ?_) (a' := ?_) #[false, true, true, true, true, false, true, false, false, false, false, false, false, false, false] rfl rfl (any_of HT_.out (by kernel_rfl)) (fun _ _ _ h => h) (Or.inl ⟨by rfl, ?_⟩) ?_ ?_
                 rotate_left
                 ·intro w'
                  go_simp
                  with_reducible rfl
                 rotate_left
                 ·simp only [Act.put, zA, zB, zC, i64_w, i32_w]
                  rfl
                 refine pure_ (i := 7) (N := some 114) (v := ?_) (a' := ?_) #[false, true, true, true, true, false, true, true, false, false, false, false, false, false, false] rfl rfl (any_of HT_.out (by kernel_rfl)) (fun _ _ _ h => h) (Or.inl ⟨by rfl, ?_⟩) ?_ ?_
                 rotate_left
                 ·intro w'
                  go_simp
                  with_reducible rfl
                 rotate_left
                 ·simp only [Act.put, zA, zB, zC, i64_w, i32_w]
                  rfl
                 refine take_ (i := 8) (N := some 115) (v := ?_) (a' := ?_) #[false, true, true, true, true, false, true, true, true, false, false, false, false, false, false] rfl rfl (take_ofW HT_.out HW_.out (by kernel_rfl)) (fun _ _ _ h => h) (Or.inl ⟨by rfl, ?_⟩) hHeld ?_ ?_
                 rotate_left
                 ·rintro w' ⟨s0, s1, s2⟩
                  go_simp
                  with_reducible rfl
                 rotate_left
                 ·simp only [Act.put, zA, zB, zC, i64_w, i32_w]
                  rfl
                 refine one_ (i := 0) (N := some 107) #[true, true, true, true, true, false, true, true, true, false, false, false, false, false, false] rfl rfl (one_of HT_.out (by kernel_rfl)) (by decide) (fun K hK => ?_)
                 refine Kd.R_lit_step (Kd.int .i8) _ 53 ?hg (N := 107) ?hd (xs := ([] : List Int)) (inner := []) (ok := fun _ => True) (okp := fun _ => True) ?hr ?hp (fun _ hk => hk) trivial (Below.refl _ _) (yN _) (by simp) ?_; (case hd => rfl); (case hg => rfl); (case hr => first | (go_simp; done) | (go_simp; rfl)); (case hp => exact (Reps.none _ _))
                 intro v558 w83 ho84 hb hg_ hnew_
                 clear hg_ hnew_
                 (first | rw [← Ny557.out] at ho84 | (simp only [Int.reduceToNat] at ho84; rw [← Ny557.out] at ho84))
                 have n0_ := zK (Kd.R_elder' (by (with_reducible repeat (first | apply zL | apply zM | apply zN)); exact HO_7.out) (Kd.R_base ho84) hb)
                 have n1_ := zK (Kd.S_elder' (by (with_reducible repeat (first | apply Kd.S_alloc | apply Kd.S_drewN | apply Kd.S_drew)); exact HO_14.out) (Kd.R_base ho84) hb)
                 have n2_ := zK (Kd.R_lower (Kd.R_new' ho84 (Kd.R_lt (by (with_reducible repeat (first | apply zL | apply zM | apply zN)); exact HO_7.out))) (yK (by repeat (first | (with_reducible first | exact HB.out | apply zJ | apply zD | apply zE | refine zI ?_ Z1.out) | exact HB.out))))
                 have n3_ := zK (zP (g := Z3) (o := .cells #[.int .i64 a1_0, .int .i64 a1_1, .slice A1_2 l1_2.length c1_2] 43 (0, 0)) (by (with_reducible repeat (first | refine zF ?_ _ | refine zH ?_ | refine zG ?_ _)); exact Z0.out) hb)
                 have n4_ := zK (yL (by repeat (first | (with_reducible first | exact HB.out | apply zJ | apply zD | apply zE | refine zI ?_ Z1.out) | exact HB.out)) hb)
                 clear HO_7 HO_14 Z0 HB
                 have HO_7 := n0_; have HO_14 := n1_; have HO559 := n2_; have Z0 := n3_; have HB := n4_
                 clear n0_ n1_ n2_ n3_ n4_ hb ho84
                 refine hK.out _ _ ⟨(zO Z0.out 0).trans rfl, (zO Z0.out 1).trans rfl, (zO Z0.out 2).trans rfl⟩ (fun hHeld => ?_)
                 clear hK K
                 refine norm_ (a' := ?_) ?_ ?_
                 rotate_left
                 ·show Act.put _ (some 107) _ = _
                  simp only [Act.put, zA, zB, zC, i64_w, i32_w]
                  rfl
                 refine one_ (i := 5) (N := some 112) #[true, true, true, true, true, true, true, true, true, false, false, false, false, false, false] rfl rfl (one_of HT_.out (by kernel_rfl)) (by decide) (fun K hK => ?_)
                 refine Kd.R_append_rows_step (Kd.int .i8) (w0 := w) w.heap.size (by rfl) (.tmp 107) (.tmp 111) 22 53 (.int .i8 0) 1 rfl Try.underlying22 info53 rfl (by decide) (by omega) v558 y557 ((l0.take ((wrap64 ((wrap64 (a2 + 1)) * (wrap64 ((l0.length : Int) / a1_0)))) : Int).toNat).drop ((ji56) : Int).toNat) _ _ _ (fun k_ => some k_ ≠ (v524 : Value).ownBlock) (fun _ => False) rfl rfl ?aO ?aR (fun _ _ h => h) (fun _ h => h.elim) ?aF ?aB ?aS ?aL ?_
                 (case aR => first | (rw [← show ((l0.take ((wrap64 ((wrap64 (a2 + 1)) * (wrap64 ((l0.length : Int) / a1_0)))) : Int).toNat).drop ((ji56) : Int).toNat).length = ((wrap64 ((wrap64 (a2 + 1)) * (wrap64 ((l0.length : Int) / a1_0)))).toNat - (ji56).toNat) from (by rw [yG, yF]; have h_ : ((wrap64 ((wrap64 (a2 + 1)) * (wrap64 ((l0.length : Int) / a1_0)))) : Int) ≤ (l0.length : Int) := yB (by first | (with_reducible assumption) | assumption); omega)]; repeat (first | exact (yc HR560.out HB.out) | (with_reducible refine yS ?_ _) | (with_reducible refine yT ?_ _) | (with_reducible refine yU ?_))) | (repeat (first | exact (yc HR560.out HB.out) | (with_reducible refine yS ?_ _) | (with_reducible refine yT ?_ _) | (with_reducible refine yU ?_))))
                 (case aB => exact (by repeat (first | (with_reducible first | exact HB.out | apply zJ | apply zD | apply zE | refine zI ?_ Z1.out) | exact HB.out)))
                 (case aF => exact (fun k_ hk => Kd.fresh' (Kd.R_lt (by (with_reducible repeat (first | apply zL | apply zM | apply zN)); exact HO_7.out)) k_ hk))
                 (case aO => exact (by (with_reducible repeat (first | apply zL | apply zM | apply zN)); exact yd HO559.out (fun _ hk => hk.2)))
                 (case aS => exact (yK (by repeat (first | (with_reducible first | exact HB.out | apply zJ | apply zD | apply zE | refine zI ?_ Z1.out) | exact HB.out))))
                 (case aL => have := LMc60.out; have hlx_ := (show ((l0.take ((wrap64 ((wrap64 (a2 + 1)) * (wrap64 ((l0.length : Int) / a1_0)))) : Int).toNat).drop ((ji56) : Int).toNat).length = ((wrap64 ((wrap64 (a2 + 1)) * (wrap64 ((l0.length : Int) / a1_0)))).toNat - (ji56).toNat) from (by rw [yG, yF]; have h_ : ((wrap64 ((wrap64 (a2 + 1)) * (wrap64 ((l0.length : Int) / a1_0)))) : Int) ≤ (l0.length : Int) := yB (by first | (with_reducible assumption) | assumption); omega)); omega)
                 intro v562 w85 ho hb hg hat
                 rw [← Ny561.out] at ho
                 have n0_ := zK (Kd.R_after (ok := (fun _ => True)) (by (with_reducible repeat (first | apply zL | apply zM | apply zN)); exact HO_7.out) hg hat)
                 have n1_ := zK (Kd.S_after (ok := (fun k_ => some k_ ≠ (v524 : Value).ownBlock)) (by (with_reducible repeat (first | apply Kd.S_alloc | apply Kd.S_drewN | apply Kd.S_drew)); exact HO_14.out) hg hat)
                 have n2_ := zK (blk_grown (g := Z3) (o := .cells #[.int .i64 a1_0, .int .i64 a1_1, .slice A1_2 l1_2.length c1_2] 43 (0, 0)) (by (with_reducible repeat (first | refine zF ?_ _ | refine zH ?_ | refine zG ?_ _)); exact Z0.out) hg (Kd.R_ne HO559.out Z0.out (by decide)))
                 have n3_ := zK (hb)
                 have n4_ := zK (ho)
                 clear HO_7 HO_14 Z0 HB HO559
                 have HO_7 := n0_; have HO_14 := n1_; have Z0 := n2_; have HB := n3_; have HO563 := n4_
                 clear n0_ n1_ n2_ n3_ n4_ ho hb hg hat
                 obtain ⟨Ao86, co86, eo86⟩ := Kd.R_slice HO563.out
                 (first | subst eo86 | (injection eo86 with f1_ f2_ f3_; have f4_ := f1_.symm; have f5_ := f3_.symm; clear f1_ f2_ f3_; subst f4_; subst f5_))
                 obtain ⟨Ao87, co87, eo87⟩ := Kd.S_slice HO_14.out
                 (first | subst eo87 | (injection eo87 with f1_ f2_ f3_; have f4_ := f1_.symm; have f5_ := f3_.symm; clear f1_ f2_ f3_; subst f4_; subst f5_))
                 refine hK.out _ _ ⟨(zO Z0.out 0).trans rfl, (zO Z0.out 1).trans rfl, (zO Z0.out 2).trans rfl⟩ (fun hHeld => ?_)
                 clear hK K
                 refine norm_ (a' := ?_) ?_ ?_
                 rotate_left
                 ·show Act.put _ (some 112) _ = _
                  simp only [Act.put, zA, zB, zC, i64_w, i32_w]
                  rfl
                 refine one_ (i := 9) (N := some 116) #[true, true, true, true, true, true, true, true, true, true, false, false, false, false, false] rfl rfl (one_of HT_.out (by kernel_rfl)) (by decide) (fun K hK => ?_)
                 refine goes_ Try.func19 (by kernel_rfl) rfl #[.slice Ao86 y561.length co86, .int .i64 1, .slice Ao87 x14_3.length co87, .int .i64 a1_1] (by rfl) rfl rfl (by (try simp only [yH, yI, yJ]); first | done | rfl | (simp only [yG, yF]; rfl)) ?_
                 with_reducible refine (attend_Look.calls k3 _ _ y561 1 (fun k_ => ((some k_ ≠ (v524 : Value).ownBlock ∧ some k_ ≠ (.slice Ao86 y561.length co86 : Value).ownBlock) ∧ k_ ≠ Z3)) _ _ x14_3 a1_1 t564 t567 _ ?side1 ?side2 ?side3 A61.out).mono ?_
                 (case side1 => repeat (first | exact (yM HO563.out).2.2 | (with_reducible refine yS ?_ _) | (with_reducible refine yT ?_ _) | (with_reducible refine yU ?_)))
                 (case side2 => exact (yM HO563.out).2.1)
                 (case side3 => exact Kd.S_V (Kd.S_types (HO_14.out) Z0.out (by decide)))
                 rintro e w88 ⟨v565, rfl, ho0, hb⟩
                 refine ⟨_, rfl, ?_⟩
                 have n0_ := zK (Kd.R_elder' (by (with_reducible repeat (first | apply zL | apply zM | apply zN)); exact HO_7.out) (Kd.R_base ho0) hb)
                 have n1_ := zK (Kd.S_elder' (by (with_reducible repeat (first | apply Kd.S_alloc | apply Kd.S_drewN | apply Kd.S_drew)); exact HO_14.out) (Kd.R_base ho0) hb)
                 have n2_ := zK (Kd.R_elder' (by (with_reducible repeat (first | apply zL | apply zM | apply zN)); exact HO563.out) (Kd.R_base ho0) hb)
                 have n3_ := zK (Kd.R_lower (Kd.R_new' (Kd.R_new' (yd (ok' := fun k_ => True) ho0 (fun _ hk_ => trivial)) (Kd.R_lt (by (with_reducible repeat (first | apply zL | apply zM | apply zN)); exact HO_7.out))) (Kd.R_lt (by (with_reducible repeat (first | apply zL | apply zM | apply zN)); exact HO563.out))) (yK (by repeat (first | (with_reducible first | exact HB.out | apply zJ | apply zD | apply zE | refine zI ?_ Z1.out) | exact HB.out))))
                 have n4_ := zK (zP (g := Z3) (o := .cells #[.int .i64 a1_0, .int .i64 a1_1, .slice A1_2 l1_2.length c1_2] 43 (0, 0)) (by (with_reducible repeat (first | refine zF ?_ _ | refine zH ?_ | refine zG ?_ _)); exact Z0.out) hb)
                 have n5_ := zK (yL (by repeat (first | (with_reducible first | exact HB.out | apply zJ | apply zD | apply zE | refine zI ?_ Z1.out) | exact HB.out)) hb)
                 clear HO_7 HO_14 HO563 Z0 HB
                 have HO_7 := n0_; have HO_14 := n1_; have HO563 := n2_; have HO566 := n3_; have Z0 := n4_; have HB := n5_
                 clear n0_ n1_ n2_ n3_ n4_ n5_
                 (try clear hb)
                 (try clear hb2)
                 (try clear hk)
                 (try clear hi)
                 (try clear ho0)
                 refine hK.out _ _ ⟨(zO Z0.out 0).trans rfl, (zO Z0.out 1).trans rfl, (zO Z0.out 2).trans rfl⟩ (fun hHeld => ?_)
                 clear hK K
                 refine norm_ (a' := ?_) ?_ ?_
                 rotate_left
                 ·show Act.put _ (some 116) _ = _
                  simp only [Act.put, zA, zB, zC, i64_w, i32_w]
                  rfl
                 refine pure_ (i := 10) (N := some 106) (v := ?_) (a' := ?_) #[true, true, true, true, true, true, true, true, true, true, true, false, false, false, false] rfl rfl (any_of HT_.out (by kernel_rfl)) (fun _ _ _ h => h) (Or.inl ⟨by rfl, ?_⟩) ?_ ?_
                 rotate_left
                 ·intro w'
                  go_simp
                  with_reducible rfl
                 rotate_left
                 ·simp only [Act.put, zA, zB, zC, i64_w, i32_w]
                  rfl
                 refine pure_ (i := 11) (N := some 117) (v := ?_) (a' := ?_) #[true, true, true, true, true, true, true, true, true, true, true, true, false, false, false] rfl rfl (any_of HT_.out (by kernel_rfl)) (fun _ _ _ h => h) (Or.inl ⟨by rfl, ?_⟩) ?_ ?_
                 rotate_left
                 ·intro w'
                  go_simp
                  with_reducible rfl
                 rotate_left
                 ·simp only [Act.put, zA, zB, zC, i64_w, i32_w]
                  rfl
                 refine pure_ (i := 12) (N := some 118) (v := ?_) (a' := ?_) #[true, true, true, true, true, true, true, true, true, true, true, true, true, false, false] rfl rfl (any_of HT_.out (by kernel_rfl)) (fun _ _ _ h => h) (Or.inl ⟨by rfl, ?_⟩) ?_ ?_
                 rotate_left
                 ·intro w'
                  go_simp
                  with_reducible rfl
                 rotate_left
                 ·simp only [Act.put, zA, zB, zC, i64_w, i32_w]
                  rfl
                 refine pure_ (i := 13) (N := some 16) (v := ?_) (a' := ?_) #[true, true, true, true, true, true, true, true, true, true, true, true, true, true, false] rfl rfl (any_of HT_.out (by kernel_rfl)) (fun _ _ _ h => h) (Or.inl ⟨by rfl, ?_⟩) ?_ ?_
                 rotate_left
                 ·intro w'
                  go_simp
                  with_reducible rfl
                 rotate_left
                 ·simp only [Act.put, zA, zB, zC, i64_w, i32_w]
                  rfl
                 refine pure_ (i := 14) (N := some 17) (v := ?_) (a' := ?_) #[true, true, true, true, true, true, true, true, true, true, true, true, true, true, true] rfl rfl (any_of HT_.out (by kernel_rfl)) (fun _ _ _ h => h) (Or.inl ⟨by rfl, ?_⟩) ?_ ?_
                 rotate_left
                 ·intro w'
                  go_simp
                  with_reducible rfl
                 rotate_left
                 ·simp only [Act.put, zA, zB, zC, i64_w, i32_w]
                  rfl
                 refine done_ (done_of HT_.out (by kernel_rfl)) ?_
                 obtain ⟨Ao89, co89, eo89⟩ := Kd.R_slice HO_7.out
                 subst eo89
                 try go_wp2
                 go_ret
                 exact ⟨by first | rfl | (simp [errW_none, errW_some] <;> rfl) | (simp only [← hji56]; first | rfl | (simp [errW_none, errW_some] <;> rfl)) | (simp [*, errW_none, errW_some] <;> rfl), by repeat (first | (with_reducible first | exact HB.out | apply zJ | apply zD | apply zE | refine zI ?_ Z1.out) | exact HB.out)⟩
               ·rw [if_neg c62] at H
                have c62b0 : (t567 == 0) = false := beq_eq_false_iff_ne.mpr c62
                have c62b1 : (t567 != 0) = true := bne_iff_ne.mpr c62
                obtain rfl := yY H
                have hcz90_0 : wr.cell? ⟨Z3, 0, none⟩ = some (.int .i64 a1_0) := (zO Z0.out 0).trans rfl
                have hcz90_1 : wr.cell? ⟨Z3, 1, none⟩ = some (.int .i64 a1_1) := (zO Z0.out 1).trans rfl
                have hcz90_2 : wr.cell? ⟨Z3, 2, none⟩ = some (.slice A1_2 l1_2.length c1_2) := (zO Z0.out 2).trans rfl
                have hfz90_0 := yE Z0.out 0
                have hfz90_1 := yE Z0.out 1
                have hfz90_2 := yE Z0.out 2
                try go_wp2
                have n0_ := zK (zN HO_7.out)
                have n1_ := zK (Kd.S_drew HO_14.out)
                have n2_ := zK (zH Z0.out)
                have n3_ := zK (zE HB.out)
                clear HO_7 HO_14 Z0 HB
                have HO_7 := n0_; have HO_14 := n1_; have Z0 := n2_; have HB := n3_
                clear n0_ n1_ n2_ n3_
                obtain ⟨i092, hi092, _, hsz92, _⟩ := yj info53
                obtain ⟨A92, hcut92, hA92, hC92⟩ := print_mid_of (P := Try.prog) (Value.int .i8) 0 22 53 .i64 .i64 Try.underlying22 hi092 hsz92 A0 c0 l0 (ji56) (wrap64 ((wrap64 (a2 + 1)) * (wrap64 ((l0.length : Int) / a1_0)))) (yB (by first | (with_reducible assumption) | assumption)) (by first | omega | exact yB (by first | (with_reducible assumption) | assumption)) (yB (by first | (with_reducible assumption) | assumption)) HC0.out
                have HR560 := zK (Kd.C_of_reads (h1 := fun _ => rfl) (hA92 _ (Kd.reads_of_C HR0.out)))
                have HC560 := zK hC92
                clear hA92 hC92 hi092 hsz92
                refine start_ (n := 15) (S := fun w' => w'.cell? ⟨Z3, 0, none⟩ = some (.int .i64 a1_0) ∧ w'.cell? ⟨Z3, 1, none⟩ = some (.int .i64 a1_1) ∧ w'.cell? ⟨Z3, 2, none⟩ = some (.slice A1_2 l1_2.length c1_2)) (ds := []) #[false, false, false, false, false, false, false, false, false, false, false, false, false, false, false] (by kernel_rfl) rfl rfl ⟨(zO Z0.out 0).trans rfl, (zO Z0.out 1).trans rfl, (zO Z0.out 2).trans rfl⟩ (fun hHeld => ?_); refine with_tabW w19_AttendApart.tab14 w19_AttendApart.bits14 (fun HT_ HW_ => ?_)
                generalize wr.drew = w91 at HO_7 HO_14 Z0 HB HR560 hHeld ⊢
                refine pure_ (i := 1) (N := some 108) (v := ?_) (a' := ?_) #[false, true, false, false, false, false, false, false, false, false, false, false, false, false, false] rfl rfl (any_of HT_.out (by kernel_rfl)) (fun _ _ _ h => h) (Or.inl ⟨by rfl, ?_⟩) ?_ ?_
                rotate_left
                ·intro w'
                 go_simp
                 with_reducible rfl
                rotate_left
                ·simp only [Act.put, zA, zB, zC, i64_w, i32_w]
                 rfl
                refine pure_ (i := 2) (N := some 109) (v := ?_) (a' := ?_) #[false, true, true, false, false, false, false, false, false, false, false, false, false, false, false] rfl rfl (any_of HT_.out (by kernel_rfl)) (fun _ _ _ h => h) (Or.inl ⟨by rfl, ?_⟩) ?_ ?_
                rotate_left
                ·intro w'
                 go_simp
                 with_reducible rfl
                rotate_left
                ·simp only [Act.put, zA, zB, zC, i64_w, i32_w]
                 rfl
                refine pure_ (i := 3) (N := some 110) (v := ?_) (a' := ?_) #[false, true, true, true, false, false, false, false, false, false, false, false, false, false, false] rfl rfl (any_of HT_.out (by kernel_rfl)) (fun _ _ _ h => h) (Or.inl ⟨by rfl, ?_⟩) ?_ ?_
                rotate_left
                ·intro w'
                 go_simp
                 with_reducible rfl
                rotate_left
                ·simp only [Act.put, zA, zB, zC, i64_w, i32_w]
                 rfl
                refine pure_ (i := 4) (N := some 111) (v := ?_) (a' := ?_) #[false, true, true, true, true, false, false, false, false, false, false, false, false, false, false] rfl rfl (any_of HT_.out (by kernel_rfl)) (fun _ _ _ h => h) (Or.inl ⟨by rfl, ?_⟩) ?_ ?_
                rotate_left
                ·intro w'
                 go_simp
                 with_reducible rfl
                rotate_left
                ·simp only [Act.put, zA, zB, zC, i64_w, i32_w]
                 rfl
                refine pure_ (i := 6) (N := some 113) (v := ?_) (a' := ?_) #[false, true, true, true, true, false, true, false, false, false, false, false, false, false, false] rfl rfl (any_of HT_.out (by kernel_rfl)) (fun _ _ _ h => h) (Or.inl ⟨by rfl, ?_⟩) ?_ ?_
                rotate_left
                ·intro w'
                 go_simp
                 with_reducible rfl
                rotate_left
                ·simp only [Act.put, zA, zB, zC, i64_w, i32_w]
                 rfl
                refine pure_ (i := 7) (N := some 114) (v := ?_) (a' := ?_) #[false, true, true, true, true, false, true, true, false, false, false, false, false, false, false] rfl rfl (any_of HT_.out (by kernel_rfl)) (fun _ _ _ h => h) (Or.inl ⟨by rfl, ?_⟩) ?_ ?_
                rotate_left
                ·intro w'
                 go_simp
                 with_reducible rfl
                rotate_left
                ·simp only [Act.put, zA, zB, zC, i64_w, i32_w]
                 rfl
                refine take_ (i := 8) (N := some 115) (v := ?_) (a' := ?_) #[false, true, true, true, true, false, true, true, true, false, false, false, false, false, false] rfl rfl (take_ofW HT_.out HW_.out (by kernel_rfl)) (fun _ _ _ h => h) (Or.inl ⟨by rfl, ?_⟩) hHeld ?_ ?_
                rotate_left
                ·rintro w' ⟨s0, s1, s2⟩
                 go_simp
                 with_reducible rfl
                rotate_left
                ·simp only [Act.put, zA, zB, zC, i64_w, i32_w]
                 rfl
                refine one_ (i := 0) (N := some 107) #[true, true, true, true, true, false, true, true, true, false, false, false, false, false, false] rfl rfl (one_of HT_.out (by kernel_rfl)) (by decide) (fun K hK => ?_)
                refine Kd.R_lit_step (Kd.int .i8) _ 53 ?hg (N := 107) ?hd (xs := ([] : List Int)) (inner := []) (ok := fun _ => True) (okp := fun _ => True) ?hr ?hp (fun _ hk => hk) trivial (Below.refl _ _) (yN _) (by simp) ?_; (case hd => rfl); (case hg => rfl); (case hr => first | (go_simp; done) | (go_simp; rfl)); (case hp => exact (Reps.none _ _))
                intro v558 w93 ho94 hb hg_ hnew_
                clear hg_ hnew_
                (first | rw [← Ny557.out] at ho94 | (simp only [Int.reduceToNat] at ho94; rw [← Ny557.out] at ho94))
                have n0_ := zK (Kd.R_elder' (by (with_reducible repeat (first | apply zL | apply zM | apply zN)); exact HO_7.out) (Kd.R_base ho94) hb)
                have n1_ := zK (Kd.S_elder' (by (with_reducible repeat (first | apply Kd.S_alloc | apply Kd.S_drewN | apply Kd.S_drew)); exact HO_14.out) (Kd.R_base ho94) hb)
                have n2_ := zK (Kd.R_lower (Kd.R_new' ho94 (Kd.R_lt (by (with_reducible repeat (first | apply zL | apply zM | apply zN)); exact HO_7.out))) (yK (by repeat (first | (with_reducible first | exact HB.out | apply zJ | apply zD | apply zE | refine zI ?_ Z1.out) | exact HB.out))))
                have n3_ := zK (zP (g := Z3) (o := .cells #[.int .i64 a1_0, .int .i64 a1_1, .slice A1_2 l1_2.length c1_2] 43 (0, 0)) (by (with_reducible repeat (first | refine zF ?_ _ | refine zH ?_ | refine zG ?_ _)); exact Z0.out) hb)
                have n4_ := zK (yL (by repeat (first | (with_reducible first | exact HB.out | apply zJ | apply zD | apply zE | refine zI ?_ Z1.out) | exact HB.out)) hb)
                clear HO_7 HO_14 Z0 HB
                have HO_7 := n0_; have HO_14 := n1_; have HO559 := n2_; have Z0 := n3_; have HB := n4_
                clear n0_ n1_ n2_ n3_ n4_ hb ho94
                refine hK.out _ _ ⟨(zO Z0.out 0).trans rfl, (zO Z0.out 1).trans rfl, (zO Z0.out 2).trans rfl⟩ (fun hHeld => ?_)
                clear hK K
                refine norm_ (a' := ?_) ?_ ?_
                rotate_left
                ·show Act.put _ (some 107) _ = _
                 simp only [Act.put, zA, zB, zC, i64_w, i32_w]
                 rfl
                refine one_ (i := 5) (N := some 112) #[true, true, true, true, true, true, true, true, true, false, false, false, false, false, false] rfl rfl (one_of HT_.out (by kernel_rfl)) (by decide) (fun K hK => ?_)
                refine Kd.R_append_rows_step (Kd.int .i8) (w0 := w) w.heap.size (by rfl) (.tmp 107) (.tmp 111) 22 53 (.int .i8 0) 1 rfl Try.underlying22 info53 rfl (by decide) (by omega) v558 y557 ((l0.take ((wrap64 ((wrap64 (a2 + 1)) * (wrap64 ((l0.length : Int) / a1_0)))) : Int).toNat).drop ((ji56) : Int).toNat) _ _ _ (fun k_ => some k_ ≠ (v524 : Value).ownBlock) (fun _ => False) rfl rfl ?aO ?aR (fun _ _ h => h) (fun _ h => h.elim) ?aF ?aB ?aS ?aL ?_
                (case aR => first | (rw [← show ((l0.take ((wrap64 ((wrap64 (a2 + 1)) * (wrap64 ((l0.length : Int) / a1_0)))) : Int).toNat).drop ((ji56) : Int).toNat).length = ((wrap64 ((wrap64 (a2 + 1)) * (wrap64 ((l0.length : Int) / a1_0)))).toNat - (ji56).toNat) from (by rw [yG, yF]; have h_ : ((wrap64 ((wrap64 (a2 + 1)) * (wrap64 ((l0.length : Int) / a1_0)))) : Int) ≤ (l0.length : Int) := yB (by first | (with_reducible assumption) | assumption); omega)]; repeat (first | exact (yc HR560.out HB.out) | (with_reducible refine yS ?_ _) | (with_reducible refine yT ?_ _) | (with_reducible refine yU ?_))) | (repeat (first | exact (yc HR560.out HB.out) | (with_reducible refine yS ?_ _) | (with_reducible refine yT ?_ _) | (with_reducible refine yU ?_))))
                (case aB => exact (by repeat (first | (with_reducible first | exact HB.out | apply zJ | apply zD | apply zE | refine zI ?_ Z1.out) | exact HB.out)))
                (case aF => exact (fun k_ hk => Kd.fresh' (Kd.R_lt (by (with_reducible repeat (first | apply zL | apply zM | apply zN)); exact HO_7.out)) k_ hk))
                (case aO => exact (by (with_reducible repeat (first | apply zL | apply zM | apply zN)); exact yd HO559.out (fun _ hk => hk.2)))
                (case aS => exact (yK (by repeat (first | (with_reducible first | exact HB.out | apply zJ | apply zD | apply zE | refine zI ?_ Z1.out) | exact HB.out))))
                (case aL => have := LMc60.out; have hlx_ := (show ((l0.take ((wrap64 ((wrap64 (a2 + 1)) * (wrap64 ((l0.length : Int) / a1_0)))) : Int).toNat).drop ((ji56) : Int).toNat).length = ((wrap64 ((wrap64 (a2 + 1)) * (wrap64 ((l0.length : Int) / a1_0)))).toNat - (ji56).toNat) from (by rw [yG, yF]; have h_ : ((wrap64 ((wrap64 (a2 + 1)) * (wrap64 ((l0.length : Int) / a1_0)))) : Int) ≤ (l0.length : Int) := yB (by first | (with_reducible assumption) | assumption); omega)); omega)
                intro v562 w95 ho hb hg hat
                rw [← Ny561.out] at ho
                have n0_ := zK (Kd.R_after (ok := (fun _ => True)) (by (with_reducible repeat (first | apply zL | apply zM | apply zN)); exact HO_7.out) hg hat)
                have n1_ := zK (Kd.S_after (ok := (fun k_ => some k_ ≠ (v524 : Value).ownBlock)) (by (with_reducible repeat (first | apply Kd.S_alloc | apply Kd.S_drewN | apply Kd.S_drew)); exact HO_14.out) hg hat)
                have n2_ := zK (blk_grown (g := Z3) (o := .cells #[.int .i64 a1_0, .int .i64 a1_1, .slice A1_2 l1_2.length c1_2] 43 (0, 0)) (by (with_reducible repeat (first | refine zF ?_ _ | refine zH ?_ | refine zG ?_ _)); exact Z0.out) hg (Kd.R_ne HO559.out Z0.out (by decide)))
                have n3_ := zK (hb)
                have n4_ := zK (ho)
                clear HO_7 HO_14 Z0 HB HO559
                have HO_7 := n0_; have HO_14 := n1_; have Z0 := n2_; have HB := n3_; have HO563 := n4_
                clear n0_ n1_ n2_ n3_ n4_ ho hb hg hat
                obtain ⟨Ao96, co96, eo96⟩ := Kd.R_slice HO563.out
                (first | subst eo96 | (injection eo96 with f1_ f2_ f3_; have f4_ := f1_.symm; have f5_ := f3_.symm; clear f1_ f2_ f3_; subst f4_; subst f5_))
                obtain ⟨Ao97, co97, eo97⟩ := Kd.S_slice HO_14.out
                (first | subst eo97 | (injection eo97 with f1_ f2_ f3_; have f4_ := f1_.symm; have f5_ := f3_.symm; clear f1_ f2_ f3_; subst f4_; subst f5_))
                refine hK.out _ _ ⟨(zO Z0.out 0).trans rfl, (zO Z0.out 1).trans rfl, (zO Z0.out 2).trans rfl⟩ (fun hHeld => ?_)
                clear hK K
                refine norm_ (a' := ?_) ?_ ?_
                rotate_left
                ·show Act.put _ (some 112) _ = _
                 simp only [Act.put, zA, zB, zC, i64_w, i32_w]
                 rfl
                refine one_ (i := 9) (N := some 116) #[true, true, true, true, true, true, true, true, true, true, false, false, false, false, false] rfl rfl (one_of HT_.out (by kernel_rfl)) (by decide) (fun K hK => ?_)
                refine goes_ Try.func19 (by kernel_rfl) rfl #[.slice Ao96 y561.length co96, .int .i64 1, .slice Ao97 x14_3.length co97, .int .i64 a1_1] (by rfl) rfl rfl (by (try simp only [yH, yI, yJ]); first | done | rfl | (simp only [yG, yF]; rfl)) ?_
                with_reducible refine (attend_Look.calls k3 _ _ y561 1 (fun k_ => ((some k_ ≠ (v524 : Value).ownBlock ∧ some k_ ≠ (.slice Ao96 y561.length co96 : Value).ownBlock) ∧ k_ ≠ Z3)) _ _ x14_3 a1_1 t564 t567 _ ?side1 ?side2 ?side3 A61.out).mono ?_
                (case side1 => repeat (first | exact (yM HO563.out).2.2 | (with_reducible refine yS ?_ _) | (with_reducible refine yT ?_ _) | (with_reducible refine yU ?_)))
                (case side2 => exact (yM HO563.out).2.1)
                (case side3 => exact Kd.S_V (Kd.S_types (HO_14.out) Z0.out (by decide)))
                rintro e w98 ⟨v565, rfl, ho0, hb⟩
                refine ⟨_, rfl, ?_⟩
                have n0_ := zK (Kd.R_elder' (by (with_reducible repeat (first | apply zL | apply zM | apply zN)); exact HO_7.out) (Kd.R_base ho0) hb)
                have n1_ := zK (Kd.S_elder' (by (with_reducible repeat (first | apply Kd.S_alloc | apply Kd.S_drewN | apply Kd.S_drew)); exact HO_14.out) (Kd.R_base ho0) hb)
                have n2_ := zK (Kd.R_elder' (by (with_reducible repeat (first | apply zL | apply zM | apply zN)); exact HO563.out) (Kd.R_base ho0) hb)
                have n3_ := zK (Kd.R_lower (Kd.R_new' (Kd.R_new' (yd (ok' := fun k_ => True) ho0 (fun _ hk_ => trivial)) (Kd.R_lt (by (with_reducible repeat (first | apply zL | apply zM | apply zN)); exact HO_7.out))) (Kd.R_lt (by (with_reducible repeat (first | apply zL | apply zM | apply zN)); exact HO563.out))) (yK (by repeat (first | (with_reducible first | exact HB.out | apply zJ | apply zD | apply zE | refine zI ?_ Z1.out) | exact HB.out))))
                have n4_ := zK (zP (g := Z3) (o := .cells #[.int .i64 a1_0, .int .i64 a1_1, .slice A1_2 l1_2.length c1_2] 43 (0, 0)) (by (with_reducible repeat (first | refine zF ?_ _ | refine zH ?_ | refine zG ?_ _)); exact Z0.out) hb)
                have n5_ := zK (yL (by repeat (first | (with_reducible first | exact HB.out | apply zJ | apply zD | apply zE | refine zI ?_ Z1.out) | exact HB.out)) hb)
                clear HO_7 HO_14 HO563 Z0 HB
                have HO_7 := n0_; have HO_14 := n1_; have HO563 := n2_; have HO566 := n3_; have Z0 := n4_; have HB := n5_
                clear n0_ n1_ n2_ n3_ n4_ n5_
                (try clear hb)
                (try clear hb2)
                (try clear hk)
                (try clear hi)
                (try clear ho0)
                refine hK.out _ _ ⟨(zO Z0.out 0).trans rfl, (zO Z0.out 1).trans rfl, (zO Z0.out 2).trans rfl⟩ (fun hHeld => ?_)
                clear hK K
                refine norm_ (a' := ?_) ?_ ?_
                rotate_left
                ·show Act.put _ (some 116) _ = _
                 simp only [Act.put, zA, zB, zC, i64_w, i32_w]
                 rfl
                refine pure_ (i := 10) (N := some 106) (v := ?_) (a' := ?_) #[true, true, true, true, true, true, true, true, true, true, true, false, false, false, false] rfl rfl (any_of HT_.out (by kernel_rfl)) (fun _ _ _ h => h) (Or.inl ⟨by rfl, ?_⟩) ?_ ?_
                rotate_left
                ·intro w'
                 go_simp
                 with_reducible rfl
                rotate_left
                ·simp only [Act.put, zA, zB, zC, i64_w, i32_w]
                 rfl
                refine pure_ (i := 11) (N := some 117) (v := ?_) (a' := ?_) #[true, true, true, true, true, true, true, true, true, true, true, true, false, false, false] rfl rfl (any_of HT_.out (by kernel_rfl)) (fun _ _ _ h => h) (Or.inl ⟨by rfl, ?_⟩) ?_ ?_
                rotate_left
                ·intro w'
                 go_simp
                 with_reducible rfl
                rotate_left
                ·simp only [Act.put, zA, zB, zC, i64_w, i32_w]
                 rfl
                refine pure_ (i := 12) (N := some 118) (v := ?_) (a' := ?_) #[true, true, true, true, true, true, true, true, true, true, true, true, true, false, false] rfl rfl (any_of HT_.out (by kernel_rfl)) (fun _ _ _ h => h) (Or.inl ⟨by rfl, ?_⟩) ?_ ?_
                rotate_left
                ·intro w'
                 go_simp
                 with_reducible rfl
                rotate_left
                ·simp only [Act.put, zA, zB, zC, i64_w, i32_w]
                 rfl
                refine pure_ (i := 13) (N := some 16) (v := ?_) (a' := ?_) #[true, true, true, true, true, true, true, true, true, true, true, true, true, true, false] rfl rfl (any_of HT_.out (by kernel_rfl)) (fun _ _ _ h => h) (Or.inl ⟨by rfl, ?_⟩) ?_ ?_
                rotate_left
                ·intro w'
                 go_simp
                 with_reducible rfl
                rotate_left
                ·simp only [Act.put, zA, zB, zC, i64_w, i32_w]
                 rfl
                refine pure_ (i := 14) (N := some 17) (v := ?_) (a' := ?_) #[true, true, true, true, true, true, true, true, true, true, true, true, true, true, true] rfl rfl (any_of HT_.out (by kernel_rfl)) (fun _ _ _ h => h) (Or.inl ⟨by rfl, ?_⟩) ?_ ?_
                rotate_left
                ·intro w'
                 go_simp
                 with_reducible rfl
                rotate_left
                ·simp only [Act.put, zA, zB, zC, i64_w, i32_w]
                 rfl
                refine done_ (done_of HT_.out (by kernel_rfl)) ?_
                try go_wp2
                go_ret
                exact ⟨by first | rfl | (simp [errW_none, errW_some] <;> rfl) | (simp only [← hji56]; first | rfl | (simp [errW_none, errW_some] <;> rfl)) | (simp [*, errW_none, errW_some] <;> rfl), by repeat (first | (with_reducible first | exact HB.out | apply zJ | apply zD | apply zE | refine zI ?_ Z1.out) | exact HB.out)⟩
              ·rw [if_neg c60] at H
               exact absurd H (by simp)
             ·rw [if_neg c59] at H
              exact absurd H (by simp)
            ·rw [if_neg c58] at H
             exact absurd H (by simp)
           ·rw [if_neg c57] at H
            exact absurd H (by simp)

end Go.Proofs.Ytmjepdhjginelaa.B
