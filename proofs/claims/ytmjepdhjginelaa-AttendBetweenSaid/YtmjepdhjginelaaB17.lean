-- Printed by this session's own driver (wip/tools/xprint.py) over the kit's printer; given functions are this session's own.
import Derived.Test.YtmjepdhjginelaaB0
import Derived.Test.YtmjepdhjginelaaB6
import Derived.Test.YtmjepdhjginelaaB7
import Derived.Test.YtmjepdhjginelaaB13
import Derived.Test.YtmjepdhjginelaaB14
namespace Go.Proofs.Ytmjepdhjginelaa.B
open Go.RowKit Go.Proofs.YtmjepdhjginelaaW.PrintWords Go.Proofs.YtmjepdhjginelaaW.PrintLast Go.Proofs.YtmjepdhjginelaaW.PrintMore
attribute [local go_sem] max2_int min2_int max_two min_two max_three min_three max_four min_four   -- for this text's walks alone
set_option linter.unusedVariables false
set_option linter.unusedSimpArgs false

/-! ### w19_AttendBetween: function 7 -/
mutual
def w19_AttendBetween.j0 : Nat → List Int → List Int → Int → Bool → Int → Int → List (S49) → Option (Bool)
 | 0, _, _, _, _, _, _, _ => none
 | k + 1, x0, x5, x6, x42, Y0, Y1, Y2 => if x42 = true then (some false) else (if x6 = 0 then (if (x5.length : Int) = (x0.length : Int) then (w19_AttendBetween.l0 k x5 0 Y0 Y1 Y2) else (some false)) else (some ((x5.length : Int) == 0)))
def w19_AttendBetween.l0 : Nat → List Int → Int → Int → Int → List (S49) → Option (Bool)
 | 0, _, _, _, _, _ => none
 | k + 1, x5, x9, Y0, Y1, Y2 => if x9 < (x5.length : Int) then (if 0 < (Y2.length : Int) then (if 0 ≤ x9 then (if x9 < (((rd_T49 Y2 0).f1).length : Int) then (w19_AttendBetween.l1 k x5 x9 (rd ((rd_T49 Y2 0).f1) x9) (rd ((rd_T49 Y2 0).f1) x9) 0 Y0 Y1 Y2) else (none)) else (none)) else (none)) else (some true)
def w19_AttendBetween.l1 : Nat → List Int → Int → Int → Int → Int → Int → Int → List (S49) → Option (Bool)
 | 0, _, _, _, _, _, _, _, _ => none
 | k + 1, x5, x9, x10, x11, x12, Y0, Y1, Y2 => if x12 < (Y2.length : Int) then (if 0 ≤ x12 then (if 0 ≤ x9 then (if x9 < (((rd_T49 Y2 x12).f1).length : Int) then (if (rd ((rd_T49 Y2 x12).f1) x9) < x10 then (if (rd ((rd_T49 Y2 x12).f1) x9) > x11 then (w19_AttendBetween.l1 k x5 x9 (rd ((rd_T49 Y2 x12).f1) x9) (rd ((rd_T49 Y2 x12).f1) x9) (wrap64 (x12 + 1)) Y0 Y1 Y2) else (w19_AttendBetween.l1 k x5 x9 (rd ((rd_T49 Y2 x12).f1) x9) x11 (wrap64 (x12 + 1)) Y0 Y1 Y2)) else (if (rd ((rd_T49 Y2 x12).f1) x9) > x11 then (w19_AttendBetween.l1 k x5 x9 x10 (rd ((rd_T49 Y2 x12).f1) x9) (wrap64 (x12 + 1)) Y0 Y1 Y2) else (w19_AttendBetween.l1 k x5 x9 x10 x11 (wrap64 (x12 + 1)) Y0 Y1 Y2))) else (none)) else (none)) else (none)) else (if 0 ≤ x9 then (if x9 < (x5.length : Int) then (if (rd x5 x9) < x10 then (some false) else (if (rd x5 x9) > x11 then (some false) else (w19_AttendBetween.l0 k x5 (wrap64 (x9 + 1)) Y0 Y1 Y2))) else (none)) else (none))
end
def w19_AttendBetween.f (k : Nat) (l0 : List Int) (a1_0 : Int) (a1_1 : Int) (l1_2 : List (S49)) : Option (Bool) := (attend_Look.f k l0 a1_0 l1_2 a1_1).bind fun bt492 => ((w19_pairs.f k l1_2).bind fun t496 => ((r19_Look.f k l0 a1_0 t496 a1_1).bind fun bt499 => ((w19_awake.f k).bind fun t503 => (if t503 = true then (w19_AttendBetween.j0 k l0 bt492.1 bt492.2 (bt492.2 != bt499.2) a1_0 a1_1 l1_2) else (w19_AttendBetween.j0 k l0 bt492.1 bt492.2 true a1_0 a1_1 l1_2)))))
theorem w19_AttendBetween.mono_l : ∀ k, (∀ y0 y1 y2 y3 y4 y5 y6, LeO (w19_AttendBetween.j0 k y0 y1 y2 y3 y4 y5 y6) (w19_AttendBetween.j0 (k + 1) y0 y1 y2 y3 y4 y5 y6)) ∧ (∀ y0 y1 y2 y3 y4, LeO (w19_AttendBetween.l0 k y0 y1 y2 y3 y4) (w19_AttendBetween.l0 (k + 1) y0 y1 y2 y3 y4)) ∧ (∀ y0 y1 y2 y3 y4 y5 y6 y7, LeO (w19_AttendBetween.l1 k y0 y1 y2 y3 y4 y5 y6 y7) (w19_AttendBetween.l1 (k + 1) y0 y1 y2 y3 y4 y5 y6 y7))
 | 0 => ⟨fun _ _ _ _ _ _ _ r h => by simp [w19_AttendBetween.j0] at h, fun _ _ _ _ _ r h => by simp [w19_AttendBetween.l0] at h, fun _ _ _ _ _ _ _ _ r h => by simp [w19_AttendBetween.l1] at h⟩
 | k + 1 => by
  obtain ⟨ih0, ih1, ih2⟩ := w19_AttendBetween.mono_l k
  refine ⟨?_, ?_, ?_⟩ <;> (intros; first | unfold w19_AttendBetween.j0 | unfold w19_AttendBetween.l0 | unfold w19_AttendBetween.l1)
  all_goals repeat' first
   | (with_reducible exact ih0 _ _ _ _ _ _ _)
   | (with_reducible exact ih1 _ _ _ _ _)
   | (with_reducible exact ih2 _ _ _ _ _ _ _ _)
   | (with_reducible exact attend_Look.mono _ _ _ _ _)
   | (with_reducible exact r19_Look.mono _ _ _ _ _)
   | (with_reducible exact w19_awake.mono _)
   | (with_reducible exact w19_pairs.mono _ _)
   | (with_reducible exact yR _)
   | (with_reducible exact yO _)
   | (with_reducible refine yQ ?_ ?_)
   | (with_reducible refine yP ?_ (fun _ => ?_))
   | exact ih0 _ _ _ _ _ _ _
   | exact ih1 _ _ _ _ _
   | exact ih2 _ _ _ _ _ _ _ _
   | exact attend_Look.mono _ _ _ _ _
   | exact r19_Look.mono _ _ _ _ _
   | exact w19_awake.mono _
   | exact w19_pairs.mono _ _
   | exact yO _
   | refine yQ ?_ ?_
   | refine yP ?_ (fun _ => ?_)
theorem w19_AttendBetween.mono : ∀ a0 a1 a2 a3 k, LeO (w19_AttendBetween.f k a0 a1 a2 a3) (w19_AttendBetween.f (k + 1) a0 a1 a2 a3) := by
 intro a0 a1 a2 a3 k
 obtain ⟨ih0, ih1, ih2⟩ := w19_AttendBetween.mono_l k
 unfold w19_AttendBetween.f
 repeat' first
   | (with_reducible exact ih0 _ _ _ _ _ _ _)
   | (with_reducible exact ih1 _ _ _ _ _)
   | (with_reducible exact ih2 _ _ _ _ _ _ _ _)
   | (with_reducible exact attend_Look.mono _ _ _ _ _)
   | (with_reducible exact r19_Look.mono _ _ _ _ _)
   | (with_reducible exact w19_awake.mono _)
   | (with_reducible exact w19_pairs.mono _ _)
   | (with_reducible exact yR _)
   | (with_reducible exact yO _)
   | (with_reducible refine yQ ?_ ?_)
   | (with_reducible refine yP ?_ (fun _ => ?_))
   | exact ih0 _ _ _ _ _ _ _
   | exact ih1 _ _ _ _ _
   | exact ih2 _ _ _ _ _ _ _ _
   | exact attend_Look.mono _ _ _ _ _
   | exact r19_Look.mono _ _ _ _ _
   | exact w19_awake.mono _
   | exact w19_pairs.mono _ _
   | exact yO _
   | refine yQ ?_ ?_
   | refine yP ?_ (fun _ => ?_)
def w19_AttendBetween.T2 : Bool × List (List Nat × List Nat) := (true, [([], []), ([], []), ([1], [1]), ([], []), ([3], [3]), ([4], [4]), ([], []), ([6], [6]), ([0, 2, 5, 7, 5], [0, 2, 5, 7]), ([8], [8]), ([9], [9]), ([9], [9]), ([10, 8, 0, 1, 2, 3, 4, 5, 6, 7, 8, 9, 10], [10]), ([11, 12, 0, 1, 2, 3, 4, 5, 6, 7, 8, 9, 10, 11, 12], [11])])
def w19_AttendBetween.B2 : List Nat := [0, 0, 2, 0, 8, 24, 0, 64, 255, 511, 1023, 1023, 2047, 8191]
theorem w19_AttendBetween.tab2 : rtab .any (opsOf Try.f7 2) = w19_AttendBetween.T2 := by kernel_rfl
theorem w19_AttendBetween.bits2 : waitsOk w19_AttendBetween.T2.2 w19_AttendBetween.B2 = true := by kernel_rfl
def w19_AttendBetween.T12 : Bool × List (List Nat × List Nat) := (true, [([], []), ([0], [0]), ([1], [1]), ([2], [2]), ([3], [3]), ([], []), ([4, 5], [4, 5]), ([6], [6]), ([], []), ([8], [8]), ([9], [9]), ([10], [10]), ([11], [11]), ([], []), ([12, 13], [12, 13]), ([14], [14]), ([7, 0, 1, 2, 3, 4, 5, 6, 7], [7]), ([15, 16, 0, 1, 2, 3, 4, 5, 6, 7, 8, 9, 10, 11, 12, 13, 14, 15, 16], [15])])
def w19_AttendBetween.B12 : List Nat := [0, 1, 3, 7, 15, 0, 63, 127, 0, 256, 768, 1792, 3840, 0, 16128, 32512, 255, 131071]
theorem w19_AttendBetween.tab12 : rtab .any (opsOf Try.f7 12) = w19_AttendBetween.T12 := by kernel_rfl
theorem w19_AttendBetween.bits12 : waitsOk w19_AttendBetween.T12.2 w19_AttendBetween.B12 = true := by kernel_rfl
set_option maxHeartbeats 8000000 in
set_option maxRecDepth 100000 in
theorem w19_AttendBetween.calls (k : Nat) (A0 : Option Addr) (c0 : Nat) (l0 : List Int) (a1_0 : Int) (a1_1 : Int) (A1_2 : Option Addr) (c1_2 : Nat) (l1_2 : List (S49)) (r : Bool) (w : World) (hr0 : Kd.C (Kd.int .i8) w A0 l0.length l0) (hc0 : l0.length ≤ c0) (hr1_2 : Kd.C k49 w A1_2 l1_2.length l1_2) (hc1_2 : l1_2.length ≤ c1_2) (h : w19_AttendBetween.f k l0 a1_0 a1_1 l1_2 = some r) :
  Calls Try.prog 7 #[.slice A0 l0.length c0, .agg #[.int .i64 a1_0, .int .i64 a1_1, .slice A1_2 l1_2.length c1_2]] w fun e w' => e = .returned (.bool r) ∧ Below w.heap.size w w' := by
 have hu43 := Try.underlying43
 have HR0 := zK hr0
 have HC0 := zK hc0
 clear hr0 hc0
 have HR1_2 := zK hr1_2
 have HC1_2 := zK hc1_2
 clear hr1_2 hc1_2
 have HB := zK (Below.refl w.heap.size w)
 have H : ((attend_Look.f k l0 a1_0 l1_2 a1_1).bind fun bt492 => ((w19_pairs.f k l1_2).bind fun t496 => ((r19_Look.f k l0 a1_0 t496 a1_1).bind fun bt499 => ((w19_awake.f k).bind fun t503 => (if t503 = true then (w19_AttendBetween.j0 k l0 bt492.1 bt492.2 (bt492.2 != bt499.2) a1_0 a1_1 l1_2) else (w19_AttendBetween.j0 k l0 bt492.1 bt492.2 true a1_0 a1_1 l1_2)))))) = some r := h
 clear h
 replace H := yA.mp H
 obtain ⟨⟨t492, t495⟩, A30, H⟩ := H
 replace H : ((w19_pairs.f k l1_2).bind fun t496 => ((r19_Look.f k l0 a1_0 t496 a1_1).bind fun bt499 => ((w19_awake.f k).bind fun t503 => (if t503 = true then (w19_AttendBetween.j0 k l0 t492 t495 (t495 != bt499.2) a1_0 a1_1 l1_2) else (w19_AttendBetween.j0 k l0 t492 t495 true a1_0 a1_1 l1_2))))) = some r := H
 have A3 := zK A30
 clear A30
 replace H := yA.mp H
 obtain ⟨t496, A40, H⟩ := H
 replace H : ((r19_Look.f k l0 a1_0 t496 a1_1).bind fun bt499 => ((w19_awake.f k).bind fun t503 => (if t503 = true then (w19_AttendBetween.j0 k l0 t492 t495 (t495 != bt499.2) a1_0 a1_1 l1_2) else (w19_AttendBetween.j0 k l0 t492 t495 true a1_0 a1_1 l1_2)))) = some r := H
 have A4 := zK A40
 clear A40
 replace H := yA.mp H
 obtain ⟨⟨t499, t502⟩, A50, H⟩ := H
 replace H : ((w19_awake.f k).bind fun t503 => (if t503 = true then (w19_AttendBetween.j0 k l0 t492 t495 (t495 != t502) a1_0 a1_1 l1_2) else (w19_AttendBetween.j0 k l0 t492 t495 true a1_0 a1_1 l1_2))) = some r := H
 have A5 := zK A50
 clear A50
 have HC6 := zK H
 clear H
 go_enter Try.func7, Try.ntmps7
 try go_wp2_with (first | ((with_reducible refine gate_dst (N := 3) rfl ?_); refine box_event ?hg (N := 3) ?hd (cs := #[.int .i64 a1_0, .int .i64 a1_1, .slice A1_2 l1_2.length c1_2]) (t := 43) ?hr ?_; (case hd => rfl); (case hg => rfl); (case hr => first | (go_simp; done) | (go_simp; rfl)); intro Z3 hg w7 hbox hb; have n0_ := zK (yL (by repeat (first | (with_reducible first | exact HB.out | apply zJ | apply zD | apply zE) | exact HB.out)) hb); have n1_ := zK (hbox); have n2_ := zK ((by rw [hg]; exact (yK (by repeat (first | (with_reducible first | exact HB.out | apply zJ | apply zD | apply zE) | exact HB.out))) : w.heap.size ≤ Z3)); have n3_ := zK ((by rw [hg]; exact (yK (by repeat (first | (with_reducible first | exact HB.out | apply zJ | apply zD | apply zE) | exact HB.out))) : w.heap.size ≤ Z3)); clear HB; have HB := n0_; have Z0 := n1_; have Z2 := n2_; have Z1 := n3_; clear n0_ n1_ n2_ n3_ hb hbox hg; have hcz8_0 : w7.cell? ⟨Z3, 0, none⟩ = some (.int .i64 a1_0) := (zO Z0.out 0).trans rfl; have hcz8_1 : w7.cell? ⟨Z3, 1, none⟩ = some (.int .i64 a1_1) := (zO Z0.out 1).trans rfl; have hcz8_2 : w7.cell? ⟨Z3, 2, none⟩ = some (.slice A1_2 l1_2.length c1_2) := (zO Z0.out 2).trans rfl; have hfz8_0 := yE Z0.out 0; have hfz8_1 := yE Z0.out 1; have hfz8_2 := yE Z0.out 2) | ((with_reducible refine gate_callee (f := 19) rfl ?_); refine goesL_ (some 21) rfl rfl Try.func19 (by kernel_rfl) rfl #[.slice A0 l0.length c0, .int .i64 a1_0, .slice A1_2 l1_2.length c1_2, .int .i64 a1_1] rfl (by (try simp only [yH, yI, yJ]); first | done | rfl | (simp only [yG, yF]; rfl)) ?_; (with_reducible refine (attend_Look.calls k _ _ l0 a1_0 (fun k_ => k_ < w.heap.size) _ _ l1_2 a1_1 t492 t495 _ ?side1 ?side2 ?side3 A3.out).mono ?_); (case side1 => repeat (first | exact (yc HR0.out HB.out) | (with_reducible refine yS ?_ _) | (with_reducible refine yT ?_ _) | (with_reducible refine yU ?_))); (case side2 => exact HC0.out); (case side3 => exact Kd.V_mk HC1_2.out (Kd.F_below (Kd.C_F k49_heap HR1_2.out) (by repeat (first | (with_reducible first | exact HB.out | apply zJ | apply zD | apply zE | refine zI ?_ Z1.out) | exact HB.out)))); rintro e w9 ⟨v493, rfl, ho0, hb⟩; refine ⟨_, rfl, ?_⟩; have n0_ := zK (Kd.R_lower (yd (ok' := fun k_ => True) ho0 (fun _ hk_ => trivial)) (yK (by repeat (first | (with_reducible first | exact HB.out | apply zJ | apply zD | apply zE | refine zI ?_ Z1.out) | exact HB.out)))); have n1_ := zK (zP (g := Z3) (o := .cells #[.int .i64 a1_0, .int .i64 a1_1, .slice A1_2 l1_2.length c1_2] 43 (0, 0)) (by (with_reducible repeat (first | refine zF ?_ _ | refine zH ?_ | refine zG ?_ _)); exact Z0.out) hb); have n2_ := zK (yL (by repeat (first | (with_reducible first | exact HB.out | apply zJ | apply zD | apply zE | refine zI ?_ Z1.out) | exact HB.out)) hb); clear Z0 HB; have HO494 := n0_; have Z0 := n1_; have HB := n2_; clear n0_ n1_ n2_; (try clear hb); (try clear hb2); (try clear hk); (try clear hi); (try clear ho0)))
 have n0_ := zK (zN HO494.out)
 have n1_ := zK (zH Z0.out)
 have n2_ := zK (zE HB.out)
 clear HO494 Z0 HB
 have HO494 := n0_; have Z0 := n1_; have HB := n2_
 clear n0_ n1_ n2_
 refine start_ (n := 14) (S := fun w' => w'.cell? ⟨Z3, 0, none⟩ = some (.int .i64 a1_0) ∧ w'.cell? ⟨Z3, 1, none⟩ = some (.int .i64 a1_1) ∧ w'.cell? ⟨Z3, 2, none⟩ = some (.slice A1_2 l1_2.length c1_2)) (ds := []) #[false, false, false, false, false, false, false, false, false, false, false, false, false, false] (by kernel_rfl) rfl rfl ⟨(zO Z0.out 0).trans rfl, (zO Z0.out 1).trans rfl, (zO Z0.out 2).trans rfl⟩ (fun hHeld => ?_); refine with_tabW w19_AttendBetween.tab2 w19_AttendBetween.bits2 (fun HT_ HW_ => ?_)
 generalize w9.drew = w10 at HO494 Z0 HB hHeld ⊢
 refine pure_ (i := 0) (N := some 25) (v := ?_) (a' := ?_) #[true, false, false, false, false, false, false, false, false, false, false, false, false, false] rfl rfl (any_of HT_.out (by kernel_rfl)) (fun _ _ _ h => h) (Or.inl ⟨by rfl, ?_⟩) ?_ ?_
 rotate_left
 ·intro w'
  go_simp
  with_reducible rfl
 rotate_left
 ·simp only [Act.put, zA, zB, zC, i64_w, i32_w]
  rfl
 refine pure_ (i := 1) (N := some 26) (v := ?_) (a' := ?_) #[true, true, false, false, false, false, false, false, false, false, false, false, false, false] rfl rfl (any_of HT_.out (by kernel_rfl)) (fun _ _ _ h => h) (Or.inl ⟨by rfl, ?_⟩) ?_ ?_
 rotate_left
 ·intro w'
  go_simp
  with_reducible rfl
 rotate_left
 ·simp only [Act.put, zA, zB, zC, i64_w, i32_w]
  rfl
 refine pure_ (i := 3) (N := some 28) (v := ?_) (a' := ?_) #[true, true, false, true, false, false, false, false, false, false, false, false, false, false] rfl rfl (any_of HT_.out (by kernel_rfl)) (fun _ _ _ h => h) (Or.inl ⟨by rfl, ?_⟩) ?_ ?_
 rotate_left
 ·intro w'
  go_simp
  with_reducible rfl
 rotate_left
 ·simp only [Act.put, zA, zB, zC, i64_w, i32_w]
  rfl
 refine pure_ (i := 6) (N := some 31) (v := ?_) (a' := ?_) #[true, true, false, true, false, false, true, false, false, false, false, false, false, false] rfl rfl (any_of HT_.out (by kernel_rfl)) (fun _ _ _ h => h) (Or.inl ⟨by rfl, ?_⟩) ?_ ?_
 rotate_left
 ·intro w'
  go_simp
  with_reducible rfl
 rotate_left
 ·simp only [Act.put, zA, zB, zC, i64_w, i32_w]
  rfl
 refine take_ (i := 2) (N := some 27) (v := ?_) (a' := ?_) #[true, true, true, true, false, false, true, false, false, false, false, false, false, false] rfl rfl (take_ofW HT_.out HW_.out (by kernel_rfl)) (fun _ _ _ h => h) (Or.inl ⟨by rfl, ?_⟩) hHeld ?_ ?_
 rotate_left
 ·rintro w' ⟨s0, s1, s2⟩
  go_simp
  with_reducible rfl
 rotate_left
 ·simp only [Act.put, zA, zB, zC, i64_w, i32_w]
  rfl
 refine take_ (i := 4) (N := some 29) (v := ?_) (a' := ?_) #[true, true, true, true, true, false, true, false, false, false, false, false, false, false] rfl rfl (take_ofW HT_.out HW_.out (by kernel_rfl)) (fun _ _ _ h => h) (Or.inl ⟨by rfl, ?_⟩) hHeld ?_ ?_
 rotate_left
 ·rintro w' ⟨s0, s1, s2⟩
  go_simp
  with_reducible rfl
 rotate_left
 ·simp only [Act.put, zA, zB, zC, i64_w, i32_w]
  rfl
 refine take_ (i := 7) (N := some 32) (v := ?_) (a' := ?_) #[true, true, true, true, true, false, true, true, false, false, false, false, false, false] rfl rfl (take_ofW HT_.out HW_.out (by kernel_rfl)) (fun _ _ _ h => h) (Or.inl ⟨by rfl, ?_⟩) hHeld ?_ ?_
 rotate_left
 ·rintro w' ⟨s0, s1, s2⟩
  go_simp
  with_reducible rfl
 rotate_left
 ·simp only [Act.put, zA, zB, zC, i64_w, i32_w]
  rfl
 refine one_ (i := 5) (N := some 30) #[true, true, true, true, true, true, true, true, false, false, false, false, false, false] rfl rfl (one_of HT_.out (by kernel_rfl)) (by decide) (fun K hK => ?_)
 refine goes_ Try.func18 (by kernel_rfl) rfl #[.slice A1_2 l1_2.length c1_2] (by rfl) rfl rfl (by (try simp only [yH, yI, yJ]); first | done | rfl | (simp only [yG, yF]; rfl)) ?_
 with_reducible refine (w19_pairs.calls k _ _ l1_2 t496 _ ?side1 ?side2 A4.out).mono ?_
 (case side1 => repeat (first | exact (yc HR1_2.out HB.out) | (with_reducible refine yS ?_ _) | (with_reducible refine yT ?_ _) | (with_reducible refine yU ?_)))
 (case side2 => exact HC1_2.out)
 rintro e w11 ⟨v497, rfl, ho0, hb⟩
 refine ⟨_, rfl, ?_⟩
 have n0_ := zK (yb (by (with_reducible repeat (first | apply zL | apply zM | apply zN)); exact HO494.out) hb)
 have n1_ := zK (Kd.S_lower (Kd.S_new' ho0 (Kd.R_lt (by (with_reducible repeat (first | apply zL | apply zM | apply zN)); exact HO494.out))) (yK (by repeat (first | (with_reducible first | exact HB.out | apply zJ | apply zD | apply zE | refine zI ?_ Z1.out) | exact HB.out))))
 have n2_ := zK (zP (g := Z3) (o := .cells #[.int .i64 a1_0, .int .i64 a1_1, .slice A1_2 l1_2.length c1_2] 43 (0, 0)) (by (with_reducible repeat (first | refine zF ?_ _ | refine zH ?_ | refine zG ?_ _)); exact Z0.out) hb)
 have n3_ := zK (yL (by repeat (first | (with_reducible first | exact HB.out | apply zJ | apply zD | apply zE | refine zI ?_ Z1.out) | exact HB.out)) hb)
 clear HO494 Z0 HB
 have HO494 := n0_; have HO498 := n1_; have Z0 := n2_; have HB := n3_
 clear n0_ n1_ n2_ n3_
 (try clear hb)
 (try clear hb2)
 (try clear hk)
 (try clear hi)
 (try clear ho0)
 obtain ⟨Ao12, co12, eo12⟩ := Kd.S_slice HO498.out
 (first | subst eo12 | (injection eo12 with f1_ f2_ f3_; have f4_ := f1_.symm; have f5_ := f3_.symm; clear f1_ f2_ f3_; subst f4_; subst f5_))
 refine hK.out _ _ ⟨(zO Z0.out 0).trans rfl, (zO Z0.out 1).trans rfl, (zO Z0.out 2).trans rfl⟩ (fun hHeld => ?_)
 clear hK K
 refine norm_ (a' := ?_) ?_ ?_
 rotate_left
 ·show Act.put _ (some 30) _ = _
  simp only [Act.put, zA, zB, zC, i64_w, i32_w]
  rfl
 refine one_ (i := 8) (N := some 33) #[true, true, true, true, true, true, true, true, true, false, false, false, false, false] rfl rfl (one_of HT_.out (by kernel_rfl)) (by decide) (fun K hK => ?_)
 refine goes_ Try.func20 (by kernel_rfl) rfl #[.slice A0 l0.length c0, .int .i64 a1_0, .slice Ao12 t496.length co12, .int .i64 a1_1] (by rfl) rfl rfl (by (try simp only [yH, yI, yJ]); first | done | rfl | (simp only [yG, yF]; rfl)) ?_
 with_reducible refine (r19_Look.calls k _ _ l0 a1_0 (fun k_ => ((True ∧ some k_ ≠ (v493 : Value).ownBlock) ∧ k_ ≠ Z3)) _ _ t496 a1_1 t499 t502 _ ?side1 ?side2 ?side3 A5.out).mono ?_
 (case side1 => repeat (first | exact (yc HR0.out HB.out) | (with_reducible refine yS ?_ _) | (with_reducible refine yT ?_ _) | (with_reducible refine yU ?_)))
 (case side2 => exact HC0.out)
 (case side3 => exact Kd.S_V (Kd.S_types (HO498.out) Z0.out (by decide)))
 rintro e w13 ⟨v500, rfl, ho0, hb⟩
 refine ⟨_, rfl, ?_⟩
 have n0_ := zK (Kd.R_elder' (by (with_reducible repeat (first | apply zL | apply zM | apply zN)); exact HO494.out) (Kd.R_base ho0) hb)
 have n1_ := zK (Kd.S_elder' (by (with_reducible repeat (first | apply Kd.S_alloc | apply Kd.S_drewN | apply Kd.S_drew)); exact HO498.out) (Kd.R_base ho0) hb)
 have n2_ := zK (Kd.R_lower (Kd.R_new' (yd (ok' := fun k_ => True) ho0 (fun _ hk_ => trivial)) (Kd.R_lt (by (with_reducible repeat (first | apply zL | apply zM | apply zN)); exact HO494.out))) (yK (by repeat (first | (with_reducible first | exact HB.out | apply zJ | apply zD | apply zE | refine zI ?_ Z1.out) | exact HB.out))))
 have n3_ := zK (zP (g := Z3) (o := .cells #[.int .i64 a1_0, .int .i64 a1_1, .slice A1_2 l1_2.length c1_2] 43 (0, 0)) (by (with_reducible repeat (first | refine zF ?_ _ | refine zH ?_ | refine zG ?_ _)); exact Z0.out) hb)
 have n4_ := zK (yL (by repeat (first | (with_reducible first | exact HB.out | apply zJ | apply zD | apply zE | refine zI ?_ Z1.out) | exact HB.out)) hb)
 clear HO494 HO498 Z0 HB
 have HO494 := n0_; have HO498 := n1_; have HO501 := n2_; have Z0 := n3_; have HB := n4_
 clear n0_ n1_ n2_ n3_ n4_
 (try clear hb)
 (try clear hb2)
 (try clear hk)
 (try clear hi)
 (try clear ho0)
 refine hK.out _ _ ⟨(zO Z0.out 0).trans rfl, (zO Z0.out 1).trans rfl, (zO Z0.out 2).trans rfl⟩ (fun hHeld => ?_)
 clear hK K
 refine norm_ (a' := ?_) ?_ ?_
 rotate_left
 ·show Act.put _ (some 33) _ = _
  simp only [Act.put, zA, zB, zC, i64_w, i32_w]
  rfl
 refine pure_ (i := 9) (N := some 24) (v := ?_) (a' := ?_) #[true, true, true, true, true, true, true, true, true, true, false, false, false, false] rfl rfl (any_of HT_.out (by kernel_rfl)) (fun _ _ _ h => h) (Or.inl ⟨by rfl, ?_⟩) ?_ ?_
 rotate_left
 ·intro w'
  go_simp
  with_reducible rfl
 rotate_left
 ·simp only [Act.put, zA, zB, zC, i64_w, i32_w]
  rfl
 refine pure_ (i := 10) (N := some 34) (v := ?_) (a' := ?_) #[true, true, true, true, true, true, true, true, true, true, true, false, false, false] rfl rfl (any_of HT_.out (by kernel_rfl)) (fun _ _ _ h => h) (Or.inl ⟨by rfl, ?_⟩) ?_ ?_
 rotate_left
 ·intro w'
  go_simp
  with_reducible rfl
 rotate_left
 ·simp only [Act.put, zA, zB, zC, i64_w, i32_w]
  rfl
 refine pure_ (i := 11) (N := some 35) (v := ?_) (a' := ?_) #[true, true, true, true, true, true, true, true, true, true, true, true, false, false] rfl rfl (any_of HT_.out (by kernel_rfl)) (fun _ _ _ h => h) (Or.inl ⟨by rfl, ?_⟩) ?_ ?_
 rotate_left
 ·intro w'
  go_simp
  with_reducible rfl
 rotate_left
 ·simp only [Act.put, zA, zB, zC, i64_w, i32_w]
  rfl
 refine pure_ (i := 12) (N := some 7) (v := ?_) (a' := ?_) #[true, true, true, true, true, true, true, true, true, true, true, true, true, false] rfl rfl (any_of HT_.out (by kernel_rfl)) (fun _ _ _ h => h) (Or.inl ⟨by rfl, ?_⟩) ?_ ?_
 rotate_left
 ·intro w'
  go_simp
  with_reducible rfl
 rotate_left
 ·simp only [Act.put, zA, zB, zC, i64_w, i32_w]
  rfl
 refine pure_ (i := 13) (N := some 8) (v := ?_) (a' := ?_) #[true, true, true, true, true, true, true, true, true, true, true, true, true, true] rfl rfl (any_of HT_.out (by kernel_rfl)) (fun _ _ _ h => h) (Or.inl ⟨by rfl, ?_⟩) ?_ ?_
 rotate_left
 ·intro w'
  go_simp
  with_reducible rfl
 rotate_left
 ·simp only [Act.put, zA, zB, zC, i64_w, i32_w]
  rfl
 refine done_ (done_of HT_.out (by kernel_rfl)) ?_
 go_upto_region 3 with (fail)
 go_cut [42] (fun v42 wc => ∃ (kq : Nat) (x42_5 : Bool), v42 = .bool x42_5 ∧ Aside0 (w19_AttendBetween.j0 kq l0 t492 t495 x42_5 a1_0 a1_1 l1_2 = some r) ∧ Aside0 (kq ≤ k) ∧ Aside0 (Kd.R (Kd.int .i8) 53 wc w.heap.size (fun _ => True) v493 t492) ∧ Aside0 (wc.heap[Z3]? = some (.cells #[.int .i64 a1_0, .int .i64 a1_1, (.slice A1_2 l1_2.length c1_2)] 43 (0, 0))) ∧ Aside0 (Below w.heap.size w wc))
 case first =>
  have H := HC6.out
  clear HC6
  replace H := yA.mp H
  obtain ⟨t503, A140, H⟩ := H
  replace H : (if t503 = true then (w19_AttendBetween.j0 k l0 t492 t495 (t495 != t502) a1_0 a1_1 l1_2) else (w19_AttendBetween.j0 k l0 t492 t495 true a1_0 a1_1 l1_2)) = some r := H
  have A14 := zK A140
  clear A140
  by_cases c15 : t503 = true
  ·subst c15
   have H1 : (w19_AttendBetween.j0 k l0 t492 t495 (t495 != t502) a1_0 a1_1 l1_2) = some r := by rw [if_pos rfl] at H; exact H
   clear H
   have H := H1
   clear H1
   have H' := zK H
   clear H
   go_wp2_with (first | ((with_reducible refine gate_callee (f := 13) rfl ?_); refine goesL_ (some 36) rfl rfl Try.func13 (by kernel_rfl) rfl #[] rfl (by (try simp only [yH, yI, yJ]); first | done | rfl | (simp only [yG, yF]; rfl)) ?_; (with_reducible refine (w19_awake.calls k  true _ A14.out).mono ?_); rintro e w16 ⟨rfl, hb⟩; refine ⟨_, rfl, ?_⟩; have n0_ := zK (yb (by (with_reducible repeat (first | apply zL | apply zM | apply zN)); exact HO494.out) hb); have n1_ := zK (Kd.S_below (by (with_reducible repeat (first | apply Kd.S_alloc | apply Kd.S_drewN | apply Kd.S_drew)); exact HO498.out) hb); have n2_ := zK (yb (by (with_reducible repeat (first | apply zL | apply zM | apply zN)); exact HO501.out) hb); have n3_ := zK (zP (g := Z3) (o := .cells #[.int .i64 a1_0, .int .i64 a1_1, .slice A1_2 l1_2.length c1_2] 43 (0, 0)) (by (with_reducible repeat (first | refine zF ?_ _ | refine zH ?_ | refine zG ?_ _)); exact Z0.out) hb); have n4_ := zK (yL (by repeat (first | (with_reducible first | exact HB.out | apply zJ | apply zD | apply zE | refine zI ?_ Z1.out) | exact HB.out)) hb); clear HO494 HO498 HO501 Z0 HB; have HO494 := n0_; have HO498 := n1_; have HO501 := n2_; have Z0 := n3_; have HB := n4_; clear n0_ n1_ n2_ n3_ n4_; (try clear hb); (try clear hb2); (try clear hk); (try clear hi)))
   go_meet
   case rel => exact ⟨_, ((t495 != t502)), (by first | rfl | (simp; done) | (simp [*]; done)), H', ⟨by first | omega | exact yN _⟩, ⟨by (with_reducible repeat (first | apply zL | apply zM | apply zN)); exact yd HO494.out (fun _ hk => trivial)⟩, ⟨by (with_reducible repeat (first | refine zF ?_ _ | refine zH ?_ | refine zG ?_ _)); exact Z0.out⟩, ⟨by repeat (first | (with_reducible first | exact HB.out | apply zJ | apply zD | apply zE | refine zI ?_ Z1.out) | exact HB.out)⟩⟩
  ·replace c15 := yh.mpr c15
   subst c15
   have H1 : (w19_AttendBetween.j0 k l0 t492 t495 true a1_0 a1_1 l1_2) = some r := by rw [if_neg (show ¬ (false = true) by decide)] at H; exact H
   clear H
   have H := H1
   clear H1
   have H' := zK H
   clear H
   go_wp2_with (first | ((with_reducible refine gate_callee (f := 13) rfl ?_); refine goesL_ (some 36) rfl rfl Try.func13 (by kernel_rfl) rfl #[] rfl (by (try simp only [yH, yI, yJ]); first | done | rfl | (simp only [yG, yF]; rfl)) ?_; (with_reducible refine (w19_awake.calls k  false _ A14.out).mono ?_); rintro e w17 ⟨rfl, hb⟩; refine ⟨_, rfl, ?_⟩; have n0_ := zK (yb (by (with_reducible repeat (first | apply zL | apply zM | apply zN)); exact HO494.out) hb); have n1_ := zK (Kd.S_below (by (with_reducible repeat (first | apply Kd.S_alloc | apply Kd.S_drewN | apply Kd.S_drew)); exact HO498.out) hb); have n2_ := zK (yb (by (with_reducible repeat (first | apply zL | apply zM | apply zN)); exact HO501.out) hb); have n3_ := zK (zP (g := Z3) (o := .cells #[.int .i64 a1_0, .int .i64 a1_1, .slice A1_2 l1_2.length c1_2] 43 (0, 0)) (by (with_reducible repeat (first | refine zF ?_ _ | refine zH ?_ | refine zG ?_ _)); exact Z0.out) hb); have n4_ := zK (yL (by repeat (first | (with_reducible first | exact HB.out | apply zJ | apply zD | apply zE | refine zI ?_ Z1.out) | exact HB.out)) hb); clear HO494 HO498 HO501 Z0 HB; have HO494 := n0_; have HO498 := n1_; have HO501 := n2_; have Z0 := n3_; have HB := n4_; clear n0_ n1_ n2_ n3_ n4_; (try clear hb); (try clear hb2); (try clear hk); (try clear hi)))
   go_meet
   case rel => exact ⟨_, (true), (by first | rfl | (simp; done) | (simp [*]; done)), H', ⟨by first | omega | exact yN _⟩, ⟨by (with_reducible repeat (first | apply zL | apply zM | apply zN)); exact yd HO494.out (fun _ hk => trivial)⟩, ⟨by (with_reducible repeat (first | refine zF ?_ _ | refine zH ?_ | refine zG ?_ _)); exact Z0.out⟩, ⟨by repeat (first | (with_reducible first | exact HB.out | apply zJ | apply zD | apply zE | refine zI ?_ Z1.out) | exact HB.out)⟩⟩
 case rest =>
  clear HC6
  try clear c1
  try clear c2
  try clear p2
  try clear c7
  try clear c13
  try clear c15
  try clear hcz8_0
  try clear hcz8_1
  try clear hcz8_2
  try clear hfz8_0
  try clear hfz8_1
  try clear hfz8_2
  obtain ⟨kq, x42_5, rfl, HA, HJ5, HO_5, Z0, HB⟩ := hcut
  cases kq with
  | zero => exact absurd HA.out (by simp [w19_AttendBetween.j0])
  | succ kj5 =>
   have H := HA.out
   clear HA
   simp only [w19_AttendBetween.j0] at H
   by_cases c18 : x42_5 = true
   ·subst c18
    have H1 : (some false) = some r := by rw [if_pos rfl] at H; exact H
    clear H
    have H := H1
    clear H1
    obtain rfl := yY H
    go_wp2
    go_ret
    exact ⟨by first | rfl | (simp [errW_none, errW_some] <;> rfl) | (simp [*, errW_none, errW_some] <;> rfl), by repeat (first | (with_reducible first | exact HB.out | apply zJ | apply zD | apply zE | refine zI ?_ Z1.out) | exact HB.out)⟩
   ·replace c18 := yh.mpr c18
    subst c18
    have H1 : (if t495 = 0 then (if (t492.length : Int) = (l0.length : Int) then (w19_AttendBetween.l0 kj5 t492 0 a1_0 a1_1 l1_2) else (some false)) else (some ((t492.length : Int) == 0))) = some r := by rw [if_neg (show ¬ (false = true) by decide)] at H; exact H
    clear H
    have H := H1
    clear H1
    by_cases c19 : t495 = 0
    ·rw [if_pos c19] at H
     have c19b0 : (t495 == 0) = true := beq_iff_eq.mpr c19
     have c19b1 : (t495 != 0) = false := bne_eq_false_iff_eq.mpr c19
     clear c19
     by_cases c20 : (t492.length : Int) = (l0.length : Int)
     ·rw [if_pos c20] at H
      have c20b0 : ((t492.length : Int) == (l0.length : Int)) = true := beq_iff_eq.mpr c20
      have c20b1 : ((t492.length : Int) != (l0.length : Int)) = false := bne_eq_false_iff_eq.mpr c20
      have c20b2 : (t492.length == l0.length) = true := by first | simpa using c20 | (simp at c20 ⊢; omega)
      clear c20
      have H' := zK H
      clear H
      obtain ⟨Ao21, co21, eo21⟩ := Kd.R_slice HO_5.out
      subst eo21
      go_wp2
      go_loopg [9] kj5 (fun kq v9 w' => ∃ (x9_2 : Int), v9 = .int .i64 x9_2 ∧ Aside0 (w19_AttendBetween.l0 kq t492 x9_2 a1_0 a1_1 l1_2 = some r) ∧ Aside0 (kq ≤ kj5) ∧ Aside0 (Kd.R (Kd.int .i8) 53 w' w.heap.size (fun _ => True) (.slice Ao21 t492.length co21) t492) ∧ Aside0 (w'.heap[Z3]? = some (.cells #[.int .i64 a1_0, .int .i64 a1_1, (.slice A1_2 l1_2.length c1_2)] 43 (0, 0))) ∧ Aside0 (Below w.heap.size w w'))
      case atStart => exact ⟨(0), (by first | rfl | (simp; done) | (simp [*]; done)), H', ⟨yN _⟩, ⟨by (with_reducible repeat (first | apply zL | apply zM | apply zN)); exact HO_5.out⟩, ⟨by (with_reducible repeat (first | refine zF ?_ _ | refine zH ?_ | refine zG ?_ _)); exact Z0.out⟩, ⟨by repeat (first | (with_reducible first | exact HB.out | apply zJ | apply zD | apply zE | refine zI ?_ Z1.out) | exact HB.out)⟩⟩
      case round =>
       clear H'
       try clear c1
       try clear c2
       try clear p2
       try clear c7
       try clear c13
       try clear c15
       try clear c18
       try clear c19
       try clear c19b0
       try clear c19b1
       try clear c20
       try clear c20b0
       try clear c20b1
       try clear c20b2
       try clear hcz8_0
       try clear hcz8_1
       try clear hcz8_2
       try clear hfz8_0
       try clear hfz8_1
       try clear hfz8_2
       try clear p2
       obtain ⟨x9_2, rfl, HA, HK2, HO_5, Z0, HB⟩ := hrel
       cases gk with
       | zero => exact absurd HA.out (by simp [w19_AttendBetween.l0])
       | succ k2 =>
        have H := HA.out
        clear HA
        simp only [w19_AttendBetween.l0] at H
        by_cases c22 : x9_2 < (t492.length : Int)
        ·rw [if_pos c22] at H
         have c22b0 : decide (x9_2 < (t492.length : Int)) = true := yC c22
         clear c22
         by_cases c23 : 0 < (l1_2.length : Int)
         ·rw [if_pos c23] at H
          have c23b0 : decide (0 < (l1_2.length : Int)) = true := yC c23
          have c23b1 : decide (0 < l1_2.length) = true := yC (by omega)
          clear c23
          by_cases c24 : 0 ≤ x9_2
          ·rw [if_pos c24] at H
           have c24b0 : decide (0 ≤ x9_2) = true := yC c24
           clear c24
           by_cases c25 : x9_2 < (((rd_T49 l1_2 0).f1).length : Int)
           ·rw [if_pos c25] at H
            have c25b0 : decide (x9_2 < (((rd_T49 l1_2 0).f1).length : Int)) = true := yC c25
            clear c25
            have H' := zK H
            clear H
            try go_wp2
            have n0_ := zK (zN HO_5.out)
            have n1_ := zK (zH Z0.out)
            have n2_ := zK (zE HB.out)
            clear HO_5 Z0 HB
            have HO_5 := n0_; have Z0 := n1_; have HB := n2_
            clear n0_ n1_ n2_
            have p504 : 0 ≤ (0 : Int) := (by omega)
            have q504 : 0 < (l1_2.length : Int) := yB (by first | (with_reducible assumption) | assumption)
            obtain ⟨ad504, A504_0, c504_0, A504_1, c504_1, e504, hx504_0, hx504_1, hl504_0, hi504_0, hl504_1, hi504_1⟩ := at_T49 HR1_2.out 0 p504 q504
            have hw504_1 := hx504_1
            (try rw [show ((0 : Int)).toNat = 0 from rfl] at hw504_1)
            (try rw [show 0 * 2 = 0 from rfl] at hw504_1)
            (try rw [Addr.add_zero'] at hw504_1)
            have hw504_0 := hx504_0
            (try rw [show ((0 : Int)).toNat = 0 from rfl] at hw504_0)
            (try rw [show 0 * 2 = 0 from rfl] at hw504_0)
            (try rw [Addr.add_zero'] at hw504_0)
            cases e504
            have qi504 : (0 < l1_2.length) = True := yg (by omega)
            (try rw [show ((0 : Int)).toNat = 0 from rfl] at hx504_0)
            (try rw [show 0 * 2 = 0 from rfl] at hx504_0)
            (try rw [Addr.add_zero'] at hx504_0)
            (try rw [show ((0 : Int)).toNat = 0 from rfl] at hx504_1)
            (try rw [show 0 * 2 = 0 from rfl] at hx504_1)
            (try rw [Addr.add_zero'] at hx504_1)
            replace hx504_0 := (HB.out.cell (World.block_lt_of_cell? w _ hx504_0)).trans hx504_0
            replace hx504_1 := (HB.out.cell (World.block_lt_of_cell? w _ hx504_1)).trans hx504_1
            have HR504_0 := zK hi504_0
            have HC504_0 := zK hl504_0
            clear hi504_0 hl504_0
            have HR504_1 := zK hi504_1
            have HC504_1 := zK hl504_1
            clear hi504_1 hl504_1
            replace p504 := yg p504
            replace q504 := yg q504
            have p505 : 0 ≤ (x9_2 : Int) := yB (by first | (with_reducible assumption) | assumption)
            have q505 : x9_2 < (((rd_T49 l1_2 0).f1).length : Int) := yB (by first | (with_reducible assumption) | assumption)
            obtain ⟨ad505, e505, hx505_0⟩ := Kd.at_int HR504_1.out x9_2 p505 q505
            have hw505_0 := hx505_0
            cases e505
            replace hx505_0 := (HB.out.cell (World.block_lt_of_cell? w _ hx505_0)).trans hx505_0
            replace p505 := yg p505
            replace q505 := yg q505
            have p506 : 0 ≤ (0 : Int) := (by omega)
            have q506 : 0 < (l1_2.length : Int) := yB (by first | (with_reducible assumption) | assumption)
            obtain ⟨ad506, A506_0, c506_0, A506_1, c506_1, e506, hx506_0, hx506_1, hl506_0, hi506_0, hl506_1, hi506_1⟩ := at_T49 HR1_2.out 0 p506 q506
            have hw506_1 := hx506_1
            (try rw [show ((0 : Int)).toNat = 0 from rfl] at hw506_1)
            (try rw [show 0 * 2 = 0 from rfl] at hw506_1)
            (try rw [Addr.add_zero'] at hw506_1)
            have hw506_0 := hx506_0
            (try rw [show ((0 : Int)).toNat = 0 from rfl] at hw506_0)
            (try rw [show 0 * 2 = 0 from rfl] at hw506_0)
            (try rw [Addr.add_zero'] at hw506_0)
            obtain rfl : ad504 = ad506 := (by injection e506)
            have qi506 : (0 < l1_2.length) = True := yg (by omega)
            (try rw [show ((0 : Int)).toNat = 0 from rfl] at hx506_0)
            (try rw [show 0 * 2 = 0 from rfl] at hx506_0)
            (try rw [Addr.add_zero'] at hx506_0)
            (try rw [show ((0 : Int)).toNat = 0 from rfl] at hx506_1)
            (try rw [show 0 * 2 = 0 from rfl] at hx506_1)
            (try rw [Addr.add_zero'] at hx506_1)
            replace hx506_0 := (HB.out.cell (World.block_lt_of_cell? w _ hx506_0)).trans hx506_0
            replace hx506_1 := (HB.out.cell (World.block_lt_of_cell? w _ hx506_1)).trans hx506_1
            have HR506_0 := zK hi506_0
            have HC506_0 := zK hl506_0
            clear hi506_0 hl506_0
            have HR506_1 := zK hi506_1
            have HC506_1 := zK hl506_1
            clear hi506_1 hl506_1
            replace p506 := yg p506
            replace q506 := yg q506
            have ea_ := yY (hx504_0.symm.trans hx506_0)
            injection ea_ with ea_ en_ ec_
            subst ea_
            subst ec_
            clear en_
            have ea_ := yY (hx504_1.symm.trans hx506_1)
            injection ea_ with ea_ en_ ec_
            subst ea_
            subst ec_
            clear en_
            have p507 : 0 ≤ (x9_2 : Int) := yB (by first | (with_reducible assumption) | assumption)
            have q507 : x9_2 < (((rd_T49 l1_2 0).f1).length : Int) := yB (by first | (with_reducible assumption) | assumption)
            obtain ⟨ad507, e507, hx507_0⟩ := Kd.at_int HR506_1.out x9_2 p507 q507
            have hw507_0 := hx507_0
            cases e507
            replace hx507_0 := (HB.out.cell (World.block_lt_of_cell? w _ hx507_0)).trans hx507_0
            replace p507 := yg p507
            replace q507 := yg q507
            refine start_ (n := 18) (S := fun w' => w'.cell? ⟨Z3, 0, none⟩ = some (.int .i64 a1_0) ∧ w'.cell? ⟨Z3, 1, none⟩ = some (.int .i64 a1_1) ∧ w'.cell? ⟨Z3, 2, none⟩ = some (.slice (some ad504) l1_2.length c1_2) ∧ w'.cell? ad504 = some (.slice A504_0 ((rd_T49 l1_2 0).f0).length c504_0) ∧ w'.cell? ⟨ad504.block, ad504.off + 1, none⟩ = some (.slice (some ad505) ((rd_T49 l1_2 0).f1).length c504_1) ∧ w'.cell? (ad505.add (x9_2).toNat) = some (.int .i8 (rd ((rd_T49 l1_2 0).f1) x9_2)) ∧ w'.cell? ad504 = some (.slice A504_0 ((rd_T49 l1_2 0).f0).length c504_0) ∧ w'.cell? ⟨ad504.block, ad504.off + 1, none⟩ = some (.slice (some ad505) ((rd_T49 l1_2 0).f1).length c504_1) ∧ w'.cell? (ad505.add (x9_2).toNat) = some (.int .i8 (rd ((rd_T49 l1_2 0).f1) x9_2))) (ds := []) #[false, false, false, false, false, false, false, false, false, false, false, false, false, false, false, false, false, false] (by kernel_rfl) rfl rfl ⟨(zO Z0.out 0).trans rfl, (zO Z0.out 1).trans rfl, (zO Z0.out 2).trans rfl, ((HB.out.cell (World.block_lt_of_cell? w _ hw504_0)).trans hw504_0), ((HB.out.cell (World.block_lt_of_cell? w _ hw504_1)).trans hw504_1), ((HB.out.cell (World.block_lt_of_cell? w _ hw505_0)).trans hw505_0), ((HB.out.cell (World.block_lt_of_cell? w _ hw506_0)).trans hw506_0), ((HB.out.cell (World.block_lt_of_cell? w _ hw506_1)).trans hw506_1), ((HB.out.cell (World.block_lt_of_cell? w _ hw507_0)).trans hw507_0)⟩ (fun hHeld => ?_); refine with_tabW w19_AttendBetween.tab12 w19_AttendBetween.bits12 (fun HT_ HW_ => ?_)
            generalize wr.drew = w26 at HO_5 Z0 HB HR504_0 HR504_1 HR506_0 HR506_1 hx504_0 hx504_1 hx505_0 hx506_0 hx506_1 hx507_0 hHeld ⊢
            refine pure_ (i := 0) (N := some 59) (v := ?_) (a' := ?_) #[true, false, false, false, false, false, false, false, false, false, false, false, false, false, false, false, false, false] rfl rfl (any_of HT_.out (by kernel_rfl)) (fun _ _ _ h => h) (Or.inl ⟨by rfl, ?_⟩) ?_ ?_
            rotate_left
            ·intro w'
             go_simp
             with_reducible rfl
            rotate_left
            ·simp only [Act.put, zA, zB, zC, i64_w, i32_w]
             rfl
            refine pure_ (i := 5) (N := some 64) (v := ?_) (a' := ?_) #[true, false, false, false, false, true, false, false, false, false, false, false, false, false, false, false, false, false] rfl rfl (any_of HT_.out (by kernel_rfl)) (fun _ _ _ h => h) (Or.inl ⟨by rfl, ?_⟩) ?_ ?_
            rotate_left
            ·intro w'
             go_simp
             with_reducible rfl
            rotate_left
            ·simp only [Act.put, zA, zB, zC, i64_w, i32_w]
             rfl
            refine pure_ (i := 8) (N := some 67) (v := ?_) (a' := ?_) #[true, false, false, false, false, true, false, false, true, false, false, false, false, false, false, false, false, false] rfl rfl (any_of HT_.out (by kernel_rfl)) (fun _ _ _ h => h) (Or.inl ⟨by rfl, ?_⟩) ?_ ?_
            rotate_left
            ·intro w'
             go_simp
             with_reducible rfl
            rotate_left
            ·simp only [Act.put, zA, zB, zC, i64_w, i32_w]
             rfl
            refine pure_ (i := 13) (N := some 72) (v := ?_) (a' := ?_) #[true, false, false, false, false, true, false, false, true, false, false, false, false, true, false, false, false, false] rfl rfl (any_of HT_.out (by kernel_rfl)) (fun _ _ _ h => h) (Or.inl ⟨by rfl, ?_⟩) ?_ ?_
            rotate_left
            ·intro w'
             go_simp
             with_reducible rfl
            rotate_left
            ·simp only [Act.put, zA, zB, zC, i64_w, i32_w]
             rfl
            refine take_ (i := 1) (N := some 60) (v := ?_) (a' := ?_) #[true, true, false, false, false, true, false, false, true, false, false, false, false, true, false, false, false, false] rfl rfl (take_ofW HT_.out HW_.out (by kernel_rfl)) (fun _ _ _ h => h) (Or.inl ⟨by rfl, ?_⟩) hHeld ?_ ?_
            rotate_left
            ·rintro w' ⟨s0, s1, s2, s3, s4, s5, s6, s7, s8⟩
             go_simp
             with_reducible rfl
            rotate_left
            ·simp only [Act.put, zA, zB, zC, i64_w, i32_w]
             rfl
            refine pure_ (i := 2) (N := some 61) (v := ?_) (a' := ?_) #[true, true, true, false, false, true, false, false, true, false, false, false, false, true, false, false, false, false] rfl rfl (any_of HT_.out (by kernel_rfl)) (fun _ _ _ h => h) (Or.inl ⟨by rfl, ?_⟩) ?_ ?_
            rotate_left
            ·intro w'
             go_simp
             with_reducible rfl
            rotate_left
            ·simp only [Act.put, zA, zB, zC, i64_w, i32_w]
             rfl
            refine pure_ (i := 3) (N := some 62) (v := ?_) (a' := ?_) #[true, true, true, true, false, true, false, false, true, false, false, false, false, true, false, false, false, false] rfl rfl (any_of HT_.out (by kernel_rfl)) (fun _ _ _ h => h) (Or.inl ⟨by rfl, ?_⟩) ?_ ?_
            rotate_left
            ·intro w'
             go_simp
             with_reducible rfl
            rotate_left
            ·simp only [Act.put, zA, zB, zC, i64_w, i32_w]
             rfl
            refine take_ (i := 4) (N := some 63) (v := ?_) (a' := ?_) #[true, true, true, true, true, true, false, false, true, false, false, false, false, true, false, false, false, false] rfl rfl (take_ofW HT_.out HW_.out (by kernel_rfl)) (fun _ _ _ h => h) (Or.inl ⟨by rfl, ?_⟩) hHeld ?_ ?_
            rotate_left
            ·rintro w' ⟨s0, s1, s2, s3, s4, s5, s6, s7, s8⟩
             go_simp
             with_reducible rfl
            rotate_left
            ·simp only [Act.put, zA, zB, zC, i64_w, i32_w]
             rfl
            refine pure_ (i := 6) (N := some 65) (v := ?_) (a' := ?_) #[true, true, true, true, true, true, true, false, true, false, false, false, false, true, false, false, false, false] rfl rfl (any_of HT_.out (by kernel_rfl)) (fun _ _ _ h => h) (Or.inl ⟨by rfl, ?_⟩) ?_ ?_
            rotate_left
            ·intro w'
             go_simp
             with_reducible rfl
            rotate_left
            ·simp only [Act.put, zA, zB, zC, i64_w, i32_w]
             rfl
            refine take_ (i := 7) (N := some 66) (v := ?_) (a' := ?_) #[true, true, true, true, true, true, true, true, true, false, false, false, false, true, false, false, false, false] rfl rfl (take_ofW HT_.out HW_.out (by kernel_rfl)) (fun _ _ _ h => h) (Or.inl ⟨by rfl, ?_⟩) hHeld ?_ ?_
            rotate_left
            ·rintro w' ⟨s0, s1, s2, s3, s4, s5, s6, s7, s8⟩
             go_simp
             with_reducible rfl
            rotate_left
            ·simp only [Act.put, zA, zB, zC, i64_w, i32_w]
             rfl
            refine pure_ (i := 16) (N := some 10) (v := ?_) (a' := ?_) #[true, true, true, true, true, true, true, true, true, false, false, false, false, true, false, false, true, false] rfl rfl (any_of HT_.out (by kernel_rfl)) (fun _ _ _ h => h) (Or.inl ⟨by rfl, ?_⟩) ?_ ?_
            rotate_left
            ·intro w'
             go_simp
             with_reducible rfl
            rotate_left
            ·simp only [Act.put, zA, zB, zC, i64_w, i32_w]
             rfl
            refine take_ (i := 9) (N := some 68) (v := ?_) (a' := ?_) #[true, true, true, true, true, true, true, true, true, true, false, false, false, true, false, false, true, false] rfl rfl (take_ofW HT_.out HW_.out (by kernel_rfl)) (fun _ _ _ h => h) (Or.inl ⟨by rfl, ?_⟩) hHeld ?_ ?_
            rotate_left
            ·rintro w' ⟨s0, s1, s2, s3, s4, s5, s6, s7, s8⟩
             go_simp
             with_reducible rfl
            rotate_left
            ·simp only [Act.put, zA, zB, zC, i64_w, i32_w]
             rfl
            refine pure_ (i := 10) (N := some 69) (v := ?_) (a' := ?_) #[true, true, true, true, true, true, true, true, true, true, true, false, false, true, false, false, true, false] rfl rfl (any_of HT_.out (by kernel_rfl)) (fun _ _ _ h => h) (Or.inl ⟨by rfl, ?_⟩) ?_ ?_
            rotate_left
            ·intro w'
             go_simp
             with_reducible rfl
            rotate_left
            ·simp only [Act.put, zA, zB, zC, i64_w, i32_w]
             rfl
            refine pure_ (i := 11) (N := some 70) (v := ?_) (a' := ?_) #[true, true, true, true, true, true, true, true, true, true, true, true, false, true, false, false, true, false] rfl rfl (any_of HT_.out (by kernel_rfl)) (fun _ _ _ h => h) (Or.inl ⟨by rfl, ?_⟩) ?_ ?_
            rotate_left
            ·intro w'
             go_simp
             with_reducible rfl
            rotate_left
            ·simp only [Act.put, zA, zB, zC, i64_w, i32_w]
             rfl
            refine take_ (i := 12) (N := some 71) (v := ?_) (a' := ?_) #[true, true, true, true, true, true, true, true, true, true, true, true, true, true, false, false, true, false] rfl rfl (take_ofW HT_.out HW_.out (by kernel_rfl)) (fun _ _ _ h => h) (Or.inl ⟨by rfl, ?_⟩) hHeld ?_ ?_
            rotate_left
            ·rintro w' ⟨s0, s1, s2, s3, s4, s5, s6, s7, s8⟩
             go_simp
             with_reducible rfl
            rotate_left
            ·simp only [Act.put, zA, zB, zC, i64_w, i32_w]
             rfl
            refine pure_ (i := 14) (N := some 73) (v := ?_) (a' := ?_) #[true, true, true, true, true, true, true, true, true, true, true, true, true, true, true, false, true, false] rfl rfl (any_of HT_.out (by kernel_rfl)) (fun _ _ _ h => h) (Or.inl ⟨by rfl, ?_⟩) ?_ ?_
            rotate_left
            ·intro w'
             go_simp
             with_reducible rfl
            rotate_left
            ·simp only [Act.put, zA, zB, zC, i64_w, i32_w]
             rfl
            refine take_ (i := 15) (N := some 74) (v := ?_) (a' := ?_) #[true, true, true, true, true, true, true, true, true, true, true, true, true, true, true, true, true, false] rfl rfl (take_ofW HT_.out HW_.out (by kernel_rfl)) (fun _ _ _ h => h) (Or.inl ⟨by rfl, ?_⟩) hHeld ?_ ?_
            rotate_left
            ·rintro w' ⟨s0, s1, s2, s3, s4, s5, s6, s7, s8⟩
             go_simp
             with_reducible rfl
            rotate_left
            ·simp only [Act.put, zA, zB, zC, i64_w, i32_w]
             rfl
            refine pure_ (i := 17) (N := some 11) (v := ?_) (a' := ?_) #[true, true, true, true, true, true, true, true, true, true, true, true, true, true, true, true, true, true] rfl rfl (any_of HT_.out (by kernel_rfl)) (fun _ _ _ h => h) (Or.inl ⟨by rfl, ?_⟩) ?_ ?_
            rotate_left
            ·intro w'
             go_simp
             with_reducible rfl
            rotate_left
            ·simp only [Act.put, zA, zB, zC, i64_w, i32_w]
             rfl
            refine done_ (done_of HT_.out (by kernel_rfl)) ?_
            try go_wp2
            go_loopg [10, 11, 12] k2 (fun kq v10 v11 v12 w' => ∃ (x10_3 : Int) (x11_3 : Int) (x12_3 : Int), v10 = .int .i8 x10_3 ∧ v11 = .int .i8 x11_3 ∧ v12 = .int .i64 x12_3 ∧ Aside0 (w19_AttendBetween.l1 kq t492 x9_2 x10_3 x11_3 x12_3 a1_0 a1_1 l1_2 = some r) ∧ Aside0 (kq ≤ k2) ∧ Aside0 (Kd.R (Kd.int .i8) 53 w' w.heap.size (fun _ => True) (.slice Ao21 t492.length co21) t492) ∧ Aside0 (w'.heap[Z3]? = some (.cells #[.int .i64 a1_0, .int .i64 a1_1, (.slice (some ad504) l1_2.length c1_2)] 43 (0, 0))) ∧ Aside0 (Below w.heap.size w w'))
            case atStart => exact ⟨(rd ((rd_T49 l1_2 0).f1) x9_2), (rd ((rd_T49 l1_2 0).f1) x9_2), (0), (by first | rfl | (simp; done) | (simp [*]; done)), (by first | rfl | (simp; done) | (simp [*]; done)), (by first | rfl | (simp; done) | (simp [*]; done)), H', ⟨yN _⟩, ⟨by (with_reducible repeat (first | apply zL | apply zM | apply zN)); exact HO_5.out⟩, ⟨by (with_reducible repeat (first | refine zF ?_ _ | refine zH ?_ | refine zG ?_ _)); exact Z0.out⟩, ⟨by repeat (first | (with_reducible first | exact HB.out | apply zJ | apply zD | apply zE | refine zI ?_ Z1.out) | exact HB.out)⟩⟩
            case round =>
             clear H'
             try clear c1
             try clear c2
             try clear p2
             try clear c5
             try clear p5
             try clear q5
             try clear hx5
             try clear qi5
             try clear c7
             try clear c13
             try clear c15
             try clear c18
             try clear c19
             try clear c19b0
             try clear c19b1
             try clear c20
             try clear c20b0
             try clear c20b1
             try clear c20b2
             try clear c22
             try clear c22b0
             try clear c23
             try clear c23b0
             try clear c23b1
             try clear c24
             try clear c24b0
             try clear c25
             try clear c25b0
             try clear hcz8_0
             try clear hcz8_1
             try clear hcz8_2
             try clear hfz8_0
             try clear hfz8_1
             try clear hfz8_2
             try clear hx504_0
             try clear hx504_1
             try clear hx505_0
             try clear hx506_0
             try clear hx506_1
             try clear hx507_0
             try clear p2
             try clear p504
             try clear p505
             try clear p506
             try clear p507
             try clear q504
             try clear q505
             try clear q506
             try clear q507
             obtain ⟨x10_3, x11_3, x12_3, rfl, rfl, rfl, HA, HK3, HO_5, Z0, HB⟩ := hrel
             cases gk with
             | zero => exact absurd HA.out (by simp [w19_AttendBetween.l1])
             | succ k3 =>
              have H := HA.out
              clear HA
              simp only [w19_AttendBetween.l1] at H
              by_cases c27 : x12_3 < (l1_2.length : Int)
              ·rw [if_pos c27] at H
               have c27b0 : decide (x12_3 < (l1_2.length : Int)) = true := yC c27
               clear c27
               by_cases c28 : 0 ≤ x12_3
               ·rw [if_pos c28] at H
                have c28b0 : decide (0 ≤ x12_3) = true := yC c28
                clear c28
                by_cases c29 : 0 ≤ x9_2
                ·rw [if_pos c29] at H
                 have c29b0 : decide (0 ≤ x9_2) = true := yC c29
                 clear c29
                 by_cases c30 : x9_2 < (((rd_T49 l1_2 x12_3).f1).length : Int)
                 ·rw [if_pos c30] at H
                  have c30b0 : decide (x9_2 < (((rd_T49 l1_2 x12_3).f1).length : Int)) = true := yC c30
                  clear c30
                  by_cases c31 : (rd ((rd_T49 l1_2 x12_3).f1) x9_2) < x10_3
                  ·rw [if_pos c31] at H
                   have c31b0 : decide ((rd ((rd_T49 l1_2 x12_3).f1) x9_2) < x10_3) = true := yC c31
                   clear c31
                   by_cases c32 : (rd ((rd_T49 l1_2 x12_3).f1) x9_2) > x11_3
                   ·rw [if_pos c32] at H
                    have c32b0 : decide (x11_3 < (rd ((rd_T49 l1_2 x12_3).f1) x9_2)) = true := yC c32
                    clear c32
                    have H' := zK H
                    clear H
                    have hcz33_0 : wr.cell? ⟨Z3, 0, none⟩ = some (.int .i64 a1_0) := (zO Z0.out 0).trans rfl
                    have hcz33_1 : wr.cell? ⟨Z3, 1, none⟩ = some (.int .i64 a1_1) := (zO Z0.out 1).trans rfl
                    have hcz33_2 : wr.cell? ⟨Z3, 2, none⟩ = some (.slice (some ad504) l1_2.length c1_2) := (zO Z0.out 2).trans rfl
                    have hfz33_0 := yE Z0.out 0
                    have hfz33_1 := yE Z0.out 1
                    have hfz33_2 := yE Z0.out 2
                    have p510 : 0 ≤ (x12_3 : Int) := yB (by first | (with_reducible assumption) | assumption)
                    have q510 : x12_3 < (l1_2.length : Int) := yB (by first | (with_reducible assumption) | assumption)
                    obtain ⟨ad510, A510_0, c510_0, A510_1, c510_1, e510, hx510_0, hx510_1, hl510_0, hi510_0, hl510_1, hi510_1⟩ := at_T49 HR1_2.out x12_3 p510 q510
                    obtain rfl : ad504 = ad510 := (by injection e510)
                    replace hx510_0 := (HB.out.cell (World.block_lt_of_cell? w _ hx510_0)).trans hx510_0
                    replace hx510_1 := (HB.out.cell (World.block_lt_of_cell? w _ hx510_1)).trans hx510_1
                    have HR510_0 := zK hi510_0
                    have HC510_0 := zK hl510_0
                    clear hi510_0 hl510_0
                    have HR510_1 := zK hi510_1
                    have HC510_1 := zK hl510_1
                    clear hi510_1 hl510_1
                    replace p510 := yg p510
                    replace q510 := yg q510
                    have p511 : 0 ≤ (x9_2 : Int) := yB (by first | (with_reducible assumption) | assumption)
                    have q511 : x9_2 < (((rd_T49 l1_2 x12_3).f1).length : Int) := yB (by first | (with_reducible assumption) | assumption)
                    obtain ⟨ad511, e511, hx511_0⟩ := Kd.at_int HR510_1.out x9_2 p511 q511
                    cases e511
                    replace hx511_0 := (HB.out.cell (World.block_lt_of_cell? w _ hx511_0)).trans hx511_0
                    replace p511 := yg p511
                    replace q511 := yg q511
                    have p512 : 0 ≤ (x12_3 : Int) := yB (by first | (with_reducible assumption) | assumption)
                    have q512 : x12_3 < (l1_2.length : Int) := yB (by first | (with_reducible assumption) | assumption)
                    obtain ⟨ad512, A512_0, c512_0, A512_1, c512_1, e512, hx512_0, hx512_1, hl512_0, hi512_0, hl512_1, hi512_1⟩ := at_T49 HR1_2.out x12_3 p512 q512
                    obtain rfl : ad504 = ad512 := (by injection e512)
                    replace hx512_0 := (HB.out.cell (World.block_lt_of_cell? w _ hx512_0)).trans hx512_0
                    replace hx512_1 := (HB.out.cell (World.block_lt_of_cell? w _ hx512_1)).trans hx512_1
                    have HR512_0 := zK hi512_0
                    have HC512_0 := zK hl512_0
                    clear hi512_0 hl512_0
                    have HR512_1 := zK hi512_1
                    have HC512_1 := zK hl512_1
                    clear hi512_1 hl512_1
                    replace p512 := yg p512
                    replace q512 := yg q512
                    have ea_ := yY (hx510_0.symm.trans hx512_0)
                    injection ea_ with ea_ en_ ec_
                    subst ea_
                    subst ec_
                    clear en_
                    have ea_ := yY (hx510_1.symm.trans hx512_1)
                    injection ea_ with ea_ en_ ec_
                    subst ea_
                    subst ec_
                    clear en_
                    have p513 : 0 ≤ (x9_2 : Int) := yB (by first | (with_reducible assumption) | assumption)
                    have q513 : x9_2 < (((rd_T49 l1_2 x12_3).f1).length : Int) := yB (by first | (with_reducible assumption) | assumption)
                    obtain ⟨ad513, e513, hx513_0⟩ := Kd.at_int HR512_1.out x9_2 p513 q513
                    cases e513
                    replace hx513_0 := (HB.out.cell (World.block_lt_of_cell? w _ hx513_0)).trans hx513_0
                    replace p513 := yg p513
                    replace q513 := yg q513
                    have p514 : 0 ≤ (x12_3 : Int) := yB (by first | (with_reducible assumption) | assumption)
                    have q514 : x12_3 < (l1_2.length : Int) := yB (by first | (with_reducible assumption) | assumption)
                    obtain ⟨ad514, A514_0, c514_0, A514_1, c514_1, e514, hx514_0, hx514_1, hl514_0, hi514_0, hl514_1, hi514_1⟩ := at_T49 HR1_2.out x12_3 p514 q514
                    obtain rfl : ad504 = ad514 := (by injection e514)
                    replace hx514_0 := (HB.out.cell (World.block_lt_of_cell? w _ hx514_0)).trans hx514_0
                    replace hx514_1 := (HB.out.cell (World.block_lt_of_cell? w _ hx514_1)).trans hx514_1
                    have HR514_0 := zK hi514_0
                    have HC514_0 := zK hl514_0
                    clear hi514_0 hl514_0
                    have HR514_1 := zK hi514_1
                    have HC514_1 := zK hl514_1
                    clear hi514_1 hl514_1
                    replace p514 := yg p514
                    replace q514 := yg q514
                    have ea_ := yY (hx510_0.symm.trans hx514_0)
                    injection ea_ with ea_ en_ ec_
                    subst ea_
                    subst ec_
                    clear en_
                    have ea_ := yY (hx510_1.symm.trans hx514_1)
                    injection ea_ with ea_ en_ ec_
                    subst ea_
                    subst ec_
                    clear en_
                    have p515 : 0 ≤ (x9_2 : Int) := yB (by first | (with_reducible assumption) | assumption)
                    have q515 : x9_2 < (((rd_T49 l1_2 x12_3).f1).length : Int) := yB (by first | (with_reducible assumption) | assumption)
                    obtain ⟨ad515, e515, hx515_0⟩ := Kd.at_int HR514_1.out x9_2 p515 q515
                    cases e515
                    replace hx515_0 := (HB.out.cell (World.block_lt_of_cell? w _ hx515_0)).trans hx515_0
                    replace p515 := yg p515
                    replace q515 := yg q515
                    have p516 : 0 ≤ (x12_3 : Int) := yB (by first | (with_reducible assumption) | assumption)
                    have q516 : x12_3 < (l1_2.length : Int) := yB (by first | (with_reducible assumption) | assumption)
                    obtain ⟨ad516, A516_0, c516_0, A516_1, c516_1, e516, hx516_0, hx516_1, hl516_0, hi516_0, hl516_1, hi516_1⟩ := at_T49 HR1_2.out x12_3 p516 q516
                    obtain rfl : ad504 = ad516 := (by injection e516)
                    replace hx516_0 := (HB.out.cell (World.block_lt_of_cell? w _ hx516_0)).trans hx516_0
                    replace hx516_1 := (HB.out.cell (World.block_lt_of_cell? w _ hx516_1)).trans hx516_1
                    have HR516_0 := zK hi516_0
                    have HC516_0 := zK hl516_0
                    clear hi516_0 hl516_0
                    have HR516_1 := zK hi516_1
                    have HC516_1 := zK hl516_1
                    clear hi516_1 hl516_1
                    replace p516 := yg p516
                    replace q516 := yg q516
                    have ea_ := yY (hx510_0.symm.trans hx516_0)
                    injection ea_ with ea_ en_ ec_
                    subst ea_
                    subst ec_
                    clear en_
                    have ea_ := yY (hx510_1.symm.trans hx516_1)
                    injection ea_ with ea_ en_ ec_
                    subst ea_
                    subst ec_
                    clear en_
                    have p517 : 0 ≤ (x9_2 : Int) := yB (by first | (with_reducible assumption) | assumption)
                    have q517 : x9_2 < (((rd_T49 l1_2 x12_3).f1).length : Int) := yB (by first | (with_reducible assumption) | assumption)
                    obtain ⟨ad517, e517, hx517_0⟩ := Kd.at_int HR516_1.out x9_2 p517 q517
                    cases e517
                    replace hx517_0 := (HB.out.cell (World.block_lt_of_cell? w _ hx517_0)).trans hx517_0
                    replace p517 := yg p517
                    replace q517 := yg q517
                    go_wp2
                    go_roundg k3
                    case measure => have := HJ5.out; have := HK2.out; have := HK3.out; omega
                    case rel => exact ⟨(rd ((rd_T49 l1_2 x12_3).f1) x9_2), (rd ((rd_T49 l1_2 x12_3).f1) x9_2), (wrap64 (x12_3 + 1)), (by first | rfl | (simp; done) | (simp [*]; done)), (by first | rfl | (simp; done) | (simp [*]; done)), (by first | rfl | (simp; done) | (simp [*]; done)), H', ⟨by have := HJ5.out; have := HK2.out; have := HK3.out; omega⟩, ⟨by (with_reducible repeat (first | apply zL | apply zM | apply zN)); exact HO_5.out⟩, ⟨by (with_reducible repeat (first | refine zF ?_ _ | refine zH ?_ | refine zG ?_ _)); exact Z0.out⟩, ⟨by repeat (first | (with_reducible first | exact HB.out | apply zJ | apply zD | apply zE | refine zI ?_ Z1.out) | exact HB.out)⟩⟩
                   ·rw [if_neg c32] at H
                    have c32b0 : decide (x11_3 < (rd ((rd_T49 l1_2 x12_3).f1) x9_2)) = false := yD c32
                    clear c32
                    have H' := zK H
                    clear H
                    have hcz34_0 : wr.cell? ⟨Z3, 0, none⟩ = some (.int .i64 a1_0) := (zO Z0.out 0).trans rfl
                    have hcz34_1 : wr.cell? ⟨Z3, 1, none⟩ = some (.int .i64 a1_1) := (zO Z0.out 1).trans rfl
                    have hcz34_2 : wr.cell? ⟨Z3, 2, none⟩ = some (.slice (some ad504) l1_2.length c1_2) := (zO Z0.out 2).trans rfl
                    have hfz34_0 := yE Z0.out 0
                    have hfz34_1 := yE Z0.out 1
                    have hfz34_2 := yE Z0.out 2
                    have p510 : 0 ≤ (x12_3 : Int) := yB (by first | (with_reducible assumption) | assumption)
                    have q510 : x12_3 < (l1_2.length : Int) := yB (by first | (with_reducible assumption) | assumption)
                    obtain ⟨ad510, A510_0, c510_0, A510_1, c510_1, e510, hx510_0, hx510_1, hl510_0, hi510_0, hl510_1, hi510_1⟩ := at_T49 HR1_2.out x12_3 p510 q510
                    obtain rfl : ad504 = ad510 := (by injection e510)
                    replace hx510_0 := (HB.out.cell (World.block_lt_of_cell? w _ hx510_0)).trans hx510_0
                    replace hx510_1 := (HB.out.cell (World.block_lt_of_cell? w _ hx510_1)).trans hx510_1
                    have HR510_0 := zK hi510_0
                    have HC510_0 := zK hl510_0
                    clear hi510_0 hl510_0
                    have HR510_1 := zK hi510_1
                    have HC510_1 := zK hl510_1
                    clear hi510_1 hl510_1
                    replace p510 := yg p510
                    replace q510 := yg q510
                    have p511 : 0 ≤ (x9_2 : Int) := yB (by first | (with_reducible assumption) | assumption)
                    have q511 : x9_2 < (((rd_T49 l1_2 x12_3).f1).length : Int) := yB (by first | (with_reducible assumption) | assumption)
                    obtain ⟨ad511, e511, hx511_0⟩ := Kd.at_int HR510_1.out x9_2 p511 q511
                    cases e511
                    replace hx511_0 := (HB.out.cell (World.block_lt_of_cell? w _ hx511_0)).trans hx511_0
                    replace p511 := yg p511
                    replace q511 := yg q511
                    have p512 : 0 ≤ (x12_3 : Int) := yB (by first | (with_reducible assumption) | assumption)
                    have q512 : x12_3 < (l1_2.length : Int) := yB (by first | (with_reducible assumption) | assumption)
                    obtain ⟨ad512, A512_0, c512_0, A512_1, c512_1, e512, hx512_0, hx512_1, hl512_0, hi512_0, hl512_1, hi512_1⟩ := at_T49 HR1_2.out x12_3 p512 q512
                    obtain rfl : ad504 = ad512 := (by injection e512)
                    replace hx512_0 := (HB.out.cell (World.block_lt_of_cell? w _ hx512_0)).trans hx512_0
                    replace hx512_1 := (HB.out.cell (World.block_lt_of_cell? w _ hx512_1)).trans hx512_1
                    have HR512_0 := zK hi512_0
                    have HC512_0 := zK hl512_0
                    clear hi512_0 hl512_0
                    have HR512_1 := zK hi512_1
                    have HC512_1 := zK hl512_1
                    clear hi512_1 hl512_1
                    replace p512 := yg p512
                    replace q512 := yg q512
                    have ea_ := yY (hx510_0.symm.trans hx512_0)
                    injection ea_ with ea_ en_ ec_
                    subst ea_
                    subst ec_
                    clear en_
                    have ea_ := yY (hx510_1.symm.trans hx512_1)
                    injection ea_ with ea_ en_ ec_
                    subst ea_
                    subst ec_
                    clear en_
                    have p513 : 0 ≤ (x9_2 : Int) := yB (by first | (with_reducible assumption) | assumption)
                    have q513 : x9_2 < (((rd_T49 l1_2 x12_3).f1).length : Int) := yB (by first | (with_reducible assumption) | assumption)
                    obtain ⟨ad513, e513, hx513_0⟩ := Kd.at_int HR512_1.out x9_2 p513 q513
                    cases e513
                    replace hx513_0 := (HB.out.cell (World.block_lt_of_cell? w _ hx513_0)).trans hx513_0
                    replace p513 := yg p513
                    replace q513 := yg q513
                    have p514 : 0 ≤ (x12_3 : Int) := yB (by first | (with_reducible assumption) | assumption)
                    have q514 : x12_3 < (l1_2.length : Int) := yB (by first | (with_reducible assumption) | assumption)
                    obtain ⟨ad514, A514_0, c514_0, A514_1, c514_1, e514, hx514_0, hx514_1, hl514_0, hi514_0, hl514_1, hi514_1⟩ := at_T49 HR1_2.out x12_3 p514 q514
                    obtain rfl : ad504 = ad514 := (by injection e514)
                    replace hx514_0 := (HB.out.cell (World.block_lt_of_cell? w _ hx514_0)).trans hx514_0
                    replace hx514_1 := (HB.out.cell (World.block_lt_of_cell? w _ hx514_1)).trans hx514_1
                    have HR514_0 := zK hi514_0
                    have HC514_0 := zK hl514_0
                    clear hi514_0 hl514_0
                    have HR514_1 := zK hi514_1
                    have HC514_1 := zK hl514_1
                    clear hi514_1 hl514_1
                    replace p514 := yg p514
                    replace q514 := yg q514
                    have ea_ := yY (hx510_0.symm.trans hx514_0)
                    injection ea_ with ea_ en_ ec_
                    subst ea_
                    subst ec_
                    clear en_
                    have ea_ := yY (hx510_1.symm.trans hx514_1)
                    injection ea_ with ea_ en_ ec_
                    subst ea_
                    subst ec_
                    clear en_
                    have p515 : 0 ≤ (x9_2 : Int) := yB (by first | (with_reducible assumption) | assumption)
                    have q515 : x9_2 < (((rd_T49 l1_2 x12_3).f1).length : Int) := yB (by first | (with_reducible assumption) | assumption)
                    obtain ⟨ad515, e515, hx515_0⟩ := Kd.at_int HR514_1.out x9_2 p515 q515
                    cases e515
                    replace hx515_0 := (HB.out.cell (World.block_lt_of_cell? w _ hx515_0)).trans hx515_0
                    replace p515 := yg p515
                    replace q515 := yg q515
                    go_wp2
                    go_roundg k3
                    case measure => have := HJ5.out; have := HK2.out; have := HK3.out; omega
                    case rel => exact ⟨(rd ((rd_T49 l1_2 x12_3).f1) x9_2), (x11_3), (wrap64 (x12_3 + 1)), (by first | rfl | (simp; done) | (simp [*]; done)), (by first | rfl | (simp; done) | (simp [*]; done)), (by first | rfl | (simp; done) | (simp [*]; done)), H', ⟨by have := HJ5.out; have := HK2.out; have := HK3.out; omega⟩, ⟨by (with_reducible repeat (first | apply zL | apply zM | apply zN)); exact HO_5.out⟩, ⟨by (with_reducible repeat (first | refine zF ?_ _ | refine zH ?_ | refine zG ?_ _)); exact Z0.out⟩, ⟨by repeat (first | (with_reducible first | exact HB.out | apply zJ | apply zD | apply zE | refine zI ?_ Z1.out) | exact HB.out)⟩⟩
                  ·rw [if_neg c31] at H
                   have c31b0 : decide ((rd ((rd_T49 l1_2 x12_3).f1) x9_2) < x10_3) = false := yD c31
                   clear c31
                   by_cases c35 : (rd ((rd_T49 l1_2 x12_3).f1) x9_2) > x11_3
                   ·rw [if_pos c35] at H
                    have c35b0 : decide (x11_3 < (rd ((rd_T49 l1_2 x12_3).f1) x9_2)) = true := yC c35
                    clear c35
                    have H' := zK H
                    clear H
                    have hcz36_0 : wr.cell? ⟨Z3, 0, none⟩ = some (.int .i64 a1_0) := (zO Z0.out 0).trans rfl
                    have hcz36_1 : wr.cell? ⟨Z3, 1, none⟩ = some (.int .i64 a1_1) := (zO Z0.out 1).trans rfl
                    have hcz36_2 : wr.cell? ⟨Z3, 2, none⟩ = some (.slice (some ad504) l1_2.length c1_2) := (zO Z0.out 2).trans rfl
                    have hfz36_0 := yE Z0.out 0
                    have hfz36_1 := yE Z0.out 1
                    have hfz36_2 := yE Z0.out 2
                    have p510 : 0 ≤ (x12_3 : Int) := yB (by first | (with_reducible assumption) | assumption)
                    have q510 : x12_3 < (l1_2.length : Int) := yB (by first | (with_reducible assumption) | assumption)
                    obtain ⟨ad510, A510_0, c510_0, A510_1, c510_1, e510, hx510_0, hx510_1, hl510_0, hi510_0, hl510_1, hi510_1⟩ := at_T49 HR1_2.out x12_3 p510 q510
                    obtain rfl : ad504 = ad510 := (by injection e510)
                    replace hx510_0 := (HB.out.cell (World.block_lt_of_cell? w _ hx510_0)).trans hx510_0
                    replace hx510_1 := (HB.out.cell (World.block_lt_of_cell? w _ hx510_1)).trans hx510_1
                    have HR510_0 := zK hi510_0
                    have HC510_0 := zK hl510_0
                    clear hi510_0 hl510_0
                    have HR510_1 := zK hi510_1
                    have HC510_1 := zK hl510_1
                    clear hi510_1 hl510_1
                    replace p510 := yg p510
                    replace q510 := yg q510
                    have p511 : 0 ≤ (x9_2 : Int) := yB (by first | (with_reducible assumption) | assumption)
                    have q511 : x9_2 < (((rd_T49 l1_2 x12_3).f1).length : Int) := yB (by first | (with_reducible assumption) | assumption)
                    obtain ⟨ad511, e511, hx511_0⟩ := Kd.at_int HR510_1.out x9_2 p511 q511
                    cases e511
                    replace hx511_0 := (HB.out.cell (World.block_lt_of_cell? w _ hx511_0)).trans hx511_0
                    replace p511 := yg p511
                    replace q511 := yg q511
                    have p518 : 0 ≤ (x12_3 : Int) := yB (by first | (with_reducible assumption) | assumption)
                    have q518 : x12_3 < (l1_2.length : Int) := yB (by first | (with_reducible assumption) | assumption)
                    obtain ⟨ad518, A518_0, c518_0, A518_1, c518_1, e518, hx518_0, hx518_1, hl518_0, hi518_0, hl518_1, hi518_1⟩ := at_T49 HR1_2.out x12_3 p518 q518
                    obtain rfl : ad504 = ad518 := (by injection e518)
                    replace hx518_0 := (HB.out.cell (World.block_lt_of_cell? w _ hx518_0)).trans hx518_0
                    replace hx518_1 := (HB.out.cell (World.block_lt_of_cell? w _ hx518_1)).trans hx518_1
                    have HR518_0 := zK hi518_0
                    have HC518_0 := zK hl518_0
                    clear hi518_0 hl518_0
                    have HR518_1 := zK hi518_1
                    have HC518_1 := zK hl518_1
                    clear hi518_1 hl518_1
                    replace p518 := yg p518
                    replace q518 := yg q518
                    have ea_ := yY (hx510_0.symm.trans hx518_0)
                    injection ea_ with ea_ en_ ec_
                    subst ea_
                    subst ec_
                    clear en_
                    have ea_ := yY (hx510_1.symm.trans hx518_1)
                    injection ea_ with ea_ en_ ec_
                    subst ea_
                    subst ec_
                    clear en_
                    have p519 : 0 ≤ (x9_2 : Int) := yB (by first | (with_reducible assumption) | assumption)
                    have q519 : x9_2 < (((rd_T49 l1_2 x12_3).f1).length : Int) := yB (by first | (with_reducible assumption) | assumption)
                    obtain ⟨ad519, e519, hx519_0⟩ := Kd.at_int HR518_1.out x9_2 p519 q519
                    cases e519
                    replace hx519_0 := (HB.out.cell (World.block_lt_of_cell? w _ hx519_0)).trans hx519_0
                    replace p519 := yg p519
                    replace q519 := yg q519
                    have p520 : 0 ≤ (x12_3 : Int) := yB (by first | (with_reducible assumption) | assumption)
                    have q520 : x12_3 < (l1_2.length : Int) := yB (by first | (with_reducible assumption) | assumption)
                    obtain ⟨ad520, A520_0, c520_0, A520_1, c520_1, e520, hx520_0, hx520_1, hl520_0, hi520_0, hl520_1, hi520_1⟩ := at_T49 HR1_2.out x12_3 p520 q520
                    obtain rfl : ad504 = ad520 := (by injection e520)
                    replace hx520_0 := (HB.out.cell (World.block_lt_of_cell? w _ hx520_0)).trans hx520_0
                    replace hx520_1 := (HB.out.cell (World.block_lt_of_cell? w _ hx520_1)).trans hx520_1
                    have HR520_0 := zK hi520_0
                    have HC520_0 := zK hl520_0
                    clear hi520_0 hl520_0
                    have HR520_1 := zK hi520_1
                    have HC520_1 := zK hl520_1
                    clear hi520_1 hl520_1
                    replace p520 := yg p520
                    replace q520 := yg q520
                    have ea_ := yY (hx510_0.symm.trans hx520_0)
                    injection ea_ with ea_ en_ ec_
                    subst ea_
                    subst ec_
                    clear en_
                    have ea_ := yY (hx510_1.symm.trans hx520_1)
                    injection ea_ with ea_ en_ ec_
                    subst ea_
                    subst ec_
                    clear en_
                    have p521 : 0 ≤ (x9_2 : Int) := yB (by first | (with_reducible assumption) | assumption)
                    have q521 : x9_2 < (((rd_T49 l1_2 x12_3).f1).length : Int) := yB (by first | (with_reducible assumption) | assumption)
                    obtain ⟨ad521, e521, hx521_0⟩ := Kd.at_int HR520_1.out x9_2 p521 q521
                    cases e521
                    replace hx521_0 := (HB.out.cell (World.block_lt_of_cell? w _ hx521_0)).trans hx521_0
                    replace p521 := yg p521
                    replace q521 := yg q521
                    go_wp2
                    go_roundg k3
                    case measure => have := HJ5.out; have := HK2.out; have := HK3.out; omega
                    case rel => exact ⟨(x10_3), (rd ((rd_T49 l1_2 x12_3).f1) x9_2), (wrap64 (x12_3 + 1)), (by first | rfl | (simp; done) | (simp [*]; done)), (by first | rfl | (simp; done) | (simp [*]; done)), (by first | rfl | (simp; done) | (simp [*]; done)), H', ⟨by have := HJ5.out; have := HK2.out; have := HK3.out; omega⟩, ⟨by (with_reducible repeat (first | apply zL | apply zM | apply zN)); exact HO_5.out⟩, ⟨by (with_reducible repeat (first | refine zF ?_ _ | refine zH ?_ | refine zG ?_ _)); exact Z0.out⟩, ⟨by repeat (first | (with_reducible first | exact HB.out | apply zJ | apply zD | apply zE | refine zI ?_ Z1.out) | exact HB.out)⟩⟩
                   ·rw [if_neg c35] at H
                    have c35b0 : decide (x11_3 < (rd ((rd_T49 l1_2 x12_3).f1) x9_2)) = false := yD c35
                    clear c35
                    have H' := zK H
                    clear H
                    have hcz37_0 : wr.cell? ⟨Z3, 0, none⟩ = some (.int .i64 a1_0) := (zO Z0.out 0).trans rfl
                    have hcz37_1 : wr.cell? ⟨Z3, 1, none⟩ = some (.int .i64 a1_1) := (zO Z0.out 1).trans rfl
                    have hcz37_2 : wr.cell? ⟨Z3, 2, none⟩ = some (.slice (some ad504) l1_2.length c1_2) := (zO Z0.out 2).trans rfl
                    have hfz37_0 := yE Z0.out 0
                    have hfz37_1 := yE Z0.out 1
                    have hfz37_2 := yE Z0.out 2
                    have p510 : 0 ≤ (x12_3 : Int) := yB (by first | (with_reducible assumption) | assumption)
                    have q510 : x12_3 < (l1_2.length : Int) := yB (by first | (with_reducible assumption) | assumption)
                    obtain ⟨ad510, A510_0, c510_0, A510_1, c510_1, e510, hx510_0, hx510_1, hl510_0, hi510_0, hl510_1, hi510_1⟩ := at_T49 HR1_2.out x12_3 p510 q510
                    obtain rfl : ad504 = ad510 := (by injection e510)
                    replace hx510_0 := (HB.out.cell (World.block_lt_of_cell? w _ hx510_0)).trans hx510_0
                    replace hx510_1 := (HB.out.cell (World.block_lt_of_cell? w _ hx510_1)).trans hx510_1
                    have HR510_0 := zK hi510_0
                    have HC510_0 := zK hl510_0
                    clear hi510_0 hl510_0
                    have HR510_1 := zK hi510_1
                    have HC510_1 := zK hl510_1
                    clear hi510_1 hl510_1
                    replace p510 := yg p510
                    replace q510 := yg q510
                    have p511 : 0 ≤ (x9_2 : Int) := yB (by first | (with_reducible assumption) | assumption)
                    have q511 : x9_2 < (((rd_T49 l1_2 x12_3).f1).length : Int) := yB (by first | (with_reducible assumption) | assumption)
                    obtain ⟨ad511, e511, hx511_0⟩ := Kd.at_int HR510_1.out x9_2 p511 q511
                    cases e511
                    replace hx511_0 := (HB.out.cell (World.block_lt_of_cell? w _ hx511_0)).trans hx511_0
                    replace p511 := yg p511
                    replace q511 := yg q511
                    have p518 : 0 ≤ (x12_3 : Int) := yB (by first | (with_reducible assumption) | assumption)
                    have q518 : x12_3 < (l1_2.length : Int) := yB (by first | (with_reducible assumption) | assumption)
                    obtain ⟨ad518, A518_0, c518_0, A518_1, c518_1, e518, hx518_0, hx518_1, hl518_0, hi518_0, hl518_1, hi518_1⟩ := at_T49 HR1_2.out x12_3 p518 q518
                    obtain rfl : ad504 = ad518 := (by injection e518)
                    replace hx518_0 := (HB.out.cell (World.block_lt_of_cell? w _ hx518_0)).trans hx518_0
                    replace hx518_1 := (HB.out.cell (World.block_lt_of_cell? w _ hx518_1)).trans hx518_1
                    have HR518_0 := zK hi518_0
                    have HC518_0 := zK hl518_0
                    clear hi518_0 hl518_0
                    have HR518_1 := zK hi518_1
                    have HC518_1 := zK hl518_1
                    clear hi518_1 hl518_1
                    replace p518 := yg p518
                    replace q518 := yg q518
                    have ea_ := yY (hx510_0.symm.trans hx518_0)
                    injection ea_ with ea_ en_ ec_
                    subst ea_
                    subst ec_
                    clear en_
                    have ea_ := yY (hx510_1.symm.trans hx518_1)
                    injection ea_ with ea_ en_ ec_
                    subst ea_
                    subst ec_
                    clear en_
                    have p519 : 0 ≤ (x9_2 : Int) := yB (by first | (with_reducible assumption) | assumption)
                    have q519 : x9_2 < (((rd_T49 l1_2 x12_3).f1).length : Int) := yB (by first | (with_reducible assumption) | assumption)
                    obtain ⟨ad519, e519, hx519_0⟩ := Kd.at_int HR518_1.out x9_2 p519 q519
                    cases e519
                    replace hx519_0 := (HB.out.cell (World.block_lt_of_cell? w _ hx519_0)).trans hx519_0
                    replace p519 := yg p519
                    replace q519 := yg q519
                    go_wp2
                    go_roundg k3
                    case measure => have := HJ5.out; have := HK2.out; have := HK3.out; omega
                    case rel => exact ⟨(x10_3), (x11_3), (wrap64 (x12_3 + 1)), (by first | rfl | (simp; done) | (simp [*]; done)), (by first | rfl | (simp; done) | (simp [*]; done)), (by first | rfl | (simp; done) | (simp [*]; done)), H', ⟨by have := HJ5.out; have := HK2.out; have := HK3.out; omega⟩, ⟨by (with_reducible repeat (first | apply zL | apply zM | apply zN)); exact HO_5.out⟩, ⟨by (with_reducible repeat (first | refine zF ?_ _ | refine zH ?_ | refine zG ?_ _)); exact Z0.out⟩, ⟨by repeat (first | (with_reducible first | exact HB.out | apply zJ | apply zD | apply zE | refine zI ?_ Z1.out) | exact HB.out)⟩⟩
                 ·rw [if_neg c30] at H
                  exact absurd H (by simp)
                ·rw [if_neg c29] at H
                 exact absurd H (by simp)
               ·rw [if_neg c28] at H
                exact absurd H (by simp)
              ·rw [if_neg c27] at H
               have c27b0 : decide (x12_3 < (l1_2.length : Int)) = false := yD c27
               clear c27
               by_cases c38 : 0 ≤ x9_2
               ·rw [if_pos c38] at H
                have c38b0 : decide (0 ≤ x9_2) = true := yC c38
                clear c38
                by_cases c39 : x9_2 < (t492.length : Int)
                ·rw [if_pos c39] at H
                 have c39b0 : decide (x9_2 < (t492.length : Int)) = true := yC c39
                 clear c39
                 by_cases c40 : (rd t492 x9_2) < x10_3
                 ·rw [if_pos c40] at H
                  have c40b0 : decide ((rd t492 x9_2) < x10_3) = true := yC c40
                  clear c40
                  obtain rfl := yY H
                  have hcz41_0 : wr.cell? ⟨Z3, 0, none⟩ = some (.int .i64 a1_0) := (zO Z0.out 0).trans rfl
                  have hcz41_1 : wr.cell? ⟨Z3, 1, none⟩ = some (.int .i64 a1_1) := (zO Z0.out 1).trans rfl
                  have hcz41_2 : wr.cell? ⟨Z3, 2, none⟩ = some (.slice (some ad504) l1_2.length c1_2) := (zO Z0.out 2).trans rfl
                  have hfz41_0 := yE Z0.out 0
                  have hfz41_1 := yE Z0.out 1
                  have hfz41_2 := yE Z0.out 2
                  have p508 : 0 ≤ (x9_2 : Int) := yB (by first | (with_reducible assumption) | assumption)
                  have q508 : x9_2 < (t492.length : Int) := yB (by first | (with_reducible assumption) | assumption)
                  obtain ⟨ad508, e508, hx508_0⟩ := Kd.at_int (yM HO_5.out).2.2 x9_2 p508 q508
                  cases e508
                  replace p508 := yg p508
                  replace q508 := yg q508
                  go_wp2
                  go_ret
                  exact ⟨by first | rfl | (simp [errW_none, errW_some] <;> rfl) | (simp [*, errW_none, errW_some] <;> rfl), by repeat (first | (with_reducible first | exact HB.out | apply zJ | apply zD | apply zE | refine zI ?_ Z1.out) | exact HB.out)⟩
                 ·rw [if_neg c40] at H
                  have c40b0 : decide ((rd t492 x9_2) < x10_3) = false := yD c40
                  clear c40
                  by_cases c42 : (rd t492 x9_2) > x11_3
                  ·rw [if_pos c42] at H
                   have c42b0 : decide (x11_3 < (rd t492 x9_2)) = true := yC c42
                   clear c42
                   obtain rfl := yY H
                   have hcz43_0 : wr.cell? ⟨Z3, 0, none⟩ = some (.int .i64 a1_0) := (zO Z0.out 0).trans rfl
                   have hcz43_1 : wr.cell? ⟨Z3, 1, none⟩ = some (.int .i64 a1_1) := (zO Z0.out 1).trans rfl
                   have hcz43_2 : wr.cell? ⟨Z3, 2, none⟩ = some (.slice (some ad504) l1_2.length c1_2) := (zO Z0.out 2).trans rfl
                   have hfz43_0 := yE Z0.out 0
                   have hfz43_1 := yE Z0.out 1
                   have hfz43_2 := yE Z0.out 2
                   have p508 : 0 ≤ (x9_2 : Int) := yB (by first | (with_reducible assumption) | assumption)
                   have q508 : x9_2 < (t492.length : Int) := yB (by first | (with_reducible assumption) | assumption)
                   obtain ⟨ad508, e508, hx508_0⟩ := Kd.at_int (yM HO_5.out).2.2 x9_2 p508 q508
                   cases e508
                   replace p508 := yg p508
                   replace q508 := yg q508
                   have p509 : 0 ≤ (x9_2 : Int) := yB (by first | (with_reducible assumption) | assumption)
                   have q509 : x9_2 < (t492.length : Int) := yB (by first | (with_reducible assumption) | assumption)
                   obtain ⟨ad509, e509, hx509_0⟩ := Kd.at_int (yM HO_5.out).2.2 x9_2 p509 q509
                   obtain rfl : ad508 = ad509 := (by injection e509)
                   replace p509 := yg p509
                   replace q509 := yg q509
                   go_wp2
                   go_ret
                   exact ⟨by first | rfl | (simp [errW_none, errW_some] <;> rfl) | (simp [*, errW_none, errW_some] <;> rfl), by repeat (first | (with_reducible first | exact HB.out | apply zJ | apply zD | apply zE | refine zI ?_ Z1.out) | exact HB.out)⟩
                  ·rw [if_neg c42] at H
                   have c42b0 : decide (x11_3 < (rd t492 x9_2)) = false := yD c42
                   clear c42
                   have H' := zK H
                   clear H
                   have hcz44_0 : wr.cell? ⟨Z3, 0, none⟩ = some (.int .i64 a1_0) := (zO Z0.out 0).trans rfl
                   have hcz44_1 : wr.cell? ⟨Z3, 1, none⟩ = some (.int .i64 a1_1) := (zO Z0.out 1).trans rfl
                   have hcz44_2 : wr.cell? ⟨Z3, 2, none⟩ = some (.slice (some ad504) l1_2.length c1_2) := (zO Z0.out 2).trans rfl
                   have hfz44_0 := yE Z0.out 0
                   have hfz44_1 := yE Z0.out 1
                   have hfz44_2 := yE Z0.out 2
                   have p508 : 0 ≤ (x9_2 : Int) := yB (by first | (with_reducible assumption) | assumption)
                   have q508 : x9_2 < (t492.length : Int) := yB (by first | (with_reducible assumption) | assumption)
                   obtain ⟨ad508, e508, hx508_0⟩ := Kd.at_int (yM HO_5.out).2.2 x9_2 p508 q508
                   cases e508
                   replace p508 := yg p508
                   replace q508 := yg q508
                   have p509 : 0 ≤ (x9_2 : Int) := yB (by first | (with_reducible assumption) | assumption)
                   have q509 : x9_2 < (t492.length : Int) := yB (by first | (with_reducible assumption) | assumption)
                   obtain ⟨ad509, e509, hx509_0⟩ := Kd.at_int (yM HO_5.out).2.2 x9_2 p509 q509
                   obtain rfl : ad508 = ad509 := (by injection e509)
                   replace p509 := yg p509
                   replace q509 := yg q509
                   go_wp2
                   go_roundg k3
                   case measure => have := HJ5.out; have := HK2.out; have := HK3.out; omega
                   case rel => exact ⟨(wrap64 (x9_2 + 1)), (by first | rfl | (simp; done) | (simp [*]; done)), H', ⟨by have := HJ5.out; have := HK2.out; have := HK3.out; omega⟩, ⟨by (with_reducible repeat (first | apply zL | apply zM | apply zN)); exact HO_5.out⟩, ⟨by (with_reducible repeat (first | refine zF ?_ _ | refine zH ?_ | refine zG ?_ _)); exact Z0.out⟩, ⟨by repeat (first | (with_reducible first | exact HB.out | apply zJ | apply zD | apply zE | refine zI ?_ Z1.out) | exact HB.out)⟩⟩
                ·rw [if_neg c39] at H
                 exact absurd H (by simp)
               ·rw [if_neg c38] at H
                exact absurd H (by simp)
           ·rw [if_neg c25] at H
            exact absurd H (by simp)
          ·rw [if_neg c24] at H
           exact absurd H (by simp)
         ·rw [if_neg c23] at H
          exact absurd H (by simp)
        ·rw [if_neg c22] at H
         have c22b0 : decide (x9_2 < (t492.length : Int)) = false := yD c22
         clear c22
         obtain rfl := yY H
         go_wp2
         go_ret
         exact ⟨by first | rfl | (simp [errW_none, errW_some] <;> rfl) | (simp [*, errW_none, errW_some] <;> rfl), by repeat (first | (with_reducible first | exact HB.out | apply zJ | apply zD | apply zE | refine zI ?_ Z1.out) | exact HB.out)⟩
     ·rw [if_neg c20] at H
      have c20b0 : ((t492.length : Int) == (l0.length : Int)) = false := beq_eq_false_iff_ne.mpr c20
      have c20b1 : ((t492.length : Int) != (l0.length : Int)) = true := bne_iff_ne.mpr c20
      have c20b2 : (t492.length == l0.length) = false := by first | simpa using c20 | (simp at c20 ⊢; omega)
      obtain rfl := yY H
      obtain ⟨Ao45, co45, eo45⟩ := Kd.R_slice HO_5.out
      subst eo45
      go_wp2
      go_ret
      exact ⟨by first | rfl | (simp [errW_none, errW_some] <;> rfl) | (simp [*, errW_none, errW_some] <;> rfl), by repeat (first | (with_reducible first | exact HB.out | apply zJ | apply zD | apply zE | refine zI ?_ Z1.out) | exact HB.out)⟩
    ·rw [if_neg c19] at H
     have c19b0 : (t495 == 0) = false := beq_eq_false_iff_ne.mpr c19
     have c19b1 : (t495 != 0) = true := bne_iff_ne.mpr c19
     obtain rfl := yY H
     obtain ⟨Ao46, co46, eo46⟩ := Kd.R_slice HO_5.out
     subst eo46
     go_wp2
     go_ret
     exact ⟨by first | rfl | (simp [errW_none, errW_some] <;> rfl) | (simp [*, errW_none, errW_some] <;> rfl), by repeat (first | (with_reducible first | exact HB.out | apply zJ | apply zD | apply zE | refine zI ?_ Z1.out) | exact HB.out)⟩

end Go.Proofs.Ytmjepdhjginelaa.B
