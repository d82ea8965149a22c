-- Printed by this session's own driver (wip/tools/xprint.py) over the kit's printer; given functions are this session's own.
import Derived.Test.YtmjepdhjginelaaB0
import Derived.Test.YtmjepdhjginelaaB6
import Derived.Test.YtmjepdhjginelaaB7
import Derived.Test.YtmjepdhjginelaaB11
import Derived.Test.YtmjepdhjginelaaB13
import Derived.Test.YtmjepdhjginelaaB14
namespace Go.Proofs.Ytmjepdhjginelaa.B
open Go.RowKit Go.Proofs.YtmjepdhjginelaaW.PrintWords Go.Proofs.YtmjepdhjginelaaW.PrintLast Go.Proofs.YtmjepdhjginelaaW.PrintMore
attribute [local go_sem] max2_int min2_int max_two min_two max_three min_three max_four min_four   -- for this text's walks alone
set_option linter.unusedVariables false
set_option linter.unusedSimpArgs false

/-! ### w19_AttendLooks: function 5 -/
mutual
def w19_AttendLooks.j0 : Nat → List (S50) → Bool → Int → Int → List (S49) → Option (Bool)
 | 0, _, _, _, _, _ => none
 | k + 1, x6, x57, Y0, Y1, Y2 => if x57 = true then (some false) else (w19_AttendLooks.l0 k x6 0 Y0 Y1 Y2)
def w19_AttendLooks.l0 : Nat → List (S50) → Int → Int → Int → List (S49) → Option (Bool)
 | 0, _, _, _, _, _ => none
 | k + 1, x6, x11, Y0, Y1, Y2 => if x11 < (x6.length : Int) then (if 0 ≤ x11 then (if x11 < (Y2.length : Int) then ((w19_rows.f k ((rd_T49 Y2 x11).f0) ((rd_T50 x6 x11).f0)).bind fun t464 => (if t464 = true then ((w19_rows.f k ((rd_T49 Y2 x11).f1) ((rd_T50 x6 x11).f1)).bind fun t467 => (if t467 = true then (w19_AttendLooks.l0 k x6 (wrap64 (x11 + 1)) Y0 Y1 Y2) else (some false))) else (some false))) else (none)) else (none)) else (some true)
end
def w19_AttendLooks.f (k : Nat) (l0 : List Int) (a1_0 : Int) (a1_1 : Int) (l1_2 : List (S49)) : Option (Bool) := (some (([] : List Int) : List Int)).bind fun y442 => (if y442.length + l0.length < 140737488355328 then ((some (y442 ++ l0 : List Int)).bind fun y445 => ((w19_pairs.f k l1_2).bind fun t448 => ((attend_Look.f k l0 a1_0 l1_2 a1_1).bind fun bt451 => ((r19_Look.f k y445 a1_0 t448 a1_1).bind fun bt455 => ((w19_awake.f k).bind fun t459 => (if t459 = true then ((w19_rows.f k bt451.1 bt455.1).bind fun t460 => (if t460 = true then (if bt451.2 = bt455.2 then ((w19_rows.f k l0 y445).bind fun t461 => (w19_AttendLooks.j0 k t448 (!t461) a1_0 a1_1 l1_2)) else (w19_AttendLooks.j0 k t448 true a1_0 a1_1 l1_2)) else (w19_AttendLooks.j0 k t448 true a1_0 a1_1 l1_2))) else (w19_AttendLooks.j0 k t448 true a1_0 a1_1 l1_2))))))) else (none))
theorem w19_AttendLooks.mono_l : ∀ k, (∀ y0 y1 y2 y3 y4, LeO (w19_AttendLooks.j0 k y0 y1 y2 y3 y4) (w19_AttendLooks.j0 (k + 1) y0 y1 y2 y3 y4)) ∧ (∀ y0 y1 y2 y3 y4, LeO (w19_AttendLooks.l0 k y0 y1 y2 y3 y4) (w19_AttendLooks.l0 (k + 1) y0 y1 y2 y3 y4))
 | 0 => ⟨fun _ _ _ _ _ r h => by simp [w19_AttendLooks.j0] at h, fun _ _ _ _ _ r h => by simp [w19_AttendLooks.l0] at h⟩
 | k + 1 => by
  obtain ⟨ih0, ih1⟩ := w19_AttendLooks.mono_l k
  refine ⟨?_, ?_⟩ <;> (intros; first | unfold w19_AttendLooks.j0 | unfold w19_AttendLooks.l0)
  all_goals repeat' first
   | (with_reducible exact ih0 _ _ _ _ _)
   | (with_reducible exact ih1 _ _ _ _ _)
   | (with_reducible exact attend_Look.mono _ _ _ _ _)
   | (with_reducible exact r19_Look.mono _ _ _ _ _)
   | (with_reducible exact w19_awake.mono _)
   | (with_reducible exact w19_pairs.mono _ _)
   | (with_reducible exact w19_rows.mono _ _ _)
   | (with_reducible exact yR _)
   | (with_reducible exact yO _)
   | (with_reducible refine yQ ?_ ?_)
   | (with_reducible refine yP ?_ (fun _ => ?_))
   | exact ih0 _ _ _ _ _
   | exact ih1 _ _ _ _ _
   | exact attend_Look.mono _ _ _ _ _
   | exact r19_Look.mono _ _ _ _ _
   | exact w19_awake.mono _
   | exact w19_pairs.mono _ _
   | exact w19_rows.mono _ _ _
   | exact yO _
   | refine yQ ?_ ?_
   | refine yP ?_ (fun _ => ?_)
theorem w19_AttendLooks.mono : ∀ a0 a1 a2 a3 k, LeO (w19_AttendLooks.f k a0 a1 a2 a3) (w19_AttendLooks.f (k + 1) a0 a1 a2 a3) := by
 intro a0 a1 a2 a3 k
 obtain ⟨ih0, ih1⟩ := w19_AttendLooks.mono_l k
 unfold w19_AttendLooks.f
 repeat' first
   | (with_reducible exact ih0 _ _ _ _ _)
   | (with_reducible exact ih1 _ _ _ _ _)
   | (with_reducible exact attend_Look.mono _ _ _ _ _)
   | (with_reducible exact r19_Look.mono _ _ _ _ _)
   | (with_reducible exact w19_awake.mono _)
   | (with_reducible exact w19_pairs.mono _ _)
   | (with_reducible exact w19_rows.mono _ _ _)
   | (with_reducible exact yR _)
   | (with_reducible exact yO _)
   | (with_reducible refine yQ ?_ ?_)
   | (with_reducible refine yP ?_ (fun _ => ?_))
   | exact ih0 _ _ _ _ _
   | exact ih1 _ _ _ _ _
   | exact attend_Look.mono _ _ _ _ _
   | exact r19_Look.mono _ _ _ _ _
   | exact w19_awake.mono _
   | exact w19_pairs.mono _ _
   | exact w19_rows.mono _ _ _
   | exact yO _
   | refine yQ ?_ ?_
   | refine yP ?_ (fun _ => ?_)
def w19_AttendLooks.T1 : Bool × List (List Nat × List Nat) := (true, [([], []), ([], []), ([0, 1], [0, 1]), ([], []), ([3], [3]), ([4, 2], [4]), ([2, 5, 0, 1, 2], [2]), ([5, 6, 0, 1, 2, 3, 4, 5, 6], [5])])
def w19_AttendLooks.B1 : List Nat := [0, 0, 3, 0, 8, 31, 63, 127]
theorem w19_AttendLooks.tab1 : rtab .any (opsOf Try.f5 1) = w19_AttendLooks.T1 := by kernel_rfl
theorem w19_AttendLooks.bits1 : waitsOk w19_AttendLooks.T1.2 w19_AttendLooks.B1 = true := by kernel_rfl
def w19_AttendLooks.T9 : Bool × List (List Nat × List Nat) := (true, [([], []), ([0], [0]), ([], []), ([1, 2], [1, 2]), ([3], [3]), ([4], [4]), ([], []), ([], []), ([6, 7], [6, 7]), ([8], [8]), ([9], [9]), ([5, 10], [5, 10]), ([11], [11]), ([12, 11], [12]), ([13], [13]), ([14, 13], [13, 14]), ([13], [13]), ([15, 16, 13], [13, 15, 16]), ([17, 13], [13, 17]), ([18, 13], [13, 18]), ([13], [13]), ([13], [13]), ([20, 21, 13], [13, 20, 21]), ([22, 13], [13, 22]), ([23, 13], [13, 23]), ([19, 24, 13, 13], [13, 19, 24]), ([25, 13], [13, 25]), ([13, 26], [13, 26])])
def w19_AttendLooks.B9 : List Nat := [0, 1, 0, 7, 15, 31, 0, 0, 192, 448, 960, 2047, 4095, 8191, 16383, 32767, 16383, 131071, 262143, 524287, 16383, 16383, 3162111, 7356415, 15745023, 33554431, 67108863, 134217727]
theorem w19_AttendLooks.tab9 : rtab .any (opsOf Try.f5 9) = w19_AttendLooks.T9 := by kernel_rfl
theorem w19_AttendLooks.bits9 : waitsOk w19_AttendLooks.T9.2 w19_AttendLooks.B9 = true := by kernel_rfl
set_option maxHeartbeats 8000000 in
set_option maxRecDepth 100000 in
theorem w19_AttendLooks.calls (k : Nat) (A0 : Option Addr) (c0 : Nat) (l0 : List Int) (a1_0 : Int) (a1_1 : Int) (A1_2 : Option Addr) (c1_2 : Nat) (l1_2 : List (S49)) (r : Bool) (w : World) (hr0 : Kd.C (Kd.int .i8) w A0 l0.length l0) (hc0 : l0.length ≤ c0) (hr1_2 : Kd.C k49 w A1_2 l1_2.length l1_2) (hc1_2 : l1_2.length ≤ c1_2) (h : w19_AttendLooks.f k l0 a1_0 a1_1 l1_2 = some r) :
  Calls Try.prog 5 #[.slice A0 l0.length c0, .agg #[.int .i64 a1_0, .int .i64 a1_1, .slice A1_2 l1_2.length c1_2]] w fun e w' => e = .returned (.bool r) ∧ Below w.heap.size w w' := by
 have hu43 := Try.underlying43
 have HR0 := zK hr0
 have HC0 := zK hc0
 clear hr0 hc0
 have HR1_2 := zK hr1_2
 have HC1_2 := zK hc1_2
 clear hr1_2 hc1_2
 have HB := zK (Below.refl w.heap.size w)
 have H : ((some (([] : List Int) : List Int)).bind fun y442 => (if y442.length + l0.length < 140737488355328 then ((some (y442 ++ l0 : List Int)).bind fun y445 => ((w19_pairs.f k l1_2).bind fun t448 => ((attend_Look.f k l0 a1_0 l1_2 a1_1).bind fun bt451 => ((r19_Look.f k y445 a1_0 t448 a1_1).bind fun bt455 => ((w19_awake.f k).bind fun t459 => (if t459 = true then ((w19_rows.f k bt451.1 bt455.1).bind fun t460 => (if t460 = true then (if bt451.2 = bt455.2 then ((w19_rows.f k l0 y445).bind fun t461 => (w19_AttendLooks.j0 k t448 (!t461) a1_0 a1_1 l1_2)) else (w19_AttendLooks.j0 k t448 true a1_0 a1_1 l1_2)) else (w19_AttendLooks.j0 k t448 true a1_0 a1_1 l1_2))) else (w19_AttendLooks.j0 k t448 true a1_0 a1_1 l1_2))))))) else (none))) = some r := h
 clear h
 obtain ⟨y442, hy442⟩ : ∃ y_ : List Int, y_ = (([] : List Int)) := ⟨_, rfl⟩
 replace H : (if y442.length + l0.length < 140737488355328 then ((some (y442 ++ l0 : List Int)).bind fun y445 => ((w19_pairs.f k l1_2).bind fun t448 => ((attend_Look.f k l0 a1_0 l1_2 a1_1).bind fun bt451 => ((r19_Look.f k y445 a1_0 t448 a1_1).bind fun bt455 => ((w19_awake.f k).bind fun t459 => (if t459 = true then ((w19_rows.f k bt451.1 bt455.1).bind fun t460 => (if t460 = true then (if bt451.2 = bt455.2 then ((w19_rows.f k l0 y445).bind fun t461 => (w19_AttendLooks.j0 k t448 (!t461) a1_0 a1_1 l1_2)) else (w19_AttendLooks.j0 k t448 true a1_0 a1_1 l1_2)) else (w19_AttendLooks.j0 k t448 true a1_0 a1_1 l1_2))) else (w19_AttendLooks.j0 k t448 true a1_0 a1_1 l1_2))))))) else (none)) = some r := by first | (rw [hy442]; with_reducible exact H) | (have H2_ := (yV _ _).symm.trans H; rw [hy442]; with_reducible exact H2_) | (have H2_ := (yV _ _).symm.trans H; with_reducible exact H2_) | with_reducible exact H | (rw [hy442]; exact H) | exact H
 have Ny442 := zK hy442
 clear hy442
 by_cases c3 : y442.length + l0.length < 140737488355328
 ·rw [if_pos c3] at H
  have LMc3 := zK c3
  clear c3
  obtain ⟨y445, hy445⟩ : ∃ y_ : List Int, y_ = (y442 ++ l0) := ⟨_, rfl⟩
  replace H : ((w19_pairs.f k l1_2).bind fun t448 => ((attend_Look.f k l0 a1_0 l1_2 a1_1).bind fun bt451 => ((r19_Look.f k y445 a1_0 t448 a1_1).bind fun bt455 => ((w19_awake.f k).bind fun t459 => (if t459 = true then ((w19_rows.f k bt451.1 bt455.1).bind fun t460 => (if t460 = true then (if bt451.2 = bt455.2 then ((w19_rows.f k l0 y445).bind fun t461 => (w19_AttendLooks.j0 k t448 (!t461) a1_0 a1_1 l1_2)) else (w19_AttendLooks.j0 k t448 true a1_0 a1_1 l1_2)) else (w19_AttendLooks.j0 k t448 true a1_0 a1_1 l1_2))) else (w19_AttendLooks.j0 k t448 true a1_0 a1_1 l1_2)))))) = some r := by first | (rw [hy445]; with_reducible exact H) | (have H2_ := (yV _ _).symm.trans H; rw [hy445]; with_reducible exact H2_) | (have H2_ := (yV _ _).symm.trans H; with_reducible exact H2_) | with_reducible exact H | (rw [hy445]; exact H) | exact H
  have Ny445 := zK hy445
  clear hy445
  replace H := yA.mp H
  obtain ⟨t448, A40, H⟩ := H
  replace H : ((attend_Look.f k l0 a1_0 l1_2 a1_1).bind fun bt451 => ((r19_Look.f k y445 a1_0 t448 a1_1).bind fun bt455 => ((w19_awake.f k).bind fun t459 => (if t459 = true then ((w19_rows.f k bt451.1 bt455.1).bind fun t460 => (if t460 = true then (if bt451.2 = bt455.2 then ((w19_rows.f k l0 y445).bind fun t461 => (w19_AttendLooks.j0 k t448 (!t461) a1_0 a1_1 l1_2)) else (w19_AttendLooks.j0 k t448 true a1_0 a1_1 l1_2)) else (w19_AttendLooks.j0 k t448 true a1_0 a1_1 l1_2))) else (w19_AttendLooks.j0 k t448 true a1_0 a1_1 l1_2))))) = some r := H
  have A4 := zK A40
  clear A40
  replace H := yA.mp H
  obtain ⟨⟨t451, t454⟩, A50, H⟩ := H
  replace H : ((r19_Look.f k y445 a1_0 t448 a1_1).bind fun bt455 => ((w19_awake.f k).bind fun t459 => (if t459 = true then ((w19_rows.f k t451 bt455.1).bind fun t460 => (if t460 = true then (if t454 = bt455.2 then ((w19_rows.f k l0 y445).bind fun t461 => (w19_AttendLooks.j0 k t448 (!t461) a1_0 a1_1 l1_2)) else (w19_AttendLooks.j0 k t448 true a1_0 a1_1 l1_2)) else (w19_AttendLooks.j0 k t448 true a1_0 a1_1 l1_2))) else (w19_AttendLooks.j0 k t448 true a1_0 a1_1 l1_2)))) = some r := H
  have A5 := zK A50
  clear A50
  replace H := yA.mp H
  obtain ⟨⟨t455, t458⟩, A60, H⟩ := H
  replace H : ((w19_awake.f k).bind fun t459 => (if t459 = true then ((w19_rows.f k t451 t455).bind fun t460 => (if t460 = true then (if t454 = t458 then ((w19_rows.f k l0 y445).bind fun t461 => (w19_AttendLooks.j0 k t448 (!t461) a1_0 a1_1 l1_2)) else (w19_AttendLooks.j0 k t448 true a1_0 a1_1 l1_2)) else (w19_AttendLooks.j0 k t448 true a1_0 a1_1 l1_2))) else (w19_AttendLooks.j0 k t448 true a1_0 a1_1 l1_2))) = some r := H
  have A6 := zK A60
  clear A60
  have HC7 := zK H
  clear H
  go_enter Try.func5, Try.ntmps5
  try go_wp2_with (first | ((with_reducible refine gate_dst (N := 3) rfl ?_); refine box_event ?hg (N := 3) ?hd (cs := #[.int .i64 a1_0, .int .i64 a1_1, .slice A1_2 l1_2.length c1_2]) (t := 43) ?hr ?_; (case hd => rfl); (case hg => rfl); (case hr => first | (go_simp; done) | (go_simp; rfl)); intro Z3 hg w8 hbox hb; have n0_ := zK (yL (by repeat (first | (with_reducible first | exact HB.out | apply zJ | apply zD | apply zE) | exact HB.out)) hb); have n1_ := zK (hbox); have n2_ := zK ((by rw [hg]; exact (yK (by repeat (first | (with_reducible first | exact HB.out | apply zJ | apply zD | apply zE) | exact HB.out))) : w.heap.size ≤ Z3)); have n3_ := zK ((by rw [hg]; exact (yK (by repeat (first | (with_reducible first | exact HB.out | apply zJ | apply zD | apply zE) | exact HB.out))) : w.heap.size ≤ Z3)); clear HB; have HB := n0_; have Z0 := n1_; have Z2 := n2_; have Z1 := n3_; clear n0_ n1_ n2_ n3_ hb hbox hg))
  have n0_ := zK (zH Z0.out)
  have n1_ := zK (zE HB.out)
  clear Z0 HB
  have Z0 := n0_; have HB := n1_
  clear n0_ n1_
  refine start_ (n := 8) (S := fun w' => w'.cell? ⟨Z3, 0, none⟩ = some (.int .i64 a1_0) ∧ w'.cell? ⟨Z3, 1, none⟩ = some (.int .i64 a1_1) ∧ w'.cell? ⟨Z3, 2, none⟩ = some (.slice A1_2 l1_2.length c1_2)) (ds := []) #[false, false, false, false, false, false, false, false] (by kernel_rfl) rfl rfl ⟨(zO Z0.out 0).trans rfl, (zO Z0.out 1).trans rfl, (zO Z0.out 2).trans rfl⟩ (fun hHeld => ?_); refine with_tabW w19_AttendLooks.tab1 w19_AttendLooks.bits1 (fun HT_ HW_ => ?_)
  generalize w8.drew = w9 at Z0 HB hHeld ⊢
  refine pure_ (i := 1) (N := some 13) (v := ?_) (a' := ?_) #[false, true, false, false, false, false, false, false] rfl rfl (any_of HT_.out (by kernel_rfl)) (fun _ _ _ h => h) (Or.inl ⟨by rfl, ?_⟩) ?_ ?_
  rotate_left
  ·intro w'
   go_simp
   with_reducible rfl
  rotate_left
  ·simp only [Act.put, zA, zB, zC, i64_w, i32_w]
   rfl
  refine pure_ (i := 3) (N := some 15) (v := ?_) (a' := ?_) #[false, true, false, true, false, false, false, false] rfl rfl (any_of HT_.out (by kernel_rfl)) (fun _ _ _ h => h) (Or.inl ⟨by rfl, ?_⟩) ?_ ?_
  rotate_left
  ·intro w'
   go_simp
   with_reducible rfl
  rotate_left
  ·simp only [Act.put, zA, zB, zC, i64_w, i32_w]
   rfl
  refine take_ (i := 4) (N := some 16) (v := ?_) (a' := ?_) #[false, true, false, true, true, false, false, false] rfl rfl (take_ofW HT_.out HW_.out (by kernel_rfl)) (fun _ _ _ h => h) (Or.inl ⟨by rfl, ?_⟩) hHeld ?_ ?_
  rotate_left
  ·rintro w' ⟨s0, s1, s2⟩
   go_simp
   with_reducible rfl
  rotate_left
  ·simp only [Act.put, zA, zB, zC, i64_w, i32_w]
   rfl
  refine one_ (i := 0) (N := some 12) #[true, true, false, true, true, false, false, false] rfl rfl (one_of HT_.out (by kernel_rfl)) (by decide) (fun K hK => ?_)
  refine Kd.R_lit_step (Kd.int .i8) _ 53 ?hg (N := 12) ?hd (xs := ([] : List Int)) (inner := []) (ok := fun _ => True) (okp := fun _ => True) ?hr ?hp (fun _ hk => hk) trivial (Below.refl _ _) (yN _) (by simp) ?_; (case hd => rfl); (case hg => rfl); (case hr => first | (go_simp; done) | (go_simp; rfl)); (case hp => exact (Reps.none _ _))
  intro v443 w10 ho11 hb hg_ hnew_
  clear hg_ hnew_
  (first | rw [← Ny442.out] at ho11 | (simp only [Int.reduceToNat] at ho11; rw [← Ny442.out] at ho11))
  have n0_ := zK (Kd.R_lower ho11 (yK (by repeat (first | (with_reducible first | exact HB.out | apply zJ | apply zD | apply zE | refine zI ?_ Z1.out) | exact HB.out))))
  have n1_ := zK (zP (g := Z3) (o := .cells #[.int .i64 a1_0, .int .i64 a1_1, .slice A1_2 l1_2.length c1_2] 43 (0, 0)) (by (with_reducible repeat (first | refine zF ?_ _ | refine zH ?_ | refine zG ?_ _)); exact Z0.out) hb)
  have n2_ := zK (yL (by repeat (first | (with_reducible first | exact HB.out | apply zJ | apply zD | apply zE | refine zI ?_ Z1.out) | exact HB.out)) hb)
  clear Z0 HB
  have HO444 := n0_; have Z0 := n1_; have HB := n2_
  clear n0_ n1_ n2_ hb ho11
  refine hK.out _ _ ⟨(zO Z0.out 0).trans rfl, (zO Z0.out 1).trans rfl, (zO Z0.out 2).trans rfl⟩ (fun hHeld => ?_)
  clear hK K
  refine norm_ (a' := ?_) ?_ ?_
  rotate_left
  ·show Act.put _ (some 12) _ = _
   simp only [Act.put, zA, zB, zC, i64_w, i32_w]
   rfl
  refine one_ (i := 2) (N := some 14) #[true, true, true, true, true, false, false, false] rfl rfl (one_of HT_.out (by kernel_rfl)) (by decide) (fun K hK => ?_)
  refine Kd.R_append_rows_step (Kd.int .i8) (w0 := w) w.heap.size (by rfl) (.tmp 12) (.tmp 13) 22 53 (.int .i8 0) 1 rfl Try.underlying22 info53 rfl (by decide) (by omega) v443 y442 l0 _ _ _ (fun _ => True) (fun _ => False) rfl rfl ?aO ?aR (fun _ _ h => h) (fun _ h => h.elim) ?aF ?aB ?aS ?aL ?_
  (case aR => repeat (first | exact (yc HR0.out HB.out) | (with_reducible refine yS ?_ _) | (with_reducible refine yT ?_ _) | (with_reducible refine yU ?_)))
  (case aB => exact (by repeat (first | (with_reducible first | exact HB.out | apply zJ | apply zD | apply zE | refine zI ?_ Z1.out) | exact HB.out)))
  (case aF => exact (fun _ _ => trivial))
  (case aO => exact (by (with_reducible repeat (first | apply zL | apply zM | apply zN)); exact HO444.out))
  (case aS => exact (yK (by repeat (first | (with_reducible first | exact HB.out | apply zJ | apply zD | apply zE | refine zI ?_ Z1.out) | exact HB.out))))
  (case aL => have := LMc3.out; omega)
  intro v446 w12 ho hb hg hat
  rw [← Ny445.out] at ho
  have n0_ := zK (blk_grown (g := Z3) (o := .cells #[.int .i64 a1_0, .int .i64 a1_1, .slice A1_2 l1_2.length c1_2] 43 (0, 0)) (by (with_reducible repeat (first | refine zF ?_ _ | refine zH ?_ | refine zG ?_ _)); exact Z0.out) hg (Kd.R_ne HO444.out Z0.out (by decide)))
  have n1_ := zK (hb)
  have n2_ := zK (ho)
  clear Z0 HB HO444
  have Z0 := n0_; have HB := n1_; have HO447 := n2_
  clear n0_ n1_ n2_ ho hb hg hat
  refine hK.out _ _ ⟨(zO Z0.out 0).trans rfl, (zO Z0.out 1).trans rfl, (zO Z0.out 2).trans rfl⟩ (fun hHeld => ?_)
  clear hK K
  refine norm_ (a' := ?_) ?_ ?_
  rotate_left
  ·show Act.put _ (some 14) _ = _
   simp only [Act.put, zA, zB, zC, i64_w, i32_w]
   rfl
  refine one_ (i := 5) (N := some 17) #[true, true, true, true, true, true, false, false] rfl rfl (one_of HT_.out (by kernel_rfl)) (by decide) (fun K hK => ?_)
  refine goes_ Try.func18 (by kernel_rfl) rfl #[.slice A1_2 l1_2.length c1_2] (by rfl) rfl rfl (by (try simp only [yH, yI, yJ]); first | done | rfl | (simp only [yG, yF]; rfl)) ?_
  with_reducible refine (w19_pairs.calls k _ _ l1_2 t448 _ ?side1 ?side2 A4.out).mono ?_
  (case side1 => repeat (first | exact (yc HR1_2.out HB.out) | (with_reducible refine yS ?_ _) | (with_reducible refine yT ?_ _) | (with_reducible refine yU ?_)))
  (case side2 => exact HC1_2.out)
  rintro e w13 ⟨v449, rfl, ho0, hb⟩
  refine ⟨_, rfl, ?_⟩
  have n0_ := zK (yb (by (with_reducible repeat (first | apply zL | apply zM | apply zN)); exact HO447.out) hb)
  have n1_ := zK (Kd.S_lower (Kd.S_new' ho0 (Kd.R_lt (by (with_reducible repeat (first | apply zL | apply zM | apply zN)); exact HO447.out))) (yK (by repeat (first | (with_reducible first | exact HB.out | apply zJ | apply zD | apply zE | refine zI ?_ Z1.out) | exact HB.out))))
  have n2_ := zK (zP (g := Z3) (o := .cells #[.int .i64 a1_0, .int .i64 a1_1, .slice A1_2 l1_2.length c1_2] 43 (0, 0)) (by (with_reducible repeat (first | refine zF ?_ _ | refine zH ?_ | refine zG ?_ _)); exact Z0.out) hb)
  have n3_ := zK (yL (by repeat (first | (with_reducible first | exact HB.out | apply zJ | apply zD | apply zE | refine zI ?_ Z1.out) | exact HB.out)) hb)
  clear HO447 Z0 HB
  have HO447 := n0_; have HO450 := n1_; have Z0 := n2_; have HB := n3_
  clear n0_ n1_ n2_ n3_
  (try clear hb)
  (try clear hb2)
  (try clear hk)
  (try clear hi)
  (try clear ho0)
  refine hK.out _ _ ⟨(zO Z0.out 0).trans rfl, (zO Z0.out 1).trans rfl, (zO Z0.out 2).trans rfl⟩ (fun hHeld => ?_)
  clear hK K
  refine norm_ (a' := ?_) ?_ ?_
  rotate_left
  ·show Act.put _ (some 17) _ = _
   simp only [Act.put, zA, zB, zC, i64_w, i32_w]
   rfl
  refine pure_ (i := 6) (N := some 5) (v := ?_) (a' := ?_) #[true, true, true, true, true, true, true, false] rfl rfl (any_of HT_.out (by kernel_rfl)) (fun _ _ _ h => h) (Or.inl ⟨by rfl, ?_⟩) ?_ ?_
  rotate_left
  ·intro w'
   go_simp
   with_reducible rfl
  rotate_left
  ·simp only [Act.put, zA, zB, zC, i64_w, i32_w]
   rfl
  refine pure_ (i := 7) (N := some 6) (v := ?_) (a' := ?_) #[true, true, true, true, true, true, true, true] rfl rfl (any_of HT_.out (by kernel_rfl)) (fun _ _ _ h => h) (Or.inl ⟨by rfl, ?_⟩) ?_ ?_
  rotate_left
  ·intro w'
   go_simp
   with_reducible rfl
  rotate_left
  ·simp only [Act.put, zA, zB, zC, i64_w, i32_w]
   rfl
  refine done_ (done_of HT_.out (by kernel_rfl)) ?_
  have hcz14_0 : w13.cell? ⟨Z3, 0, none⟩ = some (.int .i64 a1_0) := (zO Z0.out 0).trans rfl
  have hcz14_1 : w13.cell? ⟨Z3, 1, none⟩ = some (.int .i64 a1_1) := (zO Z0.out 1).trans rfl
  have hcz14_2 : w13.cell? ⟨Z3, 2, none⟩ = some (.slice A1_2 l1_2.length c1_2) := (zO Z0.out 2).trans rfl
  have hfz14_0 := yE Z0.out 0
  have hfz14_1 := yE Z0.out 1
  have hfz14_2 := yE Z0.out 2
  go_upto_region 4 with (first | ((with_reducible refine gate_callee (f := 19) rfl ?_); refine goesL_ (some 26) rfl rfl Try.func19 (by kernel_rfl) rfl #[.slice A0 l0.length c0, .int .i64 a1_0, .slice A1_2 l1_2.length c1_2, .int .i64 a1_1] rfl (by (try simp only [yH, yI, yJ]); first | done | rfl | (simp only [yG, yF]; rfl)) ?_; (with_reducible refine (attend_Look.calls k _ _ l0 a1_0 (fun k_ => k_ < w.heap.size) _ _ l1_2 a1_1 t451 t454 _ ?side1 ?side2 ?side3 A5.out).mono ?_); (case side1 => repeat (first | exact (yc HR0.out HB.out) | (with_reducible refine yS ?_ _) | (with_reducible refine yT ?_ _) | (with_reducible refine yU ?_))); (case side2 => exact HC0.out); (case side3 => exact Kd.V_mk HC1_2.out (Kd.F_below (Kd.C_F k49_heap HR1_2.out) (by repeat (first | (with_reducible first | exact HB.out | apply zJ | apply zD | apply zE | refine zI ?_ Z1.out) | exact HB.out)))); rintro e w15 ⟨v452, rfl, ho0, hb⟩; refine ⟨_, rfl, ?_⟩; have n0_ := zK (Kd.R_elder' (by (with_reducible repeat (first | apply zL | apply zM | apply zN)); exact HO447.out) (Kd.R_base ho0) hb); have n1_ := zK (Kd.S_elder' (by (with_reducible repeat (first | apply Kd.S_alloc | apply Kd.S_drewN | apply Kd.S_drew)); exact HO450.out) (Kd.R_base ho0) hb); have n2_ := zK (Kd.R_lower (Kd.R_new' (yd (ok' := fun k_ => True) ho0 (fun _ hk_ => trivial)) (Kd.R_lt (by (with_reducible repeat (first | apply zL | apply zM | apply zN)); exact HO447.out))) (yK (by repeat (first | (with_reducible first | exact HB.out | apply zJ | apply zD | apply zE | refine zI ?_ Z1.out) | exact HB.out)))); have n3_ := zK (zP (g := Z3) (o := .cells #[.int .i64 a1_0, .int .i64 a1_1, .slice A1_2 l1_2.length c1_2] 43 (0, 0)) (by (with_reducible repeat (first | refine zF ?_ _ | refine zH ?_ | refine zG ?_ _)); exact Z0.out) hb); have n4_ := zK (yL (by repeat (first | (with_reducible first | exact HB.out | apply zJ | apply zD | apply zE | refine zI ?_ Z1.out) | exact HB.out)) hb); clear HO447 HO450 Z0 HB; have HO447 := n0_; have HO450 := n1_; have HO453 := n2_; have Z0 := n3_; have HB := n4_; clear n0_ n1_ n2_ n3_ n4_; (try clear hb); (try clear hb2); (try clear hk); (try clear hi); (try clear ho0); have hcz16_0 : w15.cell? ⟨Z3, 0, none⟩ = some (.int .i64 a1_0) := (zO Z0.out 0).trans rfl; have hcz16_1 : w15.cell? ⟨Z3, 1, none⟩ = some (.int .i64 a1_1) := (zO Z0.out 1).trans rfl; have hcz16_2 : w15.cell? ⟨Z3, 2, none⟩ = some (.slice A1_2 l1_2.length c1_2) := (zO Z0.out 2).trans rfl; have hfz16_0 := yE Z0.out 0; have hfz16_1 := yE Z0.out 1; have hfz16_2 := yE Z0.out 2; obtain ⟨Ao17, co17, eo17⟩ := Kd.R_slice HO447.out; subst eo17; obtain ⟨Ao18, co18, eo18⟩ := Kd.S_slice HO450.out; subst eo18) | ((with_reducible refine gate_callee (f := 20) rfl ?_); refine goesL_ (some 36) rfl rfl Try.func20 (by kernel_rfl) rfl #[.slice Ao17 y445.length co17, .int .i64 a1_0, .slice Ao18 t448.length co18, .int .i64 a1_1] rfl (by (try simp only [yH, yI, yJ]); first | done | rfl | (simp only [yG, yF]; rfl)) ?_; (with_reducible refine (r19_Look.calls k _ _ y445 a1_0 (fun k_ => (((True ∧ some k_ ≠ (.slice Ao17 y445.length co17 : Value).ownBlock) ∧ some k_ ≠ (v452 : Value).ownBlock) ∧ k_ ≠ Z3)) _ _ t448 a1_1 t455 t458 _ ?side1 ?side2 ?side3 A6.out).mono ?_); (case side1 => repeat (first | exact (yM HO447.out).2.2 | (with_reducible refine yS ?_ _) | (with_reducible refine yT ?_ _) | (with_reducible refine yU ?_))); (case side2 => exact (yM HO447.out).2.1); (case side3 => exact Kd.S_V (Kd.S_types (HO450.out) Z0.out (by decide))); rintro e w19 ⟨v456, rfl, ho0, hb⟩; refine ⟨_, rfl, ?_⟩; have n0_ := zK (Kd.R_elder' (by (with_reducible repeat (first | apply zL | apply zM | apply zN)); exact HO447.out) (Kd.R_base ho0) hb); have n1_ := zK (Kd.S_elder' (by (with_reducible repeat (first | apply Kd.S_alloc | apply Kd.S_drewN | apply Kd.S_drew)); exact HO450.out) (Kd.R_base ho0) hb); have n2_ := zK (Kd.R_elder' (by (with_reducible repeat (first | apply zL | apply zM | apply zN)); exact HO453.out) (Kd.R_base ho0) hb); have n3_ := zK (Kd.R_lower (Kd.R_new' (Kd.R_new' (yd (ok' := fun k_ => True) ho0 (fun _ hk_ => trivial)) (Kd.R_lt (by (with_reducible repeat (first | apply zL | apply zM | apply zN)); exact HO447.out))) (Kd.R_lt (by (with_reducible repeat (first | apply zL | apply zM | apply zN)); exact HO453.out))) (yK (by repeat (first | (with_reducible first | exact HB.out | apply zJ | apply zD | apply zE | refine zI ?_ Z1.out) | exact HB.out)))); have n4_ := zK (zP (g := Z3) (o := .cells #[.int .i64 a1_0, .int .i64 a1_1, .slice A1_2 l1_2.length c1_2] 43 (0, 0)) (by (with_reducible repeat (first | refine zF ?_ _ | refine zH ?_ | refine zG ?_ _)); exact Z0.out) hb); have n5_ := zK (yL (by repeat (first | (with_reducible first | exact HB.out | apply zJ | apply zD | apply zE | refine zI ?_ Z1.out) | exact HB.out)) hb); clear HO447 HO450 HO453 Z0 HB; have HO447 := n0_; have HO450 := n1_; have HO453 := n2_; have HO457 := n3_; have Z0 := n4_; have HB := n5_; clear n0_ n1_ n2_ n3_ n4_ n5_; (try clear hb); (try clear hb2); (try clear hk); (try clear hi); (try clear ho0)))
  (try simp only [Act.put, zA, zB, zC])
  go_cut [57] (fun v57 wc => ∃ (kq : Nat) (x57_6 : Bool), v57 = .bool x57_6 ∧ Aside0 (w19_AttendLooks.j0 kq t448 x57_6 a1_0 a1_1 l1_2 = some r) ∧ Aside0 (kq ≤ k) ∧ Aside0 (Kd.S k50 50 wc w.heap.size (fun _ => True) (.slice Ao18 t448.length co18) t448) ∧ Aside0 (wc.heap[Z3]? = some (.cells #[.int .i64 a1_0, .int .i64 a1_1, (.slice A1_2 l1_2.length c1_2)] 43 (0, 0))) ∧ Aside0 (Below w.heap.size w wc))
  case first =>
   have H := HC7.out
   clear HC7
   replace H := yA.mp H
   obtain ⟨t459, A200, H⟩ := H
   replace H : (if t459 = true then ((w19_rows.f k t451 t455).bind fun t460 => (if t460 = true then (if t454 = t458 then ((w19_rows.f k l0 y445).bind fun t461 => (w19_AttendLooks.j0 k t448 (!t461) a1_0 a1_1 l1_2)) else (w19_AttendLooks.j0 k t448 true a1_0 a1_1 l1_2)) else (w19_AttendLooks.j0 k t448 true a1_0 a1_1 l1_2))) else (w19_AttendLooks.j0 k t448 true a1_0 a1_1 l1_2)) = some r := H
   have A20 := zK A200
   clear A200
   by_cases c21 : t459 = true
   ·subst c21
    have H1 : ((w19_rows.f k t451 t455).bind fun t460 => (if t460 = true then (if t454 = t458 then ((w19_rows.f k l0 y445).bind fun t461 => (w19_AttendLooks.j0 k t448 (!t461) a1_0 a1_1 l1_2)) else (w19_AttendLooks.j0 k t448 true a1_0 a1_1 l1_2)) else (w19_AttendLooks.j0 k t448 true a1_0 a1_1 l1_2))) = some r := by rw [if_pos rfl] at H; exact H
    clear H
    have H := H1
    clear H1
    replace H := yA.mp H
    obtain ⟨t460, A220, H⟩ := H
    replace H : (if t460 = true then (if t454 = t458 then ((w19_rows.f k l0 y445).bind fun t461 => (w19_AttendLooks.j0 k t448 (!t461) a1_0 a1_1 l1_2)) else (w19_AttendLooks.j0 k t448 true a1_0 a1_1 l1_2)) else (w19_AttendLooks.j0 k t448 true a1_0 a1_1 l1_2)) = some r := H
    have A22 := zK A220
    clear A220
    by_cases c23 : t460 = true
    ·subst c23
     have H1 : (if t454 = t458 then ((w19_rows.f k l0 y445).bind fun t461 => (w19_AttendLooks.j0 k t448 (!t461) a1_0 a1_1 l1_2)) else (w19_AttendLooks.j0 k t448 true a1_0 a1_1 l1_2)) = some r := by rw [if_pos rfl] at H; exact H
     clear H
     have H := H1
     clear H1
     by_cases c24 : t454 = t458
     ·rw [if_pos c24] at H
      have c24b0 : (t454 == t458) = true := beq_iff_eq.mpr c24
      have c24b1 : (t454 != t458) = false := bne_eq_false_iff_eq.mpr c24
      clear c24
      (first | rw [c24b0] | (simp only [i64_w, i32_w]; rw [c24b0]) | skip)
      replace H := yA.mp H
      obtain ⟨t461, A250, H⟩ := H
      replace H : (w19_AttendLooks.j0 k t448 (!t461) a1_0 a1_1 l1_2) = some r := H
      have A25 := zK A250
      clear A250
      have H' := zK H
      clear H
      go_wp2_with (first | ((with_reducible refine gate_callee (f := 13) rfl ?_); refine goesL_ (some 39) rfl rfl Try.func13 (by kernel_rfl) rfl #[] rfl (by (try simp only [yH, yI, yJ]); first | done | rfl | (simp only [yG, yF]; rfl)) ?_; (with_reducible refine (w19_awake.calls k  true _ A20.out).mono ?_); rintro e w26 ⟨rfl, hb⟩; refine ⟨_, rfl, ?_⟩; have n0_ := zK (yb (by (with_reducible repeat (first | apply zL | apply zM | apply zN)); exact HO447.out) hb); have n1_ := zK (Kd.S_below (by (with_reducible repeat (first | apply Kd.S_alloc | apply Kd.S_drewN | apply Kd.S_drew)); exact HO450.out) hb); have n2_ := zK (yb (by (with_reducible repeat (first | apply zL | apply zM | apply zN)); exact HO453.out) hb); have n3_ := zK (yb (by (with_reducible repeat (first | apply zL | apply zM | apply zN)); exact HO457.out) hb); have n4_ := zK (zP (g := Z3) (o := .cells #[.int .i64 a1_0, .int .i64 a1_1, .slice A1_2 l1_2.length c1_2] 43 (0, 0)) (by (with_reducible repeat (first | refine zF ?_ _ | refine zH ?_ | refine zG ?_ _)); exact Z0.out) hb); have n5_ := zK (yL (by repeat (first | (with_reducible first | exact HB.out | apply zJ | apply zD | apply zE | refine zI ?_ Z1.out) | exact HB.out)) hb); clear HO447 HO450 HO453 HO457 Z0 HB; have HO447 := n0_; have HO450 := n1_; have HO453 := n2_; have HO457 := n3_; have Z0 := n4_; have HB := n5_; clear n0_ n1_ n2_ n3_ n4_ n5_; (try clear hb); (try clear hb2); (try clear hk); (try clear hi); obtain ⟨Ao27, co27, eo27⟩ := Kd.R_slice HO453.out; subst eo27; obtain ⟨Ao28, co28, eo28⟩ := Kd.R_slice HO457.out; subst eo28) | (go_at_call 17; (with_reducible refine (w19_rows.calls k _ _ t451 _ _ t455 true _ ?side1 ?side2 ?side3 ?side4 A22.out).mono ?_); (case side1 => repeat (first | exact (yM HO453.out).2.2 | (with_reducible refine yS ?_ _) | (with_reducible refine yT ?_ _) | (with_reducible refine yU ?_))); (case side2 => exact (yM HO453.out).2.1); (case side3 => repeat (first | exact (yM HO457.out).2.2 | (with_reducible refine yS ?_ _) | (with_reducible refine yT ?_ _) | (with_reducible refine yU ?_))); (case side4 => exact (yM HO457.out).2.1); rintro e w' ⟨rfl, ⟨nd, rfl⟩⟩) | (go_at_call 17; (with_reducible refine (w19_rows.calls k _ _ l0 _ _ y445 t461 _ ?side1 ?side2 ?side3 ?side4 A25.out).mono ?_); (case side1 => repeat (first | exact (yc HR0.out (by repeat (first | (with_reducible first | exact HB.out | apply zJ | apply zD | apply zE | refine zI ?_ Z1.out) | exact HB.out))) | (with_reducible refine yS ?_ _) | (with_reducible refine yT ?_ _) | (with_reducible refine yU ?_))); (case side2 => exact HC0.out); (case side3 => repeat (first | exact (yM HO447.out).2.2 | (with_reducible refine yS ?_ _) | (with_reducible refine yT ?_ _) | (with_reducible refine yU ?_))); (case side4 => exact (yM HO447.out).2.1); rintro e w' ⟨rfl, ⟨nd, rfl⟩⟩))
      go_meet
      case rel => exact ⟨_, (!t461), (by first | rfl | (simp; done) | (simp [*]; done)), H', ⟨by first | omega | exact yN _⟩, ⟨by (with_reducible repeat (first | apply Kd.S_alloc | apply Kd.S_drewN | apply Kd.S_drew)); exact Kd.S_mono HO450.out (fun _ hk => trivial)⟩, ⟨by (with_reducible repeat (first | refine zF ?_ _ | refine zH ?_ | refine zG ?_ _)); exact Z0.out⟩, ⟨by repeat (first | (with_reducible first | exact HB.out | apply zJ | apply zD | apply zE | refine zI ?_ Z1.out) | exact HB.out)⟩⟩
     ·rw [if_neg c24] at H
      have c24b0 : (t454 == t458) = false := beq_eq_false_iff_ne.mpr c24
      have c24b1 : (t454 != t458) = true := bne_iff_ne.mpr c24
      (first | rw [c24b0] | (simp only [i64_w, i32_w]; rw [c24b0]) | skip)
      have H' := zK H
      clear H
      go_wp2_with (first | ((with_reducible refine gate_callee (f := 13) rfl ?_); refine goesL_ (some 39) rfl rfl Try.func13 (by kernel_rfl) rfl #[] rfl (by (try simp only [yH, yI, yJ]); first | done | rfl | (simp only [yG, yF]; rfl)) ?_; (with_reducible refine (w19_awake.calls k  true _ A20.out).mono ?_); rintro e w29 ⟨rfl, hb⟩; refine ⟨_, rfl, ?_⟩; have n0_ := zK (yb (by (with_reducible repeat (first | apply zL | apply zM | apply zN)); exact HO447.out) hb); have n1_ := zK (Kd.S_below (by (with_reducible repeat (first | apply Kd.S_alloc | apply Kd.S_drewN | apply Kd.S_drew)); exact HO450.out) hb); have n2_ := zK (yb (by (with_reducible repeat (first | apply zL | apply zM | apply zN)); exact HO453.out) hb); have n3_ := zK (yb (by (with_reducible repeat (first | apply zL | apply zM | apply zN)); exact HO457.out) hb); have n4_ := zK (zP (g := Z3) (o := .cells #[.int .i64 a1_0, .int .i64 a1_1, .slice A1_2 l1_2.length c1_2] 43 (0, 0)) (by (with_reducible repeat (first | refine zF ?_ _ | refine zH ?_ | refine zG ?_ _)); exact Z0.out) hb); have n5_ := zK (yL (by repeat (first | (with_reducible first | exact HB.out | apply zJ | apply zD | apply zE | refine zI ?_ Z1.out) | exact HB.out)) hb); clear HO447 HO450 HO453 HO457 Z0 HB; have HO447 := n0_; have HO450 := n1_; have HO453 := n2_; have HO457 := n3_; have Z0 := n4_; have HB := n5_; clear n0_ n1_ n2_ n3_ n4_ n5_; (try clear hb); (try clear hb2); (try clear hk); (try clear hi); obtain ⟨Ao30, co30, eo30⟩ := Kd.R_slice HO453.out; subst eo30; obtain ⟨Ao31, co31, eo31⟩ := Kd.R_slice HO457.out; subst eo31) | (go_at_call 17; (with_reducible refine (w19_rows.calls k _ _ t451 _ _ t455 true _ ?side1 ?side2 ?side3 ?side4 A22.out).mono ?_); (case side1 => repeat (first | exact (yM HO453.out).2.2 | (with_reducible refine yS ?_ _) | (with_reducible refine yT ?_ _) | (with_reducible refine yU ?_))); (case side2 => exact (yM HO453.out).2.1); (case side3 => repeat (first | exact (yM HO457.out).2.2 | (with_reducible refine yS ?_ _) | (with_reducible refine yT ?_ _) | (with_reducible refine yU ?_))); (case side4 => exact (yM HO457.out).2.1); rintro e w' ⟨rfl, ⟨nd, rfl⟩⟩))
      go_meet
      case rel => exact ⟨_, (true), (by first | rfl | (simp; done) | (simp [*]; done)), H', ⟨by first | omega | exact yN _⟩, ⟨by (with_reducible repeat (first | apply Kd.S_alloc | apply Kd.S_drewN | apply Kd.S_drew)); exact Kd.S_mono HO450.out (fun _ hk => trivial)⟩, ⟨by (with_reducible repeat (first | refine zF ?_ _ | refine zH ?_ | refine zG ?_ _)); exact Z0.out⟩, ⟨by repeat (first | (with_reducible first | exact HB.out | apply zJ | apply zD | apply zE | refine zI ?_ Z1.out) | exact HB.out)⟩⟩
    ·replace c23 := yh.mpr c23
     subst c23
     have H1 : (w19_AttendLooks.j0 k t448 true a1_0 a1_1 l1_2) = some r := by rw [if_neg (show ¬ (false = true) by decide)] at H; exact H
     clear H
     have H := H1
     clear H1
     have H' := zK H
     clear H
     go_wp2_with (first | ((with_reducible refine gate_callee (f := 13) rfl ?_); refine goesL_ (some 39) rfl rfl Try.func13 (by kernel_rfl) rfl #[] rfl (by (try simp only [yH, yI, yJ]); first | done | rfl | (simp only [yG, yF]; rfl)) ?_; (with_reducible refine (w19_awake.calls k  true _ A20.out).mono ?_); rintro e w32 ⟨rfl, hb⟩; refine ⟨_, rfl, ?_⟩; have n0_ := zK (yb (by (with_reducible repeat (first | apply zL | apply zM | apply zN)); exact HO447.out) hb); have n1_ := zK (Kd.S_below (by (with_reducible repeat (first | apply Kd.S_alloc | apply Kd.S_drewN | apply Kd.S_drew)); exact HO450.out) hb); have n2_ := zK (yb (by (with_reducible repeat (first | apply zL | apply zM | apply zN)); exact HO453.out) hb); have n3_ := zK (yb (by (with_reducible repeat (first | apply zL | apply zM | apply zN)); exact HO457.out) hb); have n4_ := zK (zP (g := Z3) (o := .cells #[.int .i64 a1_0, .int .i64 a1_1, .slice A1_2 l1_2.length c1_2] 43 (0, 0)) (by (with_reducible repeat (first | refine zF ?_ _ | refine zH ?_ | refine zG ?_ _)); exact Z0.out) hb); have n5_ := zK (yL (by repeat (first | (with_reducible first | exact HB.out | apply zJ | apply zD | apply zE | refine zI ?_ Z1.out) | exact HB.out)) hb); clear HO447 HO450 HO453 HO457 Z0 HB; have HO447 := n0_; have HO450 := n1_; have HO453 := n2_; have HO457 := n3_; have Z0 := n4_; have HB := n5_; clear n0_ n1_ n2_ n3_ n4_ n5_; (try clear hb); (try clear hb2); (try clear hk); (try clear hi); obtain ⟨Ao33, co33, eo33⟩ := Kd.R_slice HO453.out; subst eo33; obtain ⟨Ao34, co34, eo34⟩ := Kd.R_slice HO457.out; subst eo34) | (go_at_call 17; (with_reducible refine (w19_rows.calls k _ _ t451 _ _ t455 false _ ?side1 ?side2 ?side3 ?side4 A22.out).mono ?_); (case side1 => repeat (first | exact (yM HO453.out).2.2 | (with_reducible refine yS ?_ _) | (with_reducible refine yT ?_ _) | (with_reducible refine yU ?_))); (case side2 => exact (yM HO453.out).2.1); (case side3 => repeat (first | exact (yM HO457.out).2.2 | (with_reducible refine yS ?_ _) | (with_reducible refine yT ?_ _) | (with_reducible refine yU ?_))); (case side4 => exact (yM HO457.out).2.1); rintro e w' ⟨rfl, ⟨nd, rfl⟩⟩))
     go_meet
     case rel => exact ⟨_, (true), (by first | rfl | (simp; done) | (simp [*]; done)), H', ⟨by first | omega | exact yN _⟩, ⟨by (with_reducible repeat (first | apply Kd.S_alloc | apply Kd.S_drewN | apply Kd.S_drew)); exact Kd.S_mono HO450.out (fun _ hk => trivial)⟩, ⟨by (with_reducible repeat (first | refine zF ?_ _ | refine zH ?_ | refine zG ?_ _)); exact Z0.out⟩, ⟨by repeat (first | (with_reducible first | exact HB.out | apply zJ | apply zD | apply zE | refine zI ?_ Z1.out) | exact HB.out)⟩⟩
   ·replace c21 := yh.mpr c21
    subst c21
    have H1 : (w19_AttendLooks.j0 k t448 true a1_0 a1_1 l1_2) = some r := by rw [if_neg (show ¬ (false = true) by decide)] at H; exact H
    clear H
    have H := H1
    clear H1
    have H' := zK H
    clear H
    go_wp2_with (first | ((with_reducible refine gate_callee (f := 13) rfl ?_); refine goesL_ (some 39) rfl rfl Try.func13 (by kernel_rfl) rfl #[] rfl (by (try simp only [yH, yI, yJ]); first | done | rfl | (simp only [yG, yF]; rfl)) ?_; (with_reducible refine (w19_awake.calls k  false _ A20.out).mono ?_); rintro e w35 ⟨rfl, hb⟩; refine ⟨_, rfl, ?_⟩; have n0_ := zK (yb (by (with_reducible repeat (first | apply zL | apply zM | apply zN)); exact HO447.out) hb); have n1_ := zK (Kd.S_below (by (with_reducible repeat (first | apply Kd.S_alloc | apply Kd.S_drewN | apply Kd.S_drew)); exact HO450.out) hb); have n2_ := zK (yb (by (with_reducible repeat (first | apply zL | apply zM | apply zN)); exact HO453.out) hb); have n3_ := zK (yb (by (with_reducible repeat (first | apply zL | apply zM | apply zN)); exact HO457.out) hb); have n4_ := zK (zP (g := Z3) (o := .cells #[.int .i64 a1_0, .int .i64 a1_1, .slice A1_2 l1_2.length c1_2] 43 (0, 0)) (by (with_reducible repeat (first | refine zF ?_ _ | refine zH ?_ | refine zG ?_ _)); exact Z0.out) hb); have n5_ := zK (yL (by repeat (first | (with_reducible first | exact HB.out | apply zJ | apply zD | apply zE | refine zI ?_ Z1.out) | exact HB.out)) hb); clear HO447 HO450 HO453 HO457 Z0 HB; have HO447 := n0_; have HO450 := n1_; have HO453 := n2_; have HO457 := n3_; have Z0 := n4_; have HB := n5_; clear n0_ n1_ n2_ n3_ n4_ n5_; (try clear hb); (try clear hb2); (try clear hk); (try clear hi)))
    go_meet
    case rel => exact ⟨_, (true), (by first | rfl | (simp; done) | (simp [*]; done)), H', ⟨by first | omega | exact yN _⟩, ⟨by (with_reducible repeat (first | apply Kd.S_alloc | apply Kd.S_drewN | apply Kd.S_drew)); exact Kd.S_mono HO450.out (fun _ hk => trivial)⟩, ⟨by (with_reducible repeat (first | refine zF ?_ _ | refine zH ?_ | refine zG ?_ _)); exact Z0.out⟩, ⟨by repeat (first | (with_reducible first | exact HB.out | apply zJ | apply zD | apply zE | refine zI ?_ Z1.out) | exact HB.out)⟩⟩
  case rest =>
   clear HC7
   try clear c1
   try clear c2
   try clear p2
   try clear c3
   try clear c5
   try clear c13
   try clear c18
   try clear c19
   try clear c20
   try clear c21
   try clear c23
   try clear c24
   try clear c24b0
   try clear c24b1
   try clear hcz14_0
   try clear hcz14_1
   try clear hcz14_2
   try clear hcz16_0
   try clear hcz16_1
   try clear hcz16_2
   try clear hfz14_0
   try clear hfz14_1
   try clear hfz14_2
   try clear hfz16_0
   try clear hfz16_1
   try clear hfz16_2
   obtain ⟨kq, x57_6, rfl, HA, HJ6, HO_6, Z0, HB⟩ := hcut
   cases kq with
   | zero => exact absurd HA.out (by simp [w19_AttendLooks.j0])
   | succ kj6 =>
    have H := HA.out
    clear HA
    simp only [w19_AttendLooks.j0] at H
    by_cases c36 : x57_6 = true
    ·subst c36
     have H1 : (some false) = some r := by rw [if_pos rfl] at H; exact H
     clear H
     have H := H1
     clear H1
     obtain rfl := yY H
     go_wp2
     go_ret
     exact ⟨by first | rfl | (simp [errW_none, errW_some] <;> rfl) | (simp [*, errW_none, errW_some] <;> rfl), by repeat (first | (with_reducible first | exact HB.out | apply zJ | apply zD | apply zE | refine zI ?_ Z1.out) | exact HB.out)⟩
    ·replace c36 := yh.mpr c36
     subst c36
     have H1 : (w19_AttendLooks.l0 kj6 t448 0 a1_0 a1_1 l1_2) = some r := by rw [if_neg (show ¬ (false = true) by decide)] at H; exact H
     clear H
     have H := H1
     clear H1
     have H' := zK H
     clear H
     go_wp2
     go_loopg [11] kj6 (fun kq v11 w' => ∃ (x11_2 : Int), v11 = .int .i64 x11_2 ∧ Aside0 (w19_AttendLooks.l0 kq t448 x11_2 a1_0 a1_1 l1_2 = some r) ∧ Aside0 (kq ≤ kj6) ∧ Aside0 (Kd.S k50 50 w' w.heap.size (fun _ => True) (.slice Ao18 t448.length co18) t448) ∧ Aside0 (w'.heap[Z3]? = some (.cells #[.int .i64 a1_0, .int .i64 a1_1, (.slice A1_2 l1_2.length c1_2)] 43 (0, 0))) ∧ Aside0 (Below w.heap.size w w'))
     case atStart => exact ⟨(0), (by first | rfl | (simp; done) | (simp [*]; done)), H', ⟨yN _⟩, ⟨by (with_reducible repeat (first | apply Kd.S_alloc | apply Kd.S_drewN | apply Kd.S_drew)); exact HO_6.out⟩, ⟨by (with_reducible repeat (first | refine zF ?_ _ | refine zH ?_ | refine zG ?_ _)); exact Z0.out⟩, ⟨by repeat (first | (with_reducible first | exact HB.out | apply zJ | apply zD | apply zE | refine zI ?_ Z1.out) | exact HB.out)⟩⟩
     case round =>
      clear H'
      try clear c1
      try clear c2
      try clear p2
      try clear c3
      try clear c5
      try clear c13
      try clear c18
      try clear c19
      try clear c20
      try clear c21
      try clear c23
      try clear c24
      try clear c24b0
      try clear c24b1
      try clear c36
      try clear hcz14_0
      try clear hcz14_1
      try clear hcz14_2
      try clear hcz16_0
      try clear hcz16_1
      try clear hcz16_2
      try clear hfz14_0
      try clear hfz14_1
      try clear hfz14_2
      try clear hfz16_0
      try clear hfz16_1
      try clear hfz16_2
      try clear p2
      obtain ⟨x11_2, rfl, HA, HK2, HO_6, Z0, HB⟩ := hrel
      cases gk with
      | zero => exact absurd HA.out (by simp [w19_AttendLooks.l0])
      | succ k2 =>
       have H := HA.out
       clear HA
       simp only [w19_AttendLooks.l0] at H
       by_cases c37 : x11_2 < (t448.length : Int)
       ·rw [if_pos c37] at H
        have c37b0 : decide (x11_2 < (t448.length : Int)) = true := yC c37
        clear c37
        by_cases c38 : 0 ≤ x11_2
        ·rw [if_pos c38] at H
         have c38b0 : decide (0 ≤ x11_2) = true := yC c38
         clear c38
         by_cases c39 : x11_2 < (l1_2.length : Int)
         ·rw [if_pos c39] at H
          have c39b0 : decide (x11_2 < (l1_2.length : Int)) = true := yC c39
          clear c39
          replace H := yA.mp H
          obtain ⟨t464, A400, H⟩ := H
          replace H : (if t464 = true then ((w19_rows.f k2 ((rd_T49 l1_2 x11_2).f1) ((rd_T50 t448 x11_2).f1)).bind fun t467 => (if t467 = true then (w19_AttendLooks.l0 k2 t448 (wrap64 (x11_2 + 1)) a1_0 a1_1 l1_2) else (some false))) else (some false)) = some r := H
          have A40 := zK A400
          clear A400
          by_cases c41 : t464 = true
          ·subst c41
           have H1 : ((w19_rows.f k2 ((rd_T49 l1_2 x11_2).f1) ((rd_T50 t448 x11_2).f1)).bind fun t467 => (if t467 = true then (w19_AttendLooks.l0 k2 t448 (wrap64 (x11_2 + 1)) a1_0 a1_1 l1_2) else (some false))) = some r := by rw [if_pos rfl] at H; exact H
           clear H
           have H := H1
           clear H1
           replace H := yA.mp H
           obtain ⟨t467, A420, H⟩ := H
           replace H : (if t467 = true then (w19_AttendLooks.l0 k2 t448 (wrap64 (x11_2 + 1)) a1_0 a1_1 l1_2) else (some false)) = some r := H
           have A42 := zK A420
           clear A420
           by_cases c43 : t467 = true
           ·subst c43
            have H1 : (w19_AttendLooks.l0 k2 t448 (wrap64 (x11_2 + 1)) a1_0 a1_1 l1_2) = some r := by rw [if_pos rfl] at H; exact H
            clear H
            have H := H1
            clear H1
            have H' := zK H
            clear H
            try go_wp2
            have n0_ := zK (Kd.S_drew HO_6.out)
            have n1_ := zK (zH Z0.out)
            have n2_ := zK (zE HB.out)
            clear HO_6 Z0 HB
            have HO_6 := n0_; have Z0 := n1_; have HB := n2_
            clear n0_ n1_ n2_
            have p462 : 0 ≤ (x11_2 : Int) := yB (by first | (with_reducible assumption) | assumption)
            have q462 : x11_2 < (l1_2.length : Int) := yB (by first | (with_reducible assumption) | assumption)
            obtain ⟨ad462, A462_0, c462_0, A462_1, c462_1, e462, hx462_0, hx462_1, hl462_0, hi462_0, hl462_1, hi462_1⟩ := at_T49 HR1_2.out x11_2 p462 q462
            have hw462_1 := hx462_1
            have hw462_0 := hx462_0
            cases e462
            replace hx462_0 := (HB.out.cell (World.block_lt_of_cell? w _ hx462_0)).trans hx462_0
            replace hx462_1 := (HB.out.cell (World.block_lt_of_cell? w _ hx462_1)).trans hx462_1
            have HR462_0 := zK hi462_0
            have HC462_0 := zK hl462_0
            clear hi462_0 hl462_0
            have HR462_1 := zK hi462_1
            have HC462_1 := zK hl462_1
            clear hi462_1 hl462_1
            replace p462 := yg p462
            replace q462 := yg q462
            have p463 : 0 ≤ (x11_2 : Int) := yB (by first | (with_reducible assumption) | assumption)
            have q463 : x11_2 < (t448.length : Int) := yB (by first | (with_reducible assumption) | assumption)
            obtain ⟨ad463, A463_0, c463_0, A463_1, c463_1, e463, hx463_0, hx463_1, hl463_0, hi463_0, hl463_1, hi463_1⟩ := at_T50 (Kd.S_reads' HO_6.out).2.2 x11_2 p463 q463
            cases e463
            obtain ⟨ce463, hce463, hMe463, hcc463⟩ := Kd.S_get HO_6.out z50 x11_2 p463 (by first | exact q463 | exact yB (by first | (with_reducible assumption) | assumption) | (have e_ := (Kd.S_reads' HO_6.out).1; omega))
            obtain ⟨ve463_0, ve463_1, rfl, ge463_0, ge463_1⟩ := k50_openM hMe463
            have hv463_0 := hcc463 0 _ rfl
            rw [Nat.add_zero] at hv463_0
            replace hv463_0 := yY (hv463_0.symm.trans hx463_0)
            rw [hv463_0] at ge463_0
            have HL463_0 := zK (show Kd.R (Kd.int .i8) 53 _ _ _ _ ((rd_T50 t448 x11_2).f0) from ge463_0)
            clear hv463_0 ge463_0
            have hv463_1 := hcc463 1 _ rfl
            rw [add_field _ _ 1 (by omega)] at hv463_1
            replace hv463_1 := yY (hv463_1.symm.trans hx463_1)
            rw [hv463_1] at ge463_1
            have HL463_1 := zK (show Kd.R (Kd.int .i8) 53 _ _ _ _ ((rd_T50 t448 x11_2).f1) from ge463_1)
            clear hv463_1 ge463_1 hcc463 hce463
            have HR463_0 := zK hi463_0
            have HC463_0 := zK hl463_0
            clear hi463_0 hl463_0
            have HR463_1 := zK hi463_1
            have HC463_1 := zK hl463_1
            clear hi463_1 hl463_1
            replace p463 := yg p463
            replace q463 := yg q463
            have p465 : 0 ≤ (x11_2 : Int) := yB (by first | (with_reducible assumption) | assumption)
            have q465 : x11_2 < (l1_2.length : Int) := yB (by first | (with_reducible assumption) | assumption)
            obtain ⟨ad465, A465_0, c465_0, A465_1, c465_1, e465, hx465_0, hx465_1, hl465_0, hi465_0, hl465_1, hi465_1⟩ := at_T49 HR1_2.out x11_2 p465 q465
            have hw465_1 := hx465_1
            have hw465_0 := hx465_0
            obtain rfl : ad462 = ad465 := (by injection e465)
            replace hx465_0 := (HB.out.cell (World.block_lt_of_cell? w _ hx465_0)).trans hx465_0
            replace hx465_1 := (HB.out.cell (World.block_lt_of_cell? w _ hx465_1)).trans hx465_1
            have HR465_0 := zK hi465_0
            have HC465_0 := zK hl465_0
            clear hi465_0 hl465_0
            have HR465_1 := zK hi465_1
            have HC465_1 := zK hl465_1
            clear hi465_1 hl465_1
            replace p465 := yg p465
            replace q465 := yg q465
            have ea_ := yY (hx462_0.symm.trans hx465_0)
            injection ea_ with ea_ en_ ec_
            subst ea_
            subst ec_
            clear en_
            have ea_ := yY (hx462_1.symm.trans hx465_1)
            injection ea_ with ea_ en_ ec_
            subst ea_
            subst ec_
            clear en_
            have p466 : 0 ≤ (x11_2 : Int) := yB (by first | (with_reducible assumption) | assumption)
            have q466 : x11_2 < (t448.length : Int) := yB (by first | (with_reducible assumption) | assumption)
            obtain ⟨ad466, A466_0, c466_0, A466_1, c466_1, e466, hx466_0, hx466_1, hl466_0, hi466_0, hl466_1, hi466_1⟩ := at_T50 (Kd.S_reads' HO_6.out).2.2 x11_2 p466 q466
            obtain rfl : ad463 = ad466 := (by injection e466)
            obtain ⟨ce466, hce466, hMe466, hcc466⟩ := Kd.S_get HO_6.out z50 x11_2 p466 (by first | exact q466 | exact yB (by first | (with_reducible assumption) | assumption) | (have e_ := (Kd.S_reads' HO_6.out).1; omega))
            obtain ⟨ve466_0, ve466_1, rfl, ge466_0, ge466_1⟩ := k50_openM hMe466
            have hv466_0 := hcc466 0 _ rfl
            rw [Nat.add_zero] at hv466_0
            replace hv466_0 := yY (hv466_0.symm.trans hx466_0)
            rw [hv466_0] at ge466_0
            have HL466_0 := zK (show Kd.R (Kd.int .i8) 53 _ _ _ _ ((rd_T50 t448 x11_2).f0) from ge466_0)
            clear hv466_0 ge466_0
            have hv466_1 := hcc466 1 _ rfl
            rw [add_field _ _ 1 (by omega)] at hv466_1
            replace hv466_1 := yY (hv466_1.symm.trans hx466_1)
            rw [hv466_1] at ge466_1
            have HL466_1 := zK (show Kd.R (Kd.int .i8) 53 _ _ _ _ ((rd_T50 t448 x11_2).f1) from ge466_1)
            clear hv466_1 ge466_1 hcc466 hce466
            have HR466_0 := zK hi466_0
            have HC466_0 := zK hl466_0
            clear hi466_0 hl466_0
            have HR466_1 := zK hi466_1
            have HC466_1 := zK hl466_1
            clear hi466_1 hl466_1
            replace p466 := yg p466
            replace q466 := yg q466
            have ea_ := yY (hx463_0.symm.trans hx466_0)
            injection ea_ with ea_ en_ ec_
            subst ea_
            subst ec_
            clear en_
            have ea_ := yY (hx463_1.symm.trans hx466_1)
            injection ea_ with ea_ en_ ec_
            subst ea_
            subst ec_
            clear en_
            refine start_ (n := 28) (S := fun w' => w'.cell? ⟨Z3, 0, none⟩ = some (.int .i64 a1_0) ∧ w'.cell? ⟨Z3, 1, none⟩ = some (.int .i64 a1_1) ∧ w'.cell? ⟨Z3, 2, none⟩ = some (.slice (some ad462) l1_2.length c1_2) ∧ w'.cell? (ad462.add ((x11_2).toNat * 2)) = some (.slice A462_0 ((rd_T49 l1_2 x11_2).f0).length c462_0) ∧ w'.cell? ⟨(ad462.add ((x11_2).toNat * 2)).block, (ad462.add ((x11_2).toNat * 2)).off + 1, none⟩ = some (.slice A462_1 ((rd_T49 l1_2 x11_2).f1).length c462_1) ∧ w'.cell? (ad463.add ((x11_2).toNat * 2)) = some (.slice A463_0 ((rd_T50 t448 x11_2).f0).length c463_0) ∧ w'.cell? ⟨(ad463.add ((x11_2).toNat * 2)).block, (ad463.add ((x11_2).toNat * 2)).off + 1, none⟩ = some (.slice A463_1 ((rd_T50 t448 x11_2).f1).length c463_1) ∧ w'.cell? (ad462.add ((x11_2).toNat * 2)) = some (.slice A462_0 ((rd_T49 l1_2 x11_2).f0).length c462_0) ∧ w'.cell? ⟨(ad462.add ((x11_2).toNat * 2)).block, (ad462.add ((x11_2).toNat * 2)).off + 1, none⟩ = some (.slice A462_1 ((rd_T49 l1_2 x11_2).f1).length c462_1) ∧ w'.cell? (ad463.add ((x11_2).toNat * 2)) = some (.slice A463_0 ((rd_T50 t448 x11_2).f0).length c463_0) ∧ w'.cell? ⟨(ad463.add ((x11_2).toNat * 2)).block, (ad463.add ((x11_2).toNat * 2)).off + 1, none⟩ = some (.slice A463_1 ((rd_T50 t448 x11_2).f1).length c463_1)) (ds := []) #[false, false, false, false, false, false, false, false, false, false, false, false, false, false, false, false, false, false, false, false, false, false, false, false, false, false, false, false] (by kernel_rfl) rfl rfl ⟨(zO Z0.out 0).trans rfl, (zO Z0.out 1).trans rfl, (zO Z0.out 2).trans rfl, ((HB.out.cell (World.block_lt_of_cell? w _ hw462_0)).trans hw462_0), ((HB.out.cell (World.block_lt_of_cell? w _ hw462_1)).trans hw462_1), hx463_0, hx463_1, ((HB.out.cell (World.block_lt_of_cell? w _ hw465_0)).trans hw465_0), ((HB.out.cell (World.block_lt_of_cell? w _ hw465_1)).trans hw465_1), hx466_0, hx466_1⟩ (fun hHeld => ?_); refine with_tabW w19_AttendLooks.tab9 w19_AttendLooks.bits9 (fun HT_ HW_ => ?_)
            generalize wr.drew = w44 at HO_6 Z0 HB HL463_0 HL463_1 HL466_0 HL466_1 HR462_0 HR462_1 HR463_0 HR463_1 HR465_0 HR465_1 HR466_0 HR466_1 hx462_0 hx462_1 hx463_0 hx463_1 hx465_0 hx465_1 hx466_0 hx466_1 hHeld ⊢
            refine pure_ (i := 0) (N := some 64) (v := ?_) (a' := ?_) #[true, false, false, false, false, false, false, false, false, false, false, false, false, false, false, false, false, false, false, false, false, false, false, false, false, false, false, false] rfl rfl (any_of HT_.out (by kernel_rfl)) (fun _ _ _ h => h) (Or.inl ⟨by rfl, ?_⟩) ?_ ?_
            rotate_left
            ·intro w'
             go_simp
             with_reducible rfl
            rotate_left
            ·simp only [Act.put, zA, zB, zC, i64_w, i32_w]
             rfl
            refine pure_ (i := 2) (N := some 66) (v := ?_) (a' := ?_) #[true, false, true, false, false, false, false, false, false, false, false, false, false, false, false, false, false, false, false, false, false, false, false, false, false, false, false, false] rfl rfl (any_of HT_.out (by kernel_rfl)) (fun _ _ _ h => h) (Or.inl ⟨by rfl, ?_⟩) ?_ ?_
            rotate_left
            ·intro w'
             go_simp
             with_reducible rfl
            rotate_left
            ·simp only [Act.put, zA, zB, zC, i64_w, i32_w]
             rfl
            refine pure_ (i := 6) (N := some 70) (v := ?_) (a' := ?_) #[true, false, true, false, false, false, true, false, false, false, false, false, false, false, false, false, false, false, false, false, false, false, false, false, false, false, false, false] rfl rfl (any_of HT_.out (by kernel_rfl)) (fun _ _ _ h => h) (Or.inl ⟨by rfl, ?_⟩) ?_ ?_
            rotate_left
            ·intro w'
             go_simp
             with_reducible rfl
            rotate_left
            ·simp only [Act.put, zA, zB, zC, i64_w, i32_w]
             rfl
            refine pure_ (i := 7) (N := some 71) (v := ?_) (a' := ?_) #[true, false, true, false, false, false, true, true, false, false, false, false, false, false, false, false, false, false, false, false, false, false, false, false, false, false, false, false] rfl rfl (any_of HT_.out (by kernel_rfl)) (fun _ _ _ h => h) (Or.inl ⟨by rfl, ?_⟩) ?_ ?_
            rotate_left
            ·intro w'
             go_simp
             with_reducible rfl
            rotate_left
            ·simp only [Act.put, zA, zB, zC, i64_w, i32_w]
             rfl
            refine pure_ (i := 8) (N := some 72) (v := ?_) (a' := ?_) #[true, false, true, false, false, false, true, true, true, false, false, false, false, false, false, false, false, false, false, false, false, false, false, false, false, false, false, false] rfl rfl (any_of HT_.out (by kernel_rfl)) (fun _ _ _ h => h) (Or.inl ⟨by rfl, ?_⟩) ?_ ?_
            rotate_left
            ·intro w'
             go_simp
             with_reducible rfl
            rotate_left
            ·simp only [Act.put, zA, zB, zC, i64_w, i32_w]
             rfl
            refine pure_ (i := 9) (N := some 73) (v := ?_) (a' := ?_) #[true, false, true, false, false, false, true, true, true, true, false, false, false, false, false, false, false, false, false, false, false, false, false, false, false, false, false, false] rfl rfl (any_of HT_.out (by kernel_rfl)) (fun _ _ _ h => h) (Or.inl ⟨by rfl, ?_⟩) ?_ ?_
            rotate_left
            ·intro w'
             go_simp
             with_reducible rfl
            rotate_left
            ·simp only [Act.put, zA, zB, zC, i64_w, i32_w]
             rfl
            refine take_ (i := 1) (N := some 65) (v := ?_) (a' := ?_) #[true, true, true, false, false, false, true, true, true, true, false, false, false, false, false, false, false, false, false, false, false, false, false, false, false, false, false, false] rfl rfl (take_ofW HT_.out HW_.out (by kernel_rfl)) (fun _ _ _ h => h) (Or.inl ⟨by rfl, ?_⟩) hHeld ?_ ?_
            rotate_left
            ·rintro w' ⟨s0, s1, s2, s3, s4, s5, s6, s7, s8, s9, s10⟩
             go_simp
             with_reducible rfl
            rotate_left
            ·simp only [Act.put, zA, zB, zC, i64_w, i32_w]
             rfl
            refine pure_ (i := 3) (N := some 67) (v := ?_) (a' := ?_) #[true, true, true, true, false, false, true, true, true, true, false, false, false, false, false, false, false, false, false, false, false, false, false, false, false, false, false, false] rfl rfl (any_of HT_.out (by kernel_rfl)) (fun _ _ _ h => h) (Or.inl ⟨by rfl, ?_⟩) ?_ ?_
            rotate_left
            ·intro w'
             go_simp
             with_reducible rfl
            rotate_left
            ·simp only [Act.put, zA, zB, zC, i64_w, i32_w]
             rfl
            refine pure_ (i := 4) (N := some 68) (v := ?_) (a' := ?_) #[true, true, true, true, true, false, true, true, true, true, false, false, false, false, false, false, false, false, false, false, false, false, false, false, false, false, false, false] rfl rfl (any_of HT_.out (by kernel_rfl)) (fun _ _ _ h => h) (Or.inl ⟨by rfl, ?_⟩) ?_ ?_
            rotate_left
            ·intro w'
             go_simp
             with_reducible rfl
            rotate_left
            ·simp only [Act.put, zA, zB, zC, i64_w, i32_w]
             rfl
            refine take_ (i := 5) (N := some 69) (v := ?_) (a' := ?_) #[true, true, true, true, true, true, true, true, true, true, false, false, false, false, false, false, false, false, false, false, false, false, false, false, false, false, false, false] rfl rfl (take_ofW HT_.out HW_.out (by kernel_rfl)) (fun _ _ _ h => h) (Or.inl ⟨by rfl, ?_⟩) hHeld ?_ ?_
            rotate_left
            ·rintro w' ⟨s0, s1, s2, s3, s4, s5, s6, s7, s8, s9, s10⟩
             go_simp
             with_reducible rfl
            rotate_left
            ·simp only [Act.put, zA, zB, zC, i64_w, i32_w]
             rfl
            refine take_ (i := 10) (N := some 74) (v := ?_) (a' := ?_) #[true, true, true, true, true, true, true, true, true, true, true, false, false, false, false, false, false, false, false, false, false, false, false, false, false, false, false, false] rfl rfl (take_ofW HT_.out HW_.out (by kernel_rfl)) (fun _ _ _ h => h) (Or.inl ⟨by rfl, ?_⟩) hHeld ?_ ?_
            rotate_left
            ·rintro w' ⟨s0, s1, s2, s3, s4, s5, s6, s7, s8, s9, s10⟩
             go_simp
             with_reducible rfl
            rotate_left
            ·simp only [Act.put, zA, zB, zC, i64_w, i32_w]
             rfl
            refine one_ (i := 11) (N := some 75) #[true, true, true, true, true, true, true, true, true, true, true, true, false, false, false, false, false, false, false, false, false, false, false, false, false, false, false, false] rfl rfl (one_of HT_.out (by kernel_rfl)) (by decide) (fun K hK => ?_)
            refine goes_ Try.func17 (by kernel_rfl) rfl #[.slice A462_0 ((rd_T49 l1_2 x11_2).f0).length c462_0, .slice A463_0 ((rd_T50 t448 x11_2).f0).length c463_0] (by rfl) rfl rfl (by (try simp only [yH, yI, yJ]); first | done | rfl | (simp only [yG, yF]; rfl)) ?_
            with_reducible refine (w19_rows.calls k2 _ _ ((rd_T49 l1_2 x11_2).f0) _ _ ((rd_T50 t448 x11_2).f0) true _ ?side1 ?side2 ?side3 ?side4 A40.out).mono ?_
            (case side1 => repeat (first | exact (yc HR462_0.out HB.out) | (with_reducible refine yS ?_ _) | (with_reducible refine yT ?_ _) | (with_reducible refine yU ?_)))
            (case side2 => exact HC462_0.out)
            (case side3 => repeat (first | exact (by repeat (first | (with_reducible exact HR463_0.out) | (with_reducible refine yS ?_ _) | (with_reducible refine yT ?_ _) | (with_reducible refine yU ?_) | exact HR463_0.out)) | (with_reducible refine yS ?_ _) | (with_reducible refine yT ?_ _) | (with_reducible refine yU ?_)))
            (case side4 => exact HC463_0.out)
            rintro e w' ⟨rfl, ⟨nd, rfl⟩⟩
            refine ⟨_, rfl, ?_⟩
            refine hK.out _ _ ⟨(zO Z0.out 0).trans rfl, (zO Z0.out 1).trans rfl, (zO Z0.out 2).trans rfl, ((HB.out.cell (World.block_lt_of_cell? w _ hw462_0)).trans hw462_0), ((HB.out.cell (World.block_lt_of_cell? w _ hw462_1)).trans hw462_1), hHeld.2.2.2.2.2.1, hHeld.2.2.2.2.2.2.1, ((HB.out.cell (World.block_lt_of_cell? w _ hw465_0)).trans hw465_0), ((HB.out.cell (World.block_lt_of_cell? w _ hw465_1)).trans hw465_1), hHeld.2.2.2.2.2.2.2.2.2.1, hHeld.2.2.2.2.2.2.2.2.2.2⟩ (fun hHeld => ?_)
            clear hK K
            refine norm_ (a' := ?_) ?_ ?_
            rotate_left
            ·show Act.put _ (some 75) _ = _
             simp only [Act.put, zA, zB, zC, i64_w, i32_w]
             rfl
            refine pure_ (i := 12) (N := some 76) (v := ?_) (a' := ?_) #[true, true, true, true, true, true, true, true, true, true, true, true, true, false, false, false, false, false, false, false, false, false, false, false, false, false, false, false] rfl rfl (any_of HT_.out (by kernel_rfl)) (fun _ _ _ h => h) (Or.inl ⟨by rfl, ?_⟩) ?_ ?_
            rotate_left
            ·intro w'
             go_simp
             with_reducible rfl
            rotate_left
            ·simp only [Act.put, zA, zB, zC, i64_w, i32_w]
             rfl
            refine pure_ (i := 13) (N := some 77) (v := ?_) (a' := ?_) #[true, true, true, true, true, true, true, true, true, true, true, true, true, true, false, false, false, false, false, false, false, false, false, false, false, false, false, false] rfl rfl (any_of HT_.out (by kernel_rfl)) (fun _ _ _ h => h) (Or.inl ⟨by rfl, ?_⟩) ?_ ?_
            rotate_left
            ·intro w'
             go_simp
             with_reducible rfl
            rotate_left
            ·simp only [Act.put, zA, zB, zC, i64_w, i32_w]
             rfl
            refine pure_ (i := 14) (N := some 78) (v := ?_) (a' := ?_) #[true, true, true, true, true, true, true, true, true, true, true, true, true, true, true, false, false, false, false, false, false, false, false, false, false, false, false, false] rfl rfl (any_of HT_.out (by kernel_rfl)) (fun _ _ _ h => h) (Or.inl ⟨by rfl, ?_⟩) ?_ ?_
            rotate_left
            ·intro w'
             go_simp
             with_reducible rfl
            rotate_left
            ·simp only [Act.put, zA, zB, zC, i64_w, i32_w]
             rfl
            refine pure_ (i := 16) (N := some 80) (v := ?_) (a' := ?_) #[true, true, true, true, true, true, true, true, true, true, true, true, true, true, true, false, true, false, false, false, false, false, false, false, false, false, false, false] rfl rfl (any_of HT_.out (by kernel_rfl)) (fun _ _ _ h => h) (Or.inl ⟨by rfl, ?_⟩) ?_ ?_
            rotate_left
            ·intro w'
             go_simp
             with_reducible rfl
            rotate_left
            ·simp only [Act.put, zA, zB, zC, i64_w, i32_w]
             rfl
            refine pure_ (i := 20) (N := some 84) (v := ?_) (a' := ?_) #[true, true, true, true, true, true, true, true, true, true, true, true, true, true, true, false, true, false, false, false, true, false, false, false, false, false, false, false] rfl rfl (any_of HT_.out (by kernel_rfl)) (fun _ _ _ h => h) (Or.inl ⟨by rfl, ?_⟩) ?_ ?_
            rotate_left
            ·intro w'
             go_simp
             with_reducible rfl
            rotate_left
            ·simp only [Act.put, zA, zB, zC, i64_w, i32_w]
             rfl
            refine pure_ (i := 21) (N := some 85) (v := ?_) (a' := ?_) #[true, true, true, true, true, true, true, true, true, true, true, true, true, true, true, false, true, false, false, false, true, true, false, false, false, false, false, false] rfl rfl (any_of HT_.out (by kernel_rfl)) (fun _ _ _ h => h) (Or.inl ⟨by rfl, ?_⟩) ?_ ?_
            rotate_left
            ·intro w'
             go_simp
             with_reducible rfl
            rotate_left
            ·simp only [Act.put, zA, zB, zC, i64_w, i32_w]
             rfl
            refine pure_ (i := 22) (N := some 86) (v := ?_) (a' := ?_) #[true, true, true, true, true, true, true, true, true, true, true, true, true, true, true, false, true, false, false, false, true, true, true, false, false, false, false, false] rfl rfl (any_of HT_.out (by kernel_rfl)) (fun _ _ _ h => h) (Or.inl ⟨by rfl, ?_⟩) ?_ ?_
            rotate_left
            ·intro w'
             go_simp
             with_reducible rfl
            rotate_left
            ·simp only [Act.put, zA, zB, zC, i64_w, i32_w]
             rfl
            refine pure_ (i := 23) (N := some 87) (v := ?_) (a' := ?_) #[true, true, true, true, true, true, true, true, true, true, true, true, true, true, true, false, true, false, false, false, true, true, true, true, false, false, false, false] rfl rfl (any_of HT_.out (by kernel_rfl)) (fun _ _ _ h => h) (Or.inl ⟨by rfl, ?_⟩) ?_ ?_
            rotate_left
            ·intro w'
             go_simp
             with_reducible rfl
            rotate_left
            ·simp only [Act.put, zA, zB, zC, i64_w, i32_w]
             rfl
            refine take_ (i := 15) (N := some 79) (v := ?_) (a' := ?_) #[true, true, true, true, true, true, true, true, true, true, true, true, true, true, true, true, true, false, false, false, true, true, true, true, false, false, false, false] rfl rfl (take_ofW HT_.out HW_.out (by kernel_rfl)) (fun _ _ _ h => h) (Or.inl ⟨by rfl, ?_⟩) hHeld ?_ ?_
            rotate_left
            ·rintro w' ⟨s0, s1, s2, s3, s4, s5, s6, s7, s8, s9, s10⟩
             go_simp
             with_reducible rfl
            rotate_left
            ·simp only [Act.put, zA, zB, zC, i64_w, i32_w]
             rfl
            refine pure_ (i := 17) (N := some 81) (v := ?_) (a' := ?_) #[true, true, true, true, true, true, true, true, true, true, true, true, true, true, true, true, true, true, false, false, true, true, true, true, false, false, false, false] rfl rfl (any_of HT_.out (by kernel_rfl)) (fun _ _ _ h => h) (Or.inl ⟨by rfl, ?_⟩) ?_ ?_
            rotate_left
            ·intro w'
             go_simp
             with_reducible rfl
            rotate_left
            ·simp only [Act.put, zA, zB, zC, i64_w, i32_w]
             rfl
            refine pure_ (i := 18) (N := some 82) (v := ?_) (a' := ?_) #[true, true, true, true, true, true, true, true, true, true, true, true, true, true, true, true, true, true, true, false, true, true, true, true, false, false, false, false] rfl rfl (any_of HT_.out (by kernel_rfl)) (fun _ _ _ h => h) (Or.inl ⟨by rfl, ?_⟩) ?_ ?_
            rotate_left
            ·intro w'
             go_simp
             with_reducible rfl
            rotate_left
            ·simp only [Act.put, zA, zB, zC, i64_w, i32_w]
             rfl
            refine take_ (i := 19) (N := some 83) (v := ?_) (a' := ?_) #[true, true, true, true, true, true, true, true, true, true, true, true, true, true, true, true, true, true, true, true, true, true, true, true, false, false, false, false] rfl rfl (take_ofW HT_.out HW_.out (by kernel_rfl)) (fun _ _ _ h => h) (Or.inl ⟨by rfl, ?_⟩) hHeld ?_ ?_
            rotate_left
            ·rintro w' ⟨s0, s1, s2, s3, s4, s5, s6, s7, s8, s9, s10⟩
             go_simp
             with_reducible rfl
            rotate_left
            ·simp only [Act.put, zA, zB, zC, i64_w, i32_w]
             rfl
            refine take_ (i := 24) (N := some 88) (v := ?_) (a' := ?_) #[true, true, true, true, true, true, true, true, true, true, true, true, true, true, true, true, true, true, true, true, true, true, true, true, true, false, false, false] rfl rfl (take_ofW HT_.out HW_.out (by kernel_rfl)) (fun _ _ _ h => h) (Or.inl ⟨by rfl, ?_⟩) hHeld ?_ ?_
            rotate_left
            ·rintro w' ⟨s0, s1, s2, s3, s4, s5, s6, s7, s8, s9, s10⟩
             go_simp
             with_reducible rfl
            rotate_left
            ·simp only [Act.put, zA, zB, zC, i64_w, i32_w]
             rfl
            refine one_ (i := 25) (N := some 89) #[true, true, true, true, true, true, true, true, true, true, true, true, true, true, true, true, true, true, true, true, true, true, true, true, true, true, false, false] rfl rfl (one_of HT_.out (by kernel_rfl)) (by decide) (fun K hK => ?_)
            refine goes_ Try.func17 (by kernel_rfl) rfl #[.slice A462_1 ((rd_T49 l1_2 x11_2).f1).length c462_1, .slice A463_1 ((rd_T50 t448 x11_2).f1).length c463_1] (by rfl) rfl rfl (by (try simp only [yH, yI, yJ]); first | done | rfl | (simp only [yG, yF]; rfl)) ?_
            with_reducible refine (w19_rows.calls k2 _ _ ((rd_T49 l1_2 x11_2).f1) _ _ ((rd_T50 t448 x11_2).f1) true _ ?side1 ?side2 ?side3 ?side4 A42.out).mono ?_
            (case side1 => repeat (first | exact (yc HR465_1.out (by repeat (first | (with_reducible first | exact HB.out | apply zJ | apply zD | apply zE | refine zI ?_ Z1.out) | exact HB.out))) | (with_reducible refine yS ?_ _) | (with_reducible refine yT ?_ _) | (with_reducible refine yU ?_)))
            (case side2 => exact HC465_1.out)
            (case side3 => repeat (first | exact (by repeat (first | (with_reducible exact HR466_1.out) | (with_reducible refine yS ?_ _) | (with_reducible refine yT ?_ _) | (with_reducible refine yU ?_) | exact HR466_1.out)) | (with_reducible refine yS ?_ _) | (with_reducible refine yT ?_ _) | (with_reducible refine yU ?_)))
            (case side4 => exact HC466_1.out)
            rintro e w' ⟨rfl, ⟨nd, rfl⟩⟩
            refine ⟨_, rfl, ?_⟩
            refine hK.out _ _ ⟨(zO Z0.out 0).trans rfl, (zO Z0.out 1).trans rfl, (zO Z0.out 2).trans rfl, ((HB.out.cell (World.block_lt_of_cell? w _ hw462_0)).trans hw462_0), ((HB.out.cell (World.block_lt_of_cell? w _ hw462_1)).trans hw462_1), hHeld.2.2.2.2.2.1, hHeld.2.2.2.2.2.2.1, ((HB.out.cell (World.block_lt_of_cell? w _ hw465_0)).trans hw465_0), ((HB.out.cell (World.block_lt_of_cell? w _ hw465_1)).trans hw465_1), hHeld.2.2.2.2.2.2.2.2.2.1, hHeld.2.2.2.2.2.2.2.2.2.2⟩ (fun hHeld => ?_)
            clear hK K
            refine norm_ (a' := ?_) ?_ ?_
            rotate_left
            ·show Act.put _ (some 89) _ = _
             simp only [Act.put, zA, zB, zC, i64_w, i32_w]
             rfl
            refine pure_ (i := 26) (N := some 90) (v := ?_) (a' := ?_) #[true, true, true, true, true, true, true, true, true, true, true, true, true, true, true, true, true, true, true, true, true, true, true, true, true, true, true, false] rfl rfl (any_of HT_.out (by kernel_rfl)) (fun _ _ _ h => h) (Or.inl ⟨by rfl, ?_⟩) ?_ ?_
            rotate_left
            ·intro w'
             go_simp
             with_reducible rfl
            rotate_left
            ·simp only [Act.put, zA, zB, zC, i64_w, i32_w]
             rfl
            refine pure_ (i := 27) (N := some 91) (v := ?_) (a' := ?_) #[true, true, true, true, true, true, true, true, true, true, true, true, true, true, true, true, true, true, true, true, true, true, true, true, true, true, true, true] rfl rfl (any_of HT_.out (by kernel_rfl)) (fun _ _ _ h => h) (Or.inl ⟨by rfl, ?_⟩) ?_ ?_
            rotate_left
            ·intro w'
             go_simp
             with_reducible rfl
            rotate_left
            ·simp only [Act.put, zA, zB, zC, i64_w, i32_w]
             rfl
            refine done_ (done_of HT_.out (by kernel_rfl)) ?_
            try go_wp2
            go_roundg k2
            case measure => have := HJ6.out; have := HK2.out; omega
            case rel => exact ⟨(wrap64 (x11_2 + 1)), (by first | rfl | (simp; done) | (simp [*]; done)), H', ⟨by have := HJ6.out; have := HK2.out; omega⟩, ⟨by (with_reducible repeat (first | apply Kd.S_alloc | apply Kd.S_drewN | apply Kd.S_drew)); exact HO_6.out⟩, ⟨by (with_reducible repeat (first | refine zF ?_ _ | refine zH ?_ | refine zG ?_ _)); exact Z0.out⟩, ⟨by repeat (first | (with_reducible first | exact HB.out | apply zJ | apply zD | apply zE | refine zI ?_ Z1.out) | exact HB.out)⟩⟩
           ·replace c43 := yh.mpr c43
            subst c43
            have H1 : (some false) = some r := by rw [if_neg (show ¬ (false = true) by decide)] at H; exact H
            clear H
            have H := H1
            clear H1
            obtain rfl := yY H
            try go_wp2
            have n0_ := zK (Kd.S_drew HO_6.out)
            have n1_ := zK (zH Z0.out)
            have n2_ := zK (zE HB.out)
            clear HO_6 Z0 HB
            have HO_6 := n0_; have Z0 := n1_; have HB := n2_
            clear n0_ n1_ n2_
            have p462 : 0 ≤ (x11_2 : Int) := yB (by first | (with_reducible assumption) | assumption)
            have q462 : x11_2 < (l1_2.length : Int) := yB (by first | (with_reducible assumption) | assumption)
            obtain ⟨ad462, A462_0, c462_0, A462_1, c462_1, e462, hx462_0, hx462_1, hl462_0, hi462_0, hl462_1, hi462_1⟩ := at_T49 HR1_2.out x11_2 p462 q462
            have hw462_1 := hx462_1
            have hw462_0 := hx462_0
            cases e462
            replace hx462_0 := (HB.out.cell (World.block_lt_of_cell? w _ hx462_0)).trans hx462_0
            replace hx462_1 := (HB.out.cell (World.block_lt_of_cell? w _ hx462_1)).trans hx462_1
            have HR462_0 := zK hi462_0
            have HC462_0 := zK hl462_0
            clear hi462_0 hl462_0
            have HR462_1 := zK hi462_1
            have HC462_1 := zK hl462_1
            clear hi462_1 hl462_1
            replace p462 := yg p462
            replace q462 := yg q462
            have p463 : 0 ≤ (x11_2 : Int) := yB (by first | (with_reducible assumption) | assumption)
            have q463 : x11_2 < (t448.length : Int) := yB (by first | (with_reducible assumption) | assumption)
            obtain ⟨ad463, A463_0, c463_0, A463_1, c463_1, e463, hx463_0, hx463_1, hl463_0, hi463_0, hl463_1, hi463_1⟩ := at_T50 (Kd.S_reads' HO_6.out).2.2 x11_2 p463 q463
            cases e463
            obtain ⟨ce463, hce463, hMe463, hcc463⟩ := Kd.S_get HO_6.out z50 x11_2 p463 (by first | exact q463 | exact yB (by first | (with_reducible assumption) | assumption) | (have e_ := (Kd.S_reads' HO_6.out).1; omega))
            obtain ⟨ve463_0, ve463_1, rfl, ge463_0, ge463_1⟩ := k50_openM hMe463
            have hv463_0 := hcc463 0 _ rfl
            rw [Nat.add_zero] at hv463_0
            replace hv463_0 := yY (hv463_0.symm.trans hx463_0)
            rw [hv463_0] at ge463_0
            have HL463_0 := zK (show Kd.R (Kd.int .i8) 53 _ _ _ _ ((rd_T50 t448 x11_2).f0) from ge463_0)
            clear hv463_0 ge463_0
            have hv463_1 := hcc463 1 _ rfl
            rw [add_field _ _ 1 (by omega)] at hv463_1
            replace hv463_1 := yY (hv463_1.symm.trans hx463_1)
            rw [hv463_1] at ge463_1
            have HL463_1 := zK (show Kd.R (Kd.int .i8) 53 _ _ _ _ ((rd_T50 t448 x11_2).f1) from ge463_1)
            clear hv463_1 ge463_1 hcc463 hce463
            have HR463_0 := zK hi463_0
            have HC463_0 := zK hl463_0
            clear hi463_0 hl463_0
            have HR463_1 := zK hi463_1
            have HC463_1 := zK hl463_1
            clear hi463_1 hl463_1
            replace p463 := yg p463
            replace q463 := yg q463
            have p465 : 0 ≤ (x11_2 : Int) := yB (by first | (with_reducible assumption) | assumption)
            have q465 : x11_2 < (l1_2.length : Int) := yB (by first | (with_reducible assumption) | assumption)
            obtain ⟨ad465, A465_0, c465_0, A465_1, c465_1, e465, hx465_0, hx465_1, hl465_0, hi465_0, hl465_1, hi465_1⟩ := at_T49 HR1_2.out x11_2 p465 q465
            have hw465_1 := hx465_1
            have hw465_0 := hx465_0
            obtain rfl : ad462 = ad465 := (by injection e465)
            replace hx465_0 := (HB.out.cell (World.block_lt_of_cell? w _ hx465_0)).trans hx465_0
            replace hx465_1 := (HB.out.cell (World.block_lt_of_cell? w _ hx465_1)).trans hx465_1
            have HR465_0 := zK hi465_0
            have HC465_0 := zK hl465_0
            clear hi465_0 hl465_0
            have HR465_1 := zK hi465_1
            have HC465_1 := zK hl465_1
            clear hi465_1 hl465_1
            replace p465 := yg p465
            replace q465 := yg q465
            have ea_ := yY (hx462_0.symm.trans hx465_0)
            injection ea_ with ea_ en_ ec_
            subst ea_
            subst ec_
            clear en_
            have ea_ := yY (hx462_1.symm.trans hx465_1)
            injection ea_ with ea_ en_ ec_
            subst ea_
            subst ec_
            clear en_
            have p466 : 0 ≤ (x11_2 : Int) := yB (by first | (with_reducible assumption) | assumption)
            have q466 : x11_2 < (t448.length : Int) := yB (by first | (with_reducible assumption) | assumption)
            obtain ⟨ad466, A466_0, c466_0, A466_1, c466_1, e466, hx466_0, hx466_1, hl466_0, hi466_0, hl466_1, hi466_1⟩ := at_T50 (Kd.S_reads' HO_6.out).2.2 x11_2 p466 q466
            obtain rfl : ad463 = ad466 := (by injection e466)
            obtain ⟨ce466, hce466, hMe466, hcc466⟩ := Kd.S_get HO_6.out z50 x11_2 p466 (by first | exact q466 | exact yB (by first | (with_reducible assumption) | assumption) | (have e_ := (Kd.S_reads' HO_6.out).1; omega))
            obtain ⟨ve466_0, ve466_1, rfl, ge466_0, ge466_1⟩ := k50_openM hMe466
            have hv466_0 := hcc466 0 _ rfl
            rw [Nat.add_zero] at hv466_0
            replace hv466_0 := yY (hv466_0.symm.trans hx466_0)
            rw [hv466_0] at ge466_0
            have HL466_0 := zK (show Kd.R (Kd.int .i8) 53 _ _ _ _ ((rd_T50 t448 x11_2).f0) from ge466_0)
            clear hv466_0 ge466_0
            have hv466_1 := hcc466 1 _ rfl
            rw [add_field _ _ 1 (by omega)] at hv466_1
            replace hv466_1 := yY (hv466_1.symm.trans hx466_1)
            rw [hv466_1] at ge466_1
            have HL466_1 := zK (show Kd.R (Kd.int .i8) 53 _ _ _ _ ((rd_T50 t448 x11_2).f1) from ge466_1)
            clear hv466_1 ge466_1 hcc466 hce466
            have HR466_0 := zK hi466_0
            have HC466_0 := zK hl466_0
            clear hi466_0 hl466_0
            have HR466_1 := zK hi466_1
            have HC466_1 := zK hl466_1
            clear hi466_1 hl466_1
            replace p466 := yg p466
            replace q466 := yg q466
            have ea_ := yY (hx463_0.symm.trans hx466_0)
            injection ea_ with ea_ en_ ec_
            subst ea_
            subst ec_
            clear en_
            have ea_ := yY (hx463_1.symm.trans hx466_1)
            injection ea_ with ea_ en_ ec_
            subst ea_
            subst ec_
            clear en_
            refine start_ (n := 28) (S := fun w' => w'.cell? ⟨Z3, 0, none⟩ = some (.int .i64 a1_0) ∧ w'.cell? ⟨Z3, 1, none⟩ = some (.int .i64 a1_1) ∧ w'.cell? ⟨Z3, 2, none⟩ = some (.slice (some ad462) l1_2.length c1_2) ∧ w'.cell? (ad462.add ((x11_2).toNat * 2)) = some (.slice A462_0 ((rd_T49 l1_2 x11_2).f0).length c462_0) ∧ w'.cell? ⟨(ad462.add ((x11_2).toNat * 2)).block, (ad462.add ((x11_2).toNat * 2)).off + 1, none⟩ = some (.slice A462_1 ((rd_T49 l1_2 x11_2).f1).length c462_1) ∧ w'.cell? (ad463.add ((x11_2).toNat * 2)) = some (.slice A463_0 ((rd_T50 t448 x11_2).f0).length c463_0) ∧ w'.cell? ⟨(ad463.add ((x11_2).toNat * 2)).block, (ad463.add ((x11_2).toNat * 2)).off + 1, none⟩ = some (.slice A463_1 ((rd_T50 t448 x11_2).f1).length c463_1) ∧ w'.cell? (ad462.add ((x11_2).toNat * 2)) = some (.slice A462_0 ((rd_T49 l1_2 x11_2).f0).length c462_0) ∧ w'.cell? ⟨(ad462.add ((x11_2).toNat * 2)).block, (ad462.add ((x11_2).toNat * 2)).off + 1, none⟩ = some (.slice A462_1 ((rd_T49 l1_2 x11_2).f1).length c462_1) ∧ w'.cell? (ad463.add ((x11_2).toNat * 2)) = some (.slice A463_0 ((rd_T50 t448 x11_2).f0).length c463_0) ∧ w'.cell? ⟨(ad463.add ((x11_2).toNat * 2)).block, (ad463.add ((x11_2).toNat * 2)).off + 1, none⟩ = some (.slice A463_1 ((rd_T50 t448 x11_2).f1).length c463_1)) (ds := []) #[false, false, false, false, false, false, false, false, false, false, false, false, false, false, false, false, false, false, false, false, false, false, false, false, false, false, false, false] (by kernel_rfl) rfl rfl ⟨(zO Z0.out 0).trans rfl, (zO Z0.out 1).trans rfl, (zO Z0.out 2).trans rfl, ((HB.out.cell (World.block_lt_of_cell? w _ hw462_0)).trans hw462_0), ((HB.out.cell (World.block_lt_of_cell? w _ hw462_1)).trans hw462_1), hx463_0, hx463_1, ((HB.out.cell (World.block_lt_of_cell? w _ hw465_0)).trans hw465_0), ((HB.out.cell (World.block_lt_of_cell? w _ hw465_1)).trans hw465_1), hx466_0, hx466_1⟩ (fun hHeld => ?_); refine with_tabW w19_AttendLooks.tab9 w19_AttendLooks.bits9 (fun HT_ HW_ => ?_)
            generalize wr.drew = w45 at HO_6 Z0 HB HL463_0 HL463_1 HL466_0 HL466_1 HR462_0 HR462_1 HR463_0 HR463_1 HR465_0 HR465_1 HR466_0 HR466_1 hx462_0 hx462_1 hx463_0 hx463_1 hx465_0 hx465_1 hx466_0 hx466_1 hHeld ⊢
            refine pure_ (i := 0) (N := some 64) (v := ?_) (a' := ?_) #[true, false, false, false, false, false, false, false, false, false, false, false, false, false, false, false, false, false, false, false, false, false, false, false, false, false, false, false] rfl rfl (any_of HT_.out (by kernel_rfl)) (fun _ _ _ h => h) (Or.inl ⟨by rfl, ?_⟩) ?_ ?_
            rotate_left
            ·intro w'
             go_simp
             with_reducible rfl
            rotate_left
            ·simp only [Act.put, zA, zB, zC, i64_w, i32_w]
             rfl
            refine pure_ (i := 2) (N := some 66) (v := ?_) (a' := ?_) #[true, false, true, false, false, false, false, false, false, false, false, false, false, false, false, false, false, false, false, false, false, false, false, false, false, false, false, false] rfl rfl (any_of HT_.out (by kernel_rfl)) (fun _ _ _ h => h) (Or.inl ⟨by rfl, ?_⟩) ?_ ?_
            rotate_left
            ·intro w'
             go_simp
             with_reducible rfl
            rotate_left
            ·simp only [Act.put, zA, zB, zC, i64_w, i32_w]
             rfl
            refine pure_ (i := 6) (N := some 70) (v := ?_) (a' := ?_) #[true, false, true, false, false, false, true, false, false, false, false, false, false, false, false, false, false, false, false, false, false, false, false, false, false, false, false, false] rfl rfl (any_of HT_.out (by kernel_rfl)) (fun _ _ _ h => h) (Or.inl ⟨by rfl, ?_⟩) ?_ ?_
            rotate_left
            ·intro w'
             go_simp
             with_reducible rfl
            rotate_left
            ·simp only [Act.put, zA, zB, zC, i64_w, i32_w]
             rfl
            refine pure_ (i := 7) (N := some 71) (v := ?_) (a' := ?_) #[true, false, true, false, false, false, true, true, false, false, false, false, false, false, false, false, false, false, false, false, false, false, false, false, false, false, false, false] rfl rfl (any_of HT_.out (by kernel_rfl)) (fun _ _ _ h => h) (Or.inl ⟨by rfl, ?_⟩) ?_ ?_
            rotate_left
            ·intro w'
             go_simp
             with_reducible rfl
            rotate_left
            ·simp only [Act.put, zA, zB, zC, i64_w, i32_w]
             rfl
            refine pure_ (i := 8) (N := some 72) (v := ?_) (a' := ?_) #[true, false, true, false, false, false, true, true, true, false, false, false, false, false, false, false, false, false, false, false, false, false, false, false, false, false, false, false] rfl rfl (any_of HT_.out (by kernel_rfl)) (fun _ _ _ h => h) (Or.inl ⟨by rfl, ?_⟩) ?_ ?_
            rotate_left
            ·intro w'
             go_simp
             with_reducible rfl
            rotate_left
            ·simp only [Act.put, zA, zB, zC, i64_w, i32_w]
             rfl
            refine pure_ (i := 9) (N := some 73) (v := ?_) (a' := ?_) #[true, false, true, false, false, false, true, true, true, true, false, false, false, false, false, false, false, false, false, false, false, false, false, false, false, false, false, false] rfl rfl (any_of HT_.out (by kernel_rfl)) (fun _ _ _ h => h) (Or.inl ⟨by rfl, ?_⟩) ?_ ?_
            rotate_left
            ·intro w'
             go_simp
             with_reducible rfl
            rotate_left
            ·simp only [Act.put, zA, zB, zC, i64_w, i32_w]
             rfl
            refine take_ (i := 1) (N := some 65) (v := ?_) (a' := ?_) #[true, true, true, false, false, false, true, true, true, true, false, false, false, false, false, false, false, false, false, false, false, false, false, false, false, false, false, false] rfl rfl (take_ofW HT_.out HW_.out (by kernel_rfl)) (fun _ _ _ h => h) (Or.inl ⟨by rfl, ?_⟩) hHeld ?_ ?_
            rotate_left
            ·rintro w' ⟨s0, s1, s2, s3, s4, s5, s6, s7, s8, s9, s10⟩
             go_simp
             with_reducible rfl
            rotate_left
            ·simp only [Act.put, zA, zB, zC, i64_w, i32_w]
             rfl
            refine pure_ (i := 3) (N := some 67) (v := ?_) (a' := ?_) #[true, true, true, true, false, false, true, true, true, true, false, false, false, false, false, false, false, false, false, false, false, false, false, false, false, false, false, false] rfl rfl (any_of HT_.out (by kernel_rfl)) (fun _ _ _ h => h) (Or.inl ⟨by rfl, ?_⟩) ?_ ?_
            rotate_left
            ·intro w'
             go_simp
             with_reducible rfl
            rotate_left
            ·simp only [Act.put, zA, zB, zC, i64_w, i32_w]
             rfl
            refine pure_ (i := 4) (N := some 68) (v := ?_) (a' := ?_) #[true, true, true, true, true, false, true, true, true, true, false, false, false, false, false, false, false, false, false, false, false, false, false, false, false, false, false, false] rfl rfl (any_of HT_.out (by kernel_rfl)) (fun _ _ _ h => h) (Or.inl ⟨by rfl, ?_⟩) ?_ ?_
            rotate_left
            ·intro w'
             go_simp
             with_reducible rfl
            rotate_left
            ·simp only [Act.put, zA, zB, zC, i64_w, i32_w]
             rfl
            refine take_ (i := 5) (N := some 69) (v := ?_) (a' := ?_) #[true, true, true, true, true, true, true, true, true, true, false, false, false, false, false, false, false, false, false, false, false, false, false, false, false, false, false, false] rfl rfl (take_ofW HT_.out HW_.out (by kernel_rfl)) (fun _ _ _ h => h) (Or.inl ⟨by rfl, ?_⟩) hHeld ?_ ?_
            rotate_left
            ·rintro w' ⟨s0, s1, s2, s3, s4, s5, s6, s7, s8, s9, s10⟩
             go_simp
             with_reducible rfl
            rotate_left
            ·simp only [Act.put, zA, zB, zC, i64_w, i32_w]
             rfl
            refine take_ (i := 10) (N := some 74) (v := ?_) (a' := ?_) #[true, true, true, true, true, true, true, true, true, true, true, false, false, false, false, false, false, false, false, false, false, false, false, false, false, false, false, false] rfl rfl (take_ofW HT_.out HW_.out (by kernel_rfl)) (fun _ _ _ h => h) (Or.inl ⟨by rfl, ?_⟩) hHeld ?_ ?_
            rotate_left
            ·rintro w' ⟨s0, s1, s2, s3, s4, s5, s6, s7, s8, s9, s10⟩
             go_simp
             with_reducible rfl
            rotate_left
            ·simp only [Act.put, zA, zB, zC, i64_w, i32_w]
             rfl
            refine one_ (i := 11) (N := some 75) #[true, true, true, true, true, true, true, true, true, true, true, true, false, false, false, false, false, false, false, false, false, false, false, false, false, false, false, false] rfl rfl (one_of HT_.out (by kernel_rfl)) (by decide) (fun K hK => ?_)
            refine goes_ Try.func17 (by kernel_rfl) rfl #[.slice A462_0 ((rd_T49 l1_2 x11_2).f0).length c462_0, .slice A463_0 ((rd_T50 t448 x11_2).f0).length c463_0] (by rfl) rfl rfl (by (try simp only [yH, yI, yJ]); first | done | rfl | (simp only [yG, yF]; rfl)) ?_
            with_reducible refine (w19_rows.calls k2 _ _ ((rd_T49 l1_2 x11_2).f0) _ _ ((rd_T50 t448 x11_2).f0) true _ ?side1 ?side2 ?side3 ?side4 A40.out).mono ?_
            (case side1 => repeat (first | exact (yc HR462_0.out HB.out) | (with_reducible refine yS ?_ _) | (with_reducible refine yT ?_ _) | (with_reducible refine yU ?_)))
            (case side2 => exact HC462_0.out)
            (case side3 => repeat (first | exact (by repeat (first | (with_reducible exact HR463_0.out) | (with_reducible refine yS ?_ _) | (with_reducible refine yT ?_ _) | (with_reducible refine yU ?_) | exact HR463_0.out)) | (with_reducible refine yS ?_ _) | (with_reducible refine yT ?_ _) | (with_reducible refine yU ?_)))
            (case side4 => exact HC463_0.out)
            rintro e w' ⟨rfl, ⟨nd, rfl⟩⟩
            refine ⟨_, rfl, ?_⟩
            refine hK.out _ _ ⟨(zO Z0.out 0).trans rfl, (zO Z0.out 1).trans rfl, (zO Z0.out 2).trans rfl, ((HB.out.cell (World.block_lt_of_cell? w _ hw462_0)).trans hw462_0), ((HB.out.cell (World.block_lt_of_cell? w _ hw462_1)).trans hw462_1), hHeld.2.2.2.2.2.1, hHeld.2.2.2.2.2.2.1, ((HB.out.cell (World.block_lt_of_cell? w _ hw465_0)).trans hw465_0), ((HB.out.cell (World.block_lt_of_cell? w _ hw465_1)).trans hw465_1), hHeld.2.2.2.2.2.2.2.2.2.1, hHeld.2.2.2.2.2.2.2.2.2.2⟩ (fun hHeld => ?_)
            clear hK K
            refine norm_ (a' := ?_) ?_ ?_
            rotate_left
            ·show Act.put _ (some 75) _ = _
             simp only [Act.put, zA, zB, zC, i64_w, i32_w]
             rfl
            refine pure_ (i := 12) (N := some 76) (v := ?_) (a' := ?_) #[true, true, true, true, true, true, true, true, true, true, true, true, true, false, false, false, false, false, false, false, false, false, false, false, false, false, false, false] rfl rfl (any_of HT_.out (by kernel_rfl)) (fun _ _ _ h => h) (Or.inl ⟨by rfl, ?_⟩) ?_ ?_
            rotate_left
            ·intro w'
             go_simp
             with_reducible rfl
            rotate_left
            ·simp only [Act.put, zA, zB, zC, i64_w, i32_w]
             rfl
            refine pure_ (i := 13) (N := some 77) (v := ?_) (a' := ?_) #[true, true, true, true, true, true, true, true, true, true, true, true, true, true, false, false, false, false, false, false, false, false, false, false, false, false, false, false] rfl rfl (any_of HT_.out (by kernel_rfl)) (fun _ _ _ h => h) (Or.inl ⟨by rfl, ?_⟩) ?_ ?_
            rotate_left
            ·intro w'
             go_simp
             with_reducible rfl
            rotate_left
            ·simp only [Act.put, zA, zB, zC, i64_w, i32_w]
             rfl
            refine pure_ (i := 14) (N := some 78) (v := ?_) (a' := ?_) #[true, true, true, true, true, true, true, true, true, true, true, true, true, true, true, false, false, false, false, false, false, false, false, false, false, false, false, false] rfl rfl (any_of HT_.out (by kernel_rfl)) (fun _ _ _ h => h) (Or.inl ⟨by rfl, ?_⟩) ?_ ?_
            rotate_left
            ·intro w'
             go_simp
             with_reducible rfl
            rotate_left
            ·simp only [Act.put, zA, zB, zC, i64_w, i32_w]
             rfl
            refine pure_ (i := 16) (N := some 80) (v := ?_) (a' := ?_) #[true, true, true, true, true, true, true, true, true, true, true, true, true, true, true, false, true, false, false, false, false, false, false, false, false, false, false, false] rfl rfl (any_of HT_.out (by kernel_rfl)) (fun _ _ _ h => h) (Or.inl ⟨by rfl, ?_⟩) ?_ ?_
            rotate_left
            ·intro w'
             go_simp
             with_reducible rfl
            rotate_left
            ·simp only [Act.put, zA, zB, zC, i64_w, i32_w]
             rfl
            refine pure_ (i := 20) (N := some 84) (v := ?_) (a' := ?_) #[true, true, true, true, true, true, true, true, true, true, true, true, true, true, true, false, true, false, false, false, true, false, false, false, false, false, false, false] rfl rfl (any_of HT_.out (by kernel_rfl)) (fun _ _ _ h => h) (Or.inl ⟨by rfl, ?_⟩) ?_ ?_
            rotate_left
            ·intro w'
             go_simp
             with_reducible rfl
            rotate_left
            ·simp only [Act.put, zA, zB, zC, i64_w, i32_w]
             rfl
            refine pure_ (i := 21) (N := some 85) (v := ?_) (a' := ?_) #[true, true, true, true, true, true, true, true, true, true, true, true, true, true, true, false, true, false, false, false, true, true, false, false, false, false, false, false] rfl rfl (any_of HT_.out (by kernel_rfl)) (fun _ _ _ h => h) (Or.inl ⟨by rfl, ?_⟩) ?_ ?_
            rotate_left
            ·intro w'
             go_simp
             with_reducible rfl
            rotate_left
            ·simp only [Act.put, zA, zB, zC, i64_w, i32_w]
             rfl
            refine pure_ (i := 22) (N := some 86) (v := ?_) (a' := ?_) #[true, true, true, true, true, true, true, true, true, true, true, true, true, true, true, false, true, false, false, false, true, true, true, false, false, false, false, false] rfl rfl (any_of HT_.out (by kernel_rfl)) (fun _ _ _ h => h) (Or.inl ⟨by rfl, ?_⟩) ?_ ?_
            rotate_left
            ·intro w'
             go_simp
             with_reducible rfl
            rotate_left
            ·simp only [Act.put, zA, zB, zC, i64_w, i32_w]
             rfl
            refine pure_ (i := 23) (N := some 87) (v := ?_) (a' := ?_) #[true, true, true, true, true, true, true, true, true, true, true, true, true, true, true, false, true, false, false, false, true, true, true, true, false, false, false, false] rfl rfl (any_of HT_.out (by kernel_rfl)) (fun _ _ _ h => h) (Or.inl ⟨by rfl, ?_⟩) ?_ ?_
            rotate_left
            ·intro w'
             go_simp
             with_reducible rfl
            rotate_left
            ·simp only [Act.put, zA, zB, zC, i64_w, i32_w]
             rfl
            refine take_ (i := 15) (N := some 79) (v := ?_) (a' := ?_) #[true, true, true, true, true, true, true, true, true, true, true, true, true, true, true, true, true, false, false, false, true, true, true, true, false, false, false, false] rfl rfl (take_ofW HT_.out HW_.out (by kernel_rfl)) (fun _ _ _ h => h) (Or.inl ⟨by rfl, ?_⟩) hHeld ?_ ?_
            rotate_left
            ·rintro w' ⟨s0, s1, s2, s3, s4, s5, s6, s7, s8, s9, s10⟩
             go_simp
             with_reducible rfl
            rotate_left
            ·simp only [Act.put, zA, zB, zC, i64_w, i32_w]
             rfl
            refine pure_ (i := 17) (N := some 81) (v := ?_) (a' := ?_) #[true, true, true, true, true, true, true, true, true, true, true, true, true, true, true, true, true, true, false, false, true, true, true, true, false, false, false, false] rfl rfl (any_of HT_.out (by kernel_rfl)) (fun _ _ _ h => h) (Or.inl ⟨by rfl, ?_⟩) ?_ ?_
            rotate_left
            ·intro w'
             go_simp
             with_reducible rfl
            rotate_left
            ·simp only [Act.put, zA, zB, zC, i64_w, i32_w]
             rfl
            refine pure_ (i := 18) (N := some 82) (v := ?_) (a' := ?_) #[true, true, true, true, true, true, true, true, true, true, true, true, true, true, true, true, true, true, true, false, true, true, true, true, false, false, false, false] rfl rfl (any_of HT_.out (by kernel_rfl)) (fun _ _ _ h => h) (Or.inl ⟨by rfl, ?_⟩) ?_ ?_
            rotate_left
            ·intro w'
             go_simp
             with_reducible rfl
            rotate_left
            ·simp only [Act.put, zA, zB, zC, i64_w, i32_w]
             rfl
            refine take_ (i := 19) (N := some 83) (v := ?_) (a' := ?_) #[true, true, true, true, true, true, true, true, true, true, true, true, true, true, true, true, true, true, true, true, true, true, true, true, false, false, false, false] rfl rfl (take_ofW HT_.out HW_.out (by kernel_rfl)) (fun _ _ _ h => h) (Or.inl ⟨by rfl, ?_⟩) hHeld ?_ ?_
            rotate_left
            ·rintro w' ⟨s0, s1, s2, s3, s4, s5, s6, s7, s8, s9, s10⟩
             go_simp
             with_reducible rfl
            rotate_left
            ·simp only [Act.put, zA, zB, zC, i64_w, i32_w]
             rfl
            refine take_ (i := 24) (N := some 88) (v := ?_) (a' := ?_) #[true, true, true, true, true, true, true, true, true, true, true, true, true, true, true, true, true, true, true, true, true, true, true, true, true, false, false, false] rfl rfl (take_ofW HT_.out HW_.out (by kernel_rfl)) (fun _ _ _ h => h) (Or.inl ⟨by rfl, ?_⟩) hHeld ?_ ?_
            rotate_left
            ·rintro w' ⟨s0, s1, s2, s3, s4, s5, s6, s7, s8, s9, s10⟩
             go_simp
             with_reducible rfl
            rotate_left
            ·simp only [Act.put, zA, zB, zC, i64_w, i32_w]
             rfl
            refine one_ (i := 25) (N := some 89) #[true, true, true, true, true, true, true, true, true, true, true, true, true, true, true, true, true, true, true, true, true, true, true, true, true, true, false, false] rfl rfl (one_of HT_.out (by kernel_rfl)) (by decide) (fun K hK => ?_)
            refine goes_ Try.func17 (by kernel_rfl) rfl #[.slice A462_1 ((rd_T49 l1_2 x11_2).f1).length c462_1, .slice A463_1 ((rd_T50 t448 x11_2).f1).length c463_1] (by rfl) rfl rfl (by (try simp only [yH, yI, yJ]); first | done | rfl | (simp only [yG, yF]; rfl)) ?_
            with_reducible refine (w19_rows.calls k2 _ _ ((rd_T49 l1_2 x11_2).f1) _ _ ((rd_T50 t448 x11_2).f1) false _ ?side1 ?side2 ?side3 ?side4 A42.out).mono ?_
            (case side1 => repeat (first | exact (yc HR465_1.out (by repeat (first | (with_reducible first | exact HB.out | apply zJ | apply zD | apply zE | refine zI ?_ Z1.out) | exact HB.out))) | (with_reducible refine yS ?_ _) | (with_reducible refine yT ?_ _) | (with_reducible refine yU ?_)))
            (case side2 => exact HC465_1.out)
            (case side3 => repeat (first | exact (by repeat (first | (with_reducible exact HR466_1.out) | (with_reducible refine yS ?_ _) | (with_reducible refine yT ?_ _) | (with_reducible refine yU ?_) | exact HR466_1.out)) | (with_reducible refine yS ?_ _) | (with_reducible refine yT ?_ _) | (with_reducible refine yU ?_)))
            (case side4 => exact HC466_1.out)
            rintro e w' ⟨rfl, ⟨nd, rfl⟩⟩
            refine ⟨_, rfl, ?_⟩
            refine hK.out _ _ ⟨(zO Z0.out 0).trans rfl, (zO Z0.out 1).trans rfl, (zO Z0.out 2).trans rfl, ((HB.out.cell (World.block_lt_of_cell? w _ hw462_0)).trans hw462_0), ((HB.out.cell (World.block_lt_of_cell? w _ hw462_1)).trans hw462_1), hHeld.2.2.2.2.2.1, hHeld.2.2.2.2.2.2.1, ((HB.out.cell (World.block_lt_of_cell? w _ hw465_0)).trans hw465_0), ((HB.out.cell (World.block_lt_of_cell? w _ hw465_1)).trans hw465_1), hHeld.2.2.2.2.2.2.2.2.2.1, hHeld.2.2.2.2.2.2.2.2.2.2⟩ (fun hHeld => ?_)
            clear hK K
            refine norm_ (a' := ?_) ?_ ?_
            rotate_left
            ·show Act.put _ (some 89) _ = _
             simp only [Act.put, zA, zB, zC, i64_w, i32_w]
             rfl
            refine pure_ (i := 26) (N := some 90) (v := ?_) (a' := ?_) #[true, true, true, true, true, true, true, true, true, true, true, true, true, true, true, true, true, true, true, true, true, true, true, true, true, true, true, false] rfl rfl (any_of HT_.out (by kernel_rfl)) (fun _ _ _ h => h) (Or.inl ⟨by rfl, ?_⟩) ?_ ?_
            rotate_left
            ·intro w'
             go_simp
             with_reducible rfl
            rotate_left
            ·simp only [Act.put, zA, zB, zC, i64_w, i32_w]
             rfl
            refine pure_ (i := 27) (N := some 91) (v := ?_) (a' := ?_) #[true, true, true, true, true, true, true, true, true, true, true, true, true, true, true, true, true, true, true, true, true, true, true, true, true, true, true, true] rfl rfl (any_of HT_.out (by kernel_rfl)) (fun _ _ _ h => h) (Or.inl ⟨by rfl, ?_⟩) ?_ ?_
            rotate_left
            ·intro w'
             go_simp
             with_reducible rfl
            rotate_left
            ·simp only [Act.put, zA, zB, zC, i64_w, i32_w]
             rfl
            refine done_ (done_of HT_.out (by kernel_rfl)) ?_
            try go_wp2
            go_ret
            exact ⟨by first | rfl | (simp [errW_none, errW_some] <;> rfl) | (simp [*, errW_none, errW_some] <;> rfl), by repeat (first | (with_reducible first | exact HB.out | apply zJ | apply zD | apply zE | refine zI ?_ Z1.out) | exact HB.out)⟩
          ·replace c41 := yh.mpr c41
           subst c41
           have H1 : (some false) = some r := by rw [if_neg (show ¬ (false = true) by decide)] at H; exact H
           clear H
           have H := H1
           clear H1
           obtain rfl := yY H
           try go_wp2
           have n0_ := zK (Kd.S_drew HO_6.out)
           have n1_ := zK (zH Z0.out)
           have n2_ := zK (zE HB.out)
           clear HO_6 Z0 HB
           have HO_6 := n0_; have Z0 := n1_; have HB := n2_
           clear n0_ n1_ n2_
           have p462 : 0 ≤ (x11_2 : Int) := yB (by first | (with_reducible assumption) | assumption)
           have q462 : x11_2 < (l1_2.length : Int) := yB (by first | (with_reducible assumption) | assumption)
           obtain ⟨ad462, A462_0, c462_0, A462_1, c462_1, e462, hx462_0, hx462_1, hl462_0, hi462_0, hl462_1, hi462_1⟩ := at_T49 HR1_2.out x11_2 p462 q462
           have hw462_1 := hx462_1
           have hw462_0 := hx462_0
           cases e462
           replace hx462_0 := (HB.out.cell (World.block_lt_of_cell? w _ hx462_0)).trans hx462_0
           replace hx462_1 := (HB.out.cell (World.block_lt_of_cell? w _ hx462_1)).trans hx462_1
           have HR462_0 := zK hi462_0
           have HC462_0 := zK hl462_0
           clear hi462_0 hl462_0
           have HR462_1 := zK hi462_1
           have HC462_1 := zK hl462_1
           clear hi462_1 hl462_1
           replace p462 := yg p462
           replace q462 := yg q462
           have p463 : 0 ≤ (x11_2 : Int) := yB (by first | (with_reducible assumption) | assumption)
           have q463 : x11_2 < (t448.length : Int) := yB (by first | (with_reducible assumption) | assumption)
           obtain ⟨ad463, A463_0, c463_0, A463_1, c463_1, e463, hx463_0, hx463_1, hl463_0, hi463_0, hl463_1, hi463_1⟩ := at_T50 (Kd.S_reads' HO_6.out).2.2 x11_2 p463 q463
           cases e463
           obtain ⟨ce463, hce463, hMe463, hcc463⟩ := Kd.S_get HO_6.out z50 x11_2 p463 (by first | exact q463 | exact yB (by first | (with_reducible assumption) | assumption) | (have e_ := (Kd.S_reads' HO_6.out).1; omega))
           obtain ⟨ve463_0, ve463_1, rfl, ge463_0, ge463_1⟩ := k50_openM hMe463
           have hv463_0 := hcc463 0 _ rfl
           rw [Nat.add_zero] at hv463_0
           replace hv463_0 := yY (hv463_0.symm.trans hx463_0)
           rw [hv463_0] at ge463_0
           have HL463_0 := zK (show Kd.R (Kd.int .i8) 53 _ _ _ _ ((rd_T50 t448 x11_2).f0) from ge463_0)
           clear hv463_0 ge463_0
           have hv463_1 := hcc463 1 _ rfl
           rw [add_field _ _ 1 (by omega)] at hv463_1
           replace hv463_1 := yY (hv463_1.symm.trans hx463_1)
           rw [hv463_1] at ge463_1
           have HL463_1 := zK (show Kd.R (Kd.int .i8) 53 _ _ _ _ ((rd_T50 t448 x11_2).f1) from ge463_1)
           clear hv463_1 ge463_1 hcc463 hce463
           have HR463_0 := zK hi463_0
           have HC463_0 := zK hl463_0
           clear hi463_0 hl463_0
           have HR463_1 := zK hi463_1
           have HC463_1 := zK hl463_1
           clear hi463_1 hl463_1
           replace p463 := yg p463
           replace q463 := yg q463
           refine start_ (n := 28) (S := fun w' => w'.cell? ⟨Z3, 0, none⟩ = some (.int .i64 a1_0) ∧ w'.cell? ⟨Z3, 1, none⟩ = some (.int .i64 a1_1) ∧ w'.cell? ⟨Z3, 2, none⟩ = some (.slice (some ad462) l1_2.length c1_2) ∧ w'.cell? (ad462.add ((x11_2).toNat * 2)) = some (.slice A462_0 ((rd_T49 l1_2 x11_2).f0).length c462_0) ∧ w'.cell? ⟨(ad462.add ((x11_2).toNat * 2)).block, (ad462.add ((x11_2).toNat * 2)).off + 1, none⟩ = some (.slice A462_1 ((rd_T49 l1_2 x11_2).f1).length c462_1) ∧ w'.cell? (ad463.add ((x11_2).toNat * 2)) = some (.slice A463_0 ((rd_T50 t448 x11_2).f0).length c463_0) ∧ w'.cell? ⟨(ad463.add ((x11_2).toNat * 2)).block, (ad463.add ((x11_2).toNat * 2)).off + 1, none⟩ = some (.slice A463_1 ((rd_T50 t448 x11_2).f1).length c463_1)) (ds := []) #[false, false, false, false, false, false, false, false, false, false, false, false, false, false, false, false, false, false, false, false, false, false, false, false, false, false, false, false] (by kernel_rfl) rfl rfl ⟨(zO Z0.out 0).trans rfl, (zO Z0.out 1).trans rfl, (zO Z0.out 2).trans rfl, ((HB.out.cell (World.block_lt_of_cell? w _ hw462_0)).trans hw462_0), ((HB.out.cell (World.block_lt_of_cell? w _ hw462_1)).trans hw462_1), hx463_0, hx463_1⟩ (fun hHeld => ?_); refine with_tabW w19_AttendLooks.tab9 w19_AttendLooks.bits9 (fun HT_ HW_ => ?_)
           generalize wr.drew = w46 at HO_6 Z0 HB HL463_0 HL463_1 HR462_0 HR462_1 HR463_0 HR463_1 hx462_0 hx462_1 hx463_0 hx463_1 hHeld ⊢
           refine pure_ (i := 0) (N := some 64) (v := ?_) (a' := ?_) #[true, false, false, false, false, false, false, false, false, false, false, false, false, false, false, false, false, false, false, false, false, false, false, false, false, false, false, false] rfl rfl (any_of HT_.out (by kernel_rfl)) (fun _ _ _ h => h) (Or.inl ⟨by rfl, ?_⟩) ?_ ?_
           rotate_left
           ·intro w'
            go_simp
            with_reducible rfl
           rotate_left
           ·simp only [Act.put, zA, zB, zC, i64_w, i32_w]
            rfl
           refine pure_ (i := 2) (N := some 66) (v := ?_) (a' := ?_) #[true, false, true, false, false, false, false, false, false, false, false, false, false, false, false, false, false, false, false, false, false, false, false, false, false, false, false, false] rfl rfl (any_of HT_.out (by kernel_rfl)) (fun _ _ _ h => h) (Or.inl ⟨by rfl, ?_⟩) ?_ ?_
           rotate_left
           ·intro w'
            go_simp
            with_reducible rfl
           rotate_left
           ·simp only [Act.put, zA, zB, zC, i64_w, i32_w]
            rfl
           refine pure_ (i := 6) (N := some 70) (v := ?_) (a' := ?_) #[true, false, true, false, false, false, true, false, false, false, false, false, false, false, false, false, false, false, false, false, false, false, false, false, false, false, false, false] rfl rfl (any_of HT_.out (by kernel_rfl)) (fun _ _ _ h => h) (Or.inl ⟨by rfl, ?_⟩) ?_ ?_
           rotate_left
           ·intro w'
            go_simp
            with_reducible rfl
           rotate_left
           ·simp only [Act.put, zA, zB, zC, i64_w, i32_w]
            rfl
           refine pure_ (i := 7) (N := some 71) (v := ?_) (a' := ?_) #[true, false, true, false, false, false, true, true, false, false, false, false, false, false, false, false, false, false, false, false, false, false, false, false, false, false, false, false] rfl rfl (any_of HT_.out (by kernel_rfl)) (fun _ _ _ h => h) (Or.inl ⟨by rfl, ?_⟩) ?_ ?_
           rotate_left
           ·intro w'
            go_simp
            with_reducible rfl
           rotate_left
           ·simp only [Act.put, zA, zB, zC, i64_w, i32_w]
            rfl
           refine pure_ (i := 8) (N := some 72) (v := ?_) (a' := ?_) #[true, false, true, false, false, false, true, true, true, false, false, false, false, false, false, false, false, false, false, false, false, false, false, false, false, false, false, false] rfl rfl (any_of HT_.out (by kernel_rfl)) (fun _ _ _ h => h) (Or.inl ⟨by rfl, ?_⟩) ?_ ?_
           rotate_left
           ·intro w'
            go_simp
            with_reducible rfl
           rotate_left
           ·simp only [Act.put, zA, zB, zC, i64_w, i32_w]
            rfl
           refine pure_ (i := 9) (N := some 73) (v := ?_) (a' := ?_) #[true, false, true, false, false, false, true, true, true, true, false, false, false, false, false, false, false, false, false, false, false, false, false, false, false, false, false, false] rfl rfl (any_of HT_.out (by kernel_rfl)) (fun _ _ _ h => h) (Or.inl ⟨by rfl, ?_⟩) ?_ ?_
           rotate_left
           ·intro w'
            go_simp
            with_reducible rfl
           rotate_left
           ·simp only [Act.put, zA, zB, zC, i64_w, i32_w]
            rfl
           refine take_ (i := 1) (N := some 65) (v := ?_) (a' := ?_) #[true, true, true, false, false, false, true, true, true, true, false, false, false, false, false, false, false, false, false, false, false, false, false, false, false, false, false, false] rfl rfl (take_ofW HT_.out HW_.out (by kernel_rfl)) (fun _ _ _ h => h) (Or.inl ⟨by rfl, ?_⟩) hHeld ?_ ?_
           rotate_left
           ·rintro w' ⟨s0, s1, s2, s3, s4, s5, s6⟩
            go_simp
            with_reducible rfl
           rotate_left
           ·simp only [Act.put, zA, zB, zC, i64_w, i32_w]
            rfl
           refine pure_ (i := 3) (N := some 67) (v := ?_) (a' := ?_) #[true, true, true, true, false, false, true, true, true, true, false, false, false, false, false, false, false, false, false, false, false, false, false, false, false, false, false, false] rfl rfl (any_of HT_.out (by kernel_rfl)) (fun _ _ _ h => h) (Or.inl ⟨by rfl, ?_⟩) ?_ ?_
           rotate_left
           ·intro w'
            go_simp
            with_reducible rfl
           rotate_left
           ·simp only [Act.put, zA, zB, zC, i64_w, i32_w]
            rfl
           refine pure_ (i := 4) (N := some 68) (v := ?_) (a' := ?_) #[true, true, true, true, true, false, true, true, true, true, false, false, false, false, false, false, false, false, false, false, false, false, false, false, false, false, false, false] rfl rfl (any_of HT_.out (by kernel_rfl)) (fun _ _ _ h => h) (Or.inl ⟨by rfl, ?_⟩) ?_ ?_
           rotate_left
           ·intro w'
            go_simp
            with_reducible rfl
           rotate_left
           ·simp only [Act.put, zA, zB, zC, i64_w, i32_w]
            rfl
           refine take_ (i := 5) (N := some 69) (v := ?_) (a' := ?_) #[true, true, true, true, true, true, true, true, true, true, false, false, false, false, false, false, false, false, false, false, false, false, false, false, false, false, false, false] rfl rfl (take_ofW HT_.out HW_.out (by kernel_rfl)) (fun _ _ _ h => h) (Or.inl ⟨by rfl, ?_⟩) hHeld ?_ ?_
           rotate_left
           ·rintro w' ⟨s0, s1, s2, s3, s4, s5, s6⟩
            go_simp
            with_reducible rfl
           rotate_left
           ·simp only [Act.put, zA, zB, zC, i64_w, i32_w]
            rfl
           refine take_ (i := 10) (N := some 74) (v := ?_) (a' := ?_) #[true, true, true, true, true, true, true, true, true, true, true, false, false, false, false, false, false, false, false, false, false, false, false, false, false, false, false, false] rfl rfl (take_ofW HT_.out HW_.out (by kernel_rfl)) (fun _ _ _ h => h) (Or.inl ⟨by rfl, ?_⟩) hHeld ?_ ?_
           rotate_left
           ·rintro w' ⟨s0, s1, s2, s3, s4, s5, s6⟩
            go_simp
            with_reducible rfl
           rotate_left
           ·simp only [Act.put, zA, zB, zC, i64_w, i32_w]
            rfl
           refine one_ (i := 11) (N := some 75) #[true, true, true, true, true, true, true, true, true, true, true, true, false, false, false, false, false, false, false, false, false, false, false, false, false, false, false, false] rfl rfl (one_of HT_.out (by kernel_rfl)) (by decide) (fun K hK => ?_)
           refine goes_ Try.func17 (by kernel_rfl) rfl #[.slice A462_0 ((rd_T49 l1_2 x11_2).f0).length c462_0, .slice A463_0 ((rd_T50 t448 x11_2).f0).length c463_0] (by rfl) rfl rfl (by (try simp only [yH, yI, yJ]); first | done | rfl | (simp only [yG, yF]; rfl)) ?_
           with_reducible refine (w19_rows.calls k2 _ _ ((rd_T49 l1_2 x11_2).f0) _ _ ((rd_T50 t448 x11_2).f0) false _ ?side1 ?side2 ?side3 ?side4 A40.out).mono ?_
           (case side1 => repeat (first | exact (yc HR462_0.out HB.out) | (with_reducible refine yS ?_ _) | (with_reducible refine yT ?_ _) | (with_reducible refine yU ?_)))
           (case side2 => exact HC462_0.out)
           (case side3 => repeat (first | exact (by repeat (first | (with_reducible exact HR463_0.out) | (with_reducible refine yS ?_ _) | (with_reducible refine yT ?_ _) | (with_reducible refine yU ?_) | exact HR463_0.out)) | (with_reducible refine yS ?_ _) | (with_reducible refine yT ?_ _) | (with_reducible refine yU ?_)))
           (case side4 => exact HC463_0.out)
           rintro e w' ⟨rfl, ⟨nd, rfl⟩⟩
           refine ⟨_, rfl, ?_⟩
           refine hK.out _ _ ⟨(zO Z0.out 0).trans rfl, (zO Z0.out 1).trans rfl, (zO Z0.out 2).trans rfl, ((HB.out.cell (World.block_lt_of_cell? w _ hw462_0)).trans hw462_0), ((HB.out.cell (World.block_lt_of_cell? w _ hw462_1)).trans hw462_1), hHeld.2.2.2.2.2.1, hHeld.2.2.2.2.2.2⟩ (fun hHeld => ?_)
           clear hK K
           refine norm_ (a' := ?_) ?_ ?_
           rotate_left
           ·show Act.put _ (some 75) _ = _
            simp only [Act.put, zA, zB, zC, i64_w, i32_w]
            rfl
           refine pure_ (i := 12) (N := some 76) (v := ?_) (a' := ?_) #[true, true, true, true, true, true, true, true, true, true, true, true, true, false, false, false, false, false, false, false, false, false, false, false, false, false, false, false] rfl rfl (any_of HT_.out (by kernel_rfl)) (fun _ _ _ h => h) (Or.inl ⟨by rfl, ?_⟩) ?_ ?_
           rotate_left
           ·intro w'
            go_simp
            with_reducible rfl
           rotate_left
           ·simp only [Act.put, zA, zB, zC, i64_w, i32_w]
            rfl
           refine pure_ (i := 13) (N := some 77) (v := ?_) (a' := ?_) #[true, true, true, true, true, true, true, true, true, true, true, true, true, true, false, false, false, false, false, false, false, false, false, false, false, false, false, false] rfl rfl (any_of HT_.out (by kernel_rfl)) (fun _ _ _ h => h) (Or.inl ⟨by rfl, ?_⟩) ?_ ?_
           rotate_left
           ·intro w'
            go_simp
            with_reducible rfl
           rotate_left
           ·simp only [Act.put, zA, zB, zC, i64_w, i32_w]
            rfl
           refine pure_ (i := 14) (N := some 78) (v := undef) (a' := ?_) #[true, true, true, true, true, true, true, true, true, true, true, true, true, true, true, false, false, false, false, false, false, false, false, false, false, false, false, false] rfl rfl (any_of HT_.out (by kernel_rfl)) (fun _ _ _ h => h) (Or.inr ⟨by rfl, rfl⟩) ?_ ?_
           rotate_left
           ·simp only [Act.put, zA, zB, zC, i64_w, i32_w]
            rfl
           refine pure_ (i := 15) (N := some 79) (v := undef) (a' := ?_) #[true, true, true, true, true, true, true, true, true, true, true, true, true, true, true, true, false, false, false, false, false, false, false, false, false, false, false, false] rfl rfl (any_of HT_.out (by kernel_rfl)) (fun _ _ _ h => h) (Or.inr ⟨by rfl, rfl⟩) ?_ ?_
           rotate_left
           ·simp only [Act.put, zA, zB, zC, i64_w, i32_w]
            rfl
           refine pure_ (i := 16) (N := some 80) (v := undef) (a' := ?_) #[true, true, true, true, true, true, true, true, true, true, true, true, true, true, true, true, true, false, false, false, false, false, false, false, false, false, false, false] rfl rfl (any_of HT_.out (by kernel_rfl)) (fun _ _ _ h => h) (Or.inr ⟨by rfl, rfl⟩) ?_ ?_
           rotate_left
           ·simp only [Act.put, zA, zB, zC, i64_w, i32_w]
            rfl
           refine pure_ (i := 17) (N := some 81) (v := undef) (a' := ?_) #[true, true, true, true, true, true, true, true, true, true, true, true, true, true, true, true, true, true, false, false, false, false, false, false, false, false, false, false] rfl rfl (any_of HT_.out (by kernel_rfl)) (fun _ _ _ h => h) (Or.inr ⟨by rfl, rfl⟩) ?_ ?_
           rotate_left
           ·simp only [Act.put, zA, zB, zC, i64_w, i32_w]
            rfl
           refine pure_ (i := 18) (N := some 82) (v := undef) (a' := ?_) #[true, true, true, true, true, true, true, true, true, true, true, true, true, true, true, true, true, true, true, false, false, false, false, false, false, false, false, false] rfl rfl (any_of HT_.out (by kernel_rfl)) (fun _ _ _ h => h) (Or.inr ⟨by rfl, rfl⟩) ?_ ?_
           rotate_left
           ·simp only [Act.put, zA, zB, zC, i64_w, i32_w]
            rfl
           refine pure_ (i := 19) (N := some 83) (v := undef) (a' := ?_) #[true, true, true, true, true, true, true, true, true, true, true, true, true, true, true, true, true, true, true, true, false, false, false, false, false, false, false, false] rfl rfl (any_of HT_.out (by kernel_rfl)) (fun _ _ _ h => h) (Or.inr ⟨by rfl, rfl⟩) ?_ ?_
           rotate_left
           ·simp only [Act.put, zA, zB, zC, i64_w, i32_w]
            rfl
           refine pure_ (i := 20) (N := some 84) (v := undef) (a' := ?_) #[true, true, true, true, true, true, true, true, true, true, true, true, true, true, true, true, true, true, true, true, true, false, false, false, false, false, false, false] rfl rfl (any_of HT_.out (by kernel_rfl)) (fun _ _ _ h => h) (Or.inr ⟨by rfl, rfl⟩) ?_ ?_
           rotate_left
           ·simp only [Act.put, zA, zB, zC, i64_w, i32_w]
            rfl
           refine pure_ (i := 21) (N := some 85) (v := undef) (a' := ?_) #[true, true, true, true, true, true, true, true, true, true, true, true, true, true, true, true, true, true, true, true, true, true, false, false, false, false, false, false] rfl rfl (any_of HT_.out (by kernel_rfl)) (fun _ _ _ h => h) (Or.inr ⟨by rfl, rfl⟩) ?_ ?_
           rotate_left
           ·simp only [Act.put, zA, zB, zC, i64_w, i32_w]
            rfl
           refine pure_ (i := 22) (N := some 86) (v := undef) (a' := ?_) #[true, true, true, true, true, true, true, true, true, true, true, true, true, true, true, true, true, true, true, true, true, true, true, false, false, false, false, false] rfl rfl (any_of HT_.out (by kernel_rfl)) (fun _ _ _ h => h) (Or.inr ⟨by rfl, rfl⟩) ?_ ?_
           rotate_left
           ·simp only [Act.put, zA, zB, zC, i64_w, i32_w]
            rfl
           refine pure_ (i := 23) (N := some 87) (v := undef) (a' := ?_) #[true, true, true, true, true, true, true, true, true, true, true, true, true, true, true, true, true, true, true, true, true, true, true, true, false, false, false, false] rfl rfl (any_of HT_.out (by kernel_rfl)) (fun _ _ _ h => h) (Or.inr ⟨by rfl, rfl⟩) ?_ ?_
           rotate_left
           ·simp only [Act.put, zA, zB, zC, i64_w, i32_w]
            rfl
           refine pure_ (i := 24) (N := some 88) (v := undef) (a' := ?_) #[true, true, true, true, true, true, true, true, true, true, true, true, true, true, true, true, true, true, true, true, true, true, true, true, true, false, false, false] rfl rfl (any_of HT_.out (by kernel_rfl)) (fun _ _ _ h => h) (Or.inr ⟨by rfl, rfl⟩) ?_ ?_
           rotate_left
           ·simp only [Act.put, zA, zB, zC, i64_w, i32_w]
            rfl
           refine pure_ (i := 25) (N := some 89) (v := undef) (a' := ?_) #[true, true, true, true, true, true, true, true, true, true, true, true, true, true, true, true, true, true, true, true, true, true, true, true, true, true, false, false] rfl rfl (any_of HT_.out (by kernel_rfl)) (fun _ _ _ h => h) (Or.inr ⟨by rfl, rfl⟩) ?_ ?_
           rotate_left
           ·simp only [Act.put, zA, zB, zC, i64_w, i32_w]
            rfl
           refine pure_ (i := 26) (N := some 90) (v := undef) (a' := ?_) #[true, true, true, true, true, true, true, true, true, true, true, true, true, true, true, true, true, true, true, true, true, true, true, true, true, true, true, false] rfl rfl (any_of HT_.out (by kernel_rfl)) (fun _ _ _ h => h) (Or.inr ⟨by rfl, rfl⟩) ?_ ?_
           rotate_left
           ·simp only [Act.put, zA, zB, zC, i64_w, i32_w]
            rfl
           refine pure_ (i := 27) (N := some 91) (v := ?_) (a' := ?_) #[true, true, true, true, true, true, true, true, true, true, true, true, true, true, true, true, true, true, true, true, true, true, true, true, true, true, true, true] rfl rfl (any_of HT_.out (by kernel_rfl)) (fun _ _ _ h => h) (Or.inl ⟨by rfl, ?_⟩) ?_ ?_
           rotate_left
           ·intro w'
            go_simp
            with_reducible rfl
           rotate_left
           ·simp only [Act.put, zA, zB, zC, i64_w, i32_w]
            rfl
           refine done_ (done_of HT_.out (by kernel_rfl)) ?_
           try go_wp2
           go_ret
           exact ⟨by first | rfl | (simp [errW_none, errW_some] <;> rfl) | (simp [*, errW_none, errW_some] <;> rfl), by repeat (first | (with_reducible first | exact HB.out | apply zJ | apply zD | apply zE | refine zI ?_ Z1.out) | exact HB.out)⟩
         ·rw [if_neg c39] at H
          exact absurd H (by simp)
        ·rw [if_neg c38] at H
         exact absurd H (by simp)
       ·rw [if_neg c37] at H
        have c37b0 : decide (x11_2 < (t448.length : Int)) = false := yD c37
        clear c37
        obtain rfl := yY H
        go_wp2
        go_ret
        exact ⟨by first | rfl | (simp [errW_none, errW_some] <;> rfl) | (simp [*, errW_none, errW_some] <;> rfl), by repeat (first | (with_reducible first | exact HB.out | apply zJ | apply zD | apply zE | refine zI ?_ Z1.out) | exact HB.out)⟩
 ·rw [if_neg c3] at H
  exact absurd H (by simp)

end Go.Proofs.Ytmjepdhjginelaa.B
