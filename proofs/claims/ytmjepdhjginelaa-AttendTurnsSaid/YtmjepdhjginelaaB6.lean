-- Printed by this session's own driver (wip/tools/xprint.py) over the kit's printer; given functions are this session's own.
import Derived.Test.YtmjepdhjginelaaB0
import Derived.Test.YtmjepdhjginelaaB1
import Derived.Test.YtmjepdhjginelaaB4
import Derived.Test.YtmjepdhjginelaaB5
namespace Go.Proofs.Ytmjepdhjginelaa.B
open Go.RowKit Go.Proofs.YtmjepdhjginelaaW.PrintWords Go.Proofs.YtmjepdhjginelaaW.PrintLast Go.Proofs.YtmjepdhjginelaaW.PrintMore
attribute [local go_sem] max2_int min2_int max_two min_two max_three min_three max_four min_four   -- for this text's walks alone
set_option linter.unusedVariables false
set_option linter.unusedSimpArgs false

/-! ### attend_Look: function 19 -/
mutual
def attend_Look.j0 : Nat → List Int → Int → List (S49) → Int → Bool → Option (List Int × Int)
 | 0, _, _, _, _, _ => none
 | k + 1, x0, x1, x2, x3, x28 => if x28 = true then (some (([] : List Int), 190)) else (attend_Look.l0 k x0 x1 x3 ([] : List (List Int)) ([] : List (List Int)) x2 (x2.length : Int) 0)
def attend_Look.l0 : Nat → List Int → Int → Int → List (List Int) → List (List Int) → List (S49) → Int → Int → Option (List Int × Int)
 | 0, _, _, _, _, _, _, _, _ => none
 | k + 1, x0, x1, x3, x10, x11, x29, x30, x31 => if x31 < x30 then (if 0 ≤ x31 then (if x31 < (x29.length : Int) then ((some (([(rd_T49 x29 x31).f0] : List (List Int)) : List (List Int))).bind fun y196 => (if x10.length + y196.length < 5864062014805 then ((some (([(rd_T49 x29 x31).f1] : List (List Int)) : List (List Int))).bind fun y202 => (if x11.length + y202.length < 5864062014805 then (attend_Look.l0 k x0 x1 x3 (x10 ++ y196) (x11 ++ y202) x29 x30 (wrap64 (x31 + 1))) else (none))) else (none))) else (none)) else (none)) else ((attend_fit.f k x0 x10).bind fun t208 => (if t208 = true then ((attend_fit.f k x0 x11).bind fun t209 => (attend_Look.j2 k x0 x1 x3 x10 x11 (!t209))) else (attend_Look.j2 k x0 x1 x3 x10 x11 true)))
def attend_Look.j2 : Nat → List Int → Int → Int → List (List Int) → List (List Int) → Bool → Option (List Int × Int)
 | 0, _, _, _, _, _, _ => none
 | k + 1, x0, x1, x3, x10, x11, x46 => if x46 = true then (some (([] : List Int), 191)) else (if x3 < 0 then (some (([] : List Int), 20)) else (if x3 > 31 then (some (([] : List Int), 20)) else (if x1 = 0 then (none) else (attend_Look.l1 k x0 x3 x10 x11 ([] : List Int) (wrap64 ((x0.length : Int) / x1)) 0))))
def attend_Look.l1 : Nat → List Int → Int → List (List Int) → List (List Int) → List Int → Int → Int → Option (List Int × Int)
 | 0, _, _, _, _, _, _, _ => none
 | k + 1, x0, x3, x10, x11, x15, Y0, Y1 => if Y1 < (x0.length : Int) then (if 0 ≤ Y1 then (if Y1 ≤ (wrap64 (Y1 + Y0)) then (if (wrap64 (Y1 + Y0)) ≤ (x0.length : Int) then ((attend_Look_1.f k x10 Y1 Y0).bind fun t213 => ((attend_Look_1.f k x11 Y1 Y0).bind fun t216 => ((attend_Head.f k ((x0.take ((wrap64 (Y1 + Y0)) : Int).toNat).drop (Y1 : Int).toNat) t213 t216 x3).bind fun bt219 => (if bt219.2 = 0 then (if x15.length + bt219.1.length < 140737488355328 then (attend_Look.l1 k x0 x3 x10 x11 (x15 ++ bt219.1) Y0 (wrap64 (Y1 + Y0))) else (none)) else (some (([] : List Int), bt219.2)))))) else (none)) else (none)) else (none)) else (some (x15, 0))
end
def attend_Look.f (k : Nat) (l0 : List Int) (a1 : Int) (l2 : List (S49)) (a3 : Int) : Option (List Int × Int) := if a1 < 1 then (attend_Look.j0 k l0 a1 l2 a3 true) else (if a1 = 0 then (none) else (attend_Look.j0 k l0 a1 l2 a3 (((l0.length : Int) % a1) != 0)))
theorem attend_Look.mono_l : ∀ k, (∀ y0 y1 y2 y3 y4, LeO (attend_Look.j0 k y0 y1 y2 y3 y4) (attend_Look.j0 (k + 1) y0 y1 y2 y3 y4)) ∧ (∀ y0 y1 y2 y3 y4 y5 y6 y7, LeO (attend_Look.l0 k y0 y1 y2 y3 y4 y5 y6 y7) (attend_Look.l0 (k + 1) y0 y1 y2 y3 y4 y5 y6 y7)) ∧ (∀ y0 y1 y2 y3 y4 y5, LeO (attend_Look.j2 k y0 y1 y2 y3 y4 y5) (attend_Look.j2 (k + 1) y0 y1 y2 y3 y4 y5)) ∧ (∀ y0 y1 y2 y3 y4 y5 y6, LeO (attend_Look.l1 k y0 y1 y2 y3 y4 y5 y6) (attend_Look.l1 (k + 1) y0 y1 y2 y3 y4 y5 y6))
 | 0 => ⟨fun _ _ _ _ _ r h => by simp [attend_Look.j0] at h, fun _ _ _ _ _ _ _ _ r h => by simp [attend_Look.l0] at h, fun _ _ _ _ _ _ r h => by simp [attend_Look.j2] at h, fun _ _ _ _ _ _ _ r h => by simp [attend_Look.l1] at h⟩
 | k + 1 => by
  obtain ⟨ih0, ih1, ih2, ih3⟩ := attend_Look.mono_l k
  refine ⟨?_, ?_, ?_, ?_⟩ <;> (intros; first | unfold attend_Look.j0 | unfold attend_Look.l0 | unfold attend_Look.j2 | unfold attend_Look.l1)
  all_goals repeat' first
   | (with_reducible exact ih0 _ _ _ _ _)
   | (with_reducible exact ih1 _ _ _ _ _ _ _ _)
   | (with_reducible exact ih2 _ _ _ _ _ _)
   | (with_reducible exact ih3 _ _ _ _ _ _ _)
   | (with_reducible exact attend_Head.mono _ _ _ _ _)
   | (with_reducible exact attend_Look_1.mono _ _ _ _)
   | (with_reducible exact attend_fit.mono _ _ _)
   | (with_reducible exact yR _)
   | (with_reducible exact yO _)
   | (with_reducible refine yQ ?_ ?_)
   | (with_reducible refine yP ?_ (fun _ => ?_))
   | exact ih0 _ _ _ _ _
   | exact ih1 _ _ _ _ _ _ _ _
   | exact ih2 _ _ _ _ _ _
   | exact ih3 _ _ _ _ _ _ _
   | exact attend_Head.mono _ _ _ _ _
   | exact attend_Look_1.mono _ _ _ _
   | exact attend_fit.mono _ _ _
   | exact yO _
   | refine yQ ?_ ?_
   | refine yP ?_ (fun _ => ?_)
theorem attend_Look.mono : ∀ a0 a1 a2 a3 k, LeO (attend_Look.f k a0 a1 a2 a3) (attend_Look.f (k + 1) a0 a1 a2 a3) := by
 intro a0 a1 a2 a3 k
 obtain ⟨ih0, ih1, ih2, ih3⟩ := attend_Look.mono_l k
 unfold attend_Look.f
 repeat' first
   | (with_reducible exact ih0 _ _ _ _ _)
   | (with_reducible exact ih1 _ _ _ _ _ _ _ _)
   | (with_reducible exact ih2 _ _ _ _ _ _)
   | (with_reducible exact ih3 _ _ _ _ _ _ _)
   | (with_reducible exact attend_Head.mono _ _ _ _ _)
   | (with_reducible exact attend_Look_1.mono _ _ _ _)
   | (with_reducible exact attend_fit.mono _ _ _)
   | (with_reducible exact yR _)
   | (with_reducible exact yO _)
   | (with_reducible refine yQ ?_ ?_)
   | (with_reducible refine yP ?_ (fun _ => ?_))
   | exact ih0 _ _ _ _ _
   | exact ih1 _ _ _ _ _ _ _ _
   | exact ih2 _ _ _ _ _ _
   | exact ih3 _ _ _ _ _ _ _
   | exact attend_Head.mono _ _ _ _ _
   | exact attend_Look_1.mono _ _ _ _
   | exact attend_fit.mono _ _ _
   | exact yO _
   | refine yQ ?_ ?_
   | refine yP ?_ (fun _ => ?_)
def attend_Look.T7 : Bool × List (List Nat × List Nat) := (true, [([], []), ([], []), ([1], [1]), ([2], [2]), ([0, 3], [0, 3]), ([], []), ([], []), ([6], [6]), ([7], [7]), ([5, 8, 4], [5, 8]), ([4, 9, 0, 1, 2, 3, 4], [0, 4]), ([9, 10, 0, 1, 2, 3, 4, 5, 6, 7, 8, 9, 10], [5, 9])])
def attend_Look.B7 : List Nat := [0, 0, 2, 6, 15, 0, 0, 64, 192, 511, 1023, 2047]
theorem attend_Look.tab7 : rtab .any (opsOf Try.f19 7) = attend_Look.T7 := by kernel_rfl
theorem attend_Look.bits7 : waitsOk attend_Look.T7.2 attend_Look.B7 = true := by kernel_rfl
def attend_Look.T19 : Bool × List (List Nat × List Nat) := (true, [([], []), ([], []), ([], []), ([], []), ([2, 3], [2, 3]), ([0, 1, 4], [0, 1, 4]), ([], []), ([], []), ([6, 7], [6, 7]), ([], []), ([], []), ([9, 10, 8], [9, 10]), ([], []), ([5, 8, 11, 12, 11], [5, 8, 11, 12]), ([13], [13]), ([14], [14]), ([14], [14]), ([15, 13, 0, 1, 2, 3, 4, 5, 6, 7, 8, 9, 10, 11, 12, 13, 14, 15], [15]), ([16, 17, 0, 1, 2, 3, 4, 5, 6, 7, 8, 9, 10, 11, 12, 13, 14, 15, 16, 17], [16])])
def attend_Look.B19 : List Nat := [0, 0, 0, 0, 12, 31, 0, 0, 192, 0, 0, 1984, 0, 8191, 16383, 32767, 32767, 65535, 262143]
theorem attend_Look.tab19 : rtab .any (opsOf Try.f19 19) = attend_Look.T19 := by kernel_rfl
theorem attend_Look.bits19 : waitsOk attend_Look.T19.2 attend_Look.B19 = true := by kernel_rfl
set_option maxHeartbeats 8000000 in
set_option maxRecDepth 100000 in
theorem attend_Look.calls (k : Nat) (A0 : Option Addr) (c0 : Nat) (l0 : List Int) (a1 : Int) (P2_ : Nat → Prop) (A2 : Option Addr) (c2 : Nat) (l2 : List (S49)) (a3 : Int) (r1 : List Int) (r2 : Int) (w : World) (hr0 : Kd.C (Kd.int .i8) w A0 l0.length l0) (hc0 : l0.length ≤ c0) (hs2 : Kd.V k49 49 w w.heap.size (fun k_ => P2_ k_) (.slice A2 l2.length c2) l2) (h : attend_Look.f k l0 a1 l2 a3 = some (r1, r2)) :
  Calls Try.prog 19 #[.slice A0 l0.length c0, .int .i64 a1, .slice A2 l2.length c2, .int .i64 a3] w fun e w' => ∃ v0_ : Value, e = .returned (.tuple #[v0_, .int .i64 r2]) ∧ Kd.R (Kd.int .i8) 53 w' w.heap.size (fun k_ => (w.heap.size ≤ k_)) v0_ r1 ∧ Below w.heap.size w w' := by
 have hu49 := Try.underlying49
 have HR0 := zK hr0
 have HC0 := zK hc0
 clear hr0 hc0
 have HO2 := zK (show Kd.V k49 49 w w.heap.size (fun k_ => (P2_ k_ ∨ w.heap.size ≤ k_)) (.slice A2 l2.length c2) l2 from Kd.V_mono hs2 (fun k_ hk => .inl hk))
 have HB := zK (Below.refl w.heap.size w)
 have H : (if a1 < 1 then (attend_Look.j0 k l0 a1 l2 a3 true) else (if a1 = 0 then (none) else (attend_Look.j0 k l0 a1 l2 a3 (((l0.length : Int) % a1) != 0)))) = some (r1, r2) := h
 clear h
 have HC5 := zK H
 clear H
 go_enter Try.func19, Try.ntmps19
 go_upto_region 1 with (fail)
 go_cut [28] (fun v28 wc => ∃ (kq : Nat) (x28_4 : Bool), v28 = .bool x28_4 ∧ Aside0 (attend_Look.j0 kq l0 a1 l2 a3 x28_4 = some (r1, r2)) ∧ Aside0 (kq ≤ k) ∧ Aside0 (Kd.V k49 49 wc w.heap.size (fun k_ => (P2_ k_ ∨ w.heap.size ≤ k_)) (.slice A2 l2.length c2) l2) ∧ Aside0 (Below w.heap.size w wc))
 case first =>
  have H := HC5.out
  clear HC5
  by_cases c6 : a1 < 1
  ·rw [if_pos c6] at H
   have c6b0 : decide (a1 < 1) = true := yC c6
   clear c6
   (first | rw [c6b0] | (simp only [i64_w, i32_w]; rw [c6b0]) | skip)
   have H' := zK H
   clear H
   go_wp2
   go_meet
   case rel => exact ⟨_, (true), (by first | rfl | (simp; done) | (simp [*]; done)), H', ⟨by first | omega | exact yN _⟩, ⟨by (with_reducible repeat (first | apply Kd.V_alloc | apply Kd.V_drewN | apply Kd.V_drew)); exact HO2.out⟩, ⟨by repeat (first | (with_reducible first | exact HB.out | apply zJ | apply zD | apply zE) | exact HB.out)⟩⟩
  ·rw [if_neg c6] at H
   have c6b0 : decide (a1 < 1) = false := yD c6
   clear c6
   (first | rw [c6b0] | (simp only [i64_w, i32_w]; rw [c6b0]) | skip)
   by_cases c7 : a1 = 0
   ·rw [if_pos c7] at H
    exact absurd H (by simp)
   ·rw [if_neg c7] at H
    have c7b0 : (a1 == 0) = false := beq_eq_false_iff_ne.mpr c7
    have c7b1 : (a1 != 0) = true := bne_iff_ne.mpr c7
    have H' := zK H
    clear H
    go_wp2
    go_meet
    case rel => exact ⟨_, ((((l0.length : Int) % a1) != 0)), (by first | rfl | (simp; done) | (simp [*]; done)), H', ⟨by first | omega | exact yN _⟩, ⟨by (with_reducible repeat (first | apply Kd.V_alloc | apply Kd.V_drewN | apply Kd.V_drew)); exact HO2.out⟩, ⟨by repeat (first | (with_reducible first | exact HB.out | apply zJ | apply zD | apply zE) | exact HB.out)⟩⟩
 case rest =>
  clear HC5
  try clear c1
  try clear c2
  try clear p2
  try clear c6
  try clear c6b0
  try clear c7
  try clear c7b0
  try clear c7b1
  obtain ⟨kq, x28_4, rfl, HA, HJ4, HO_2, HB⟩ := hcut
  cases kq with
  | zero => exact absurd HA.out (by simp [attend_Look.j0])
  | succ kj4 =>
   have H := HA.out
   clear HA
   simp only [attend_Look.j0] at H
   by_cases c8 : x28_4 = true
   ·subst c8
    have H1 : (some (([] : List Int), 190)) = some (r1, r2) := by rw [if_pos rfl] at H; exact H
    clear H
    have H := H1
    clear H1
    simp only [yZ, ya] at H
    obtain ⟨rfl, rfl⟩ := H
    go_wp2
    go_ret2
    exact ⟨_, by first | rfl | (simp [errW_none, errW_some] <;> rfl) | (simp [*, errW_none, errW_some] <;> rfl), by first | exact Kd.R_nil _ _ _ _ _ | exact Kd.N_nil _ _ _ _ _ | exact Kd.V_nil _ _ _ _ _ | exact Kd.Q_nil _ _ _ _ _ | exact Kd.S_nil _ _ _ _ _, by repeat (first | (with_reducible first | exact HB.out | apply zJ | apply zD | apply zE) | exact HB.out)⟩
   ·replace c8 := yh.mpr c8
    subst c8
    have H1 : (attend_Look.l0 kj4 l0 a1 a3 ([] : List (List Int)) ([] : List (List Int)) l2 (l2.length : Int) 0) = some (r1, r2) := by rw [if_neg (show ¬ (false = true) by decide)] at H; exact H
    clear H
    have H := H1
    clear H1
    have H' := zK H
    clear H
    go_wp2
    go_loopg [10, 11, 31] kj4 (fun kq v10 v11 v31 w' => ∃ (x10_2 : List (List Int)) (x11_2 : List (List Int)) (x31_2 : Int), v31 = .int .i64 x31_2 ∧ Aside0 (attend_Look.l0 kq l0 a1 a3 x10_2 x11_2 l2 (l2.length : Int) x31_2 = some (r1, r2)) ∧ Aside0 (kq ≤ kj4) ∧ Aside0 (Kd.N (Kd.slice 53 (Kd.int .i8)) 22 w' w.heap.size (fun k_ => (P2_ k_ ∨ w.heap.size ≤ k_) ∧ some k_ ≠ (v11 : Value).ownBlock) v10 x10_2) ∧ Aside0 (Kd.N (Kd.slice 53 (Kd.int .i8)) 22 w' w.heap.size (fun k_ => (P2_ k_ ∨ w.heap.size ≤ k_) ∧ some k_ ≠ (v10 : Value).ownBlock) v11 x11_2) ∧ Aside0 (Kd.V k49 49 w' w.heap.size (fun k_ => (P2_ k_ ∨ w.heap.size ≤ k_) ∧ some k_ ≠ (v10 : Value).ownBlock ∧ some k_ ≠ (v11 : Value).ownBlock) (.slice A2 l2.length c2) l2) ∧ Aside0 (Below w.heap.size w w'))
    case atStart => exact ⟨(([] : List (List Int))), (([] : List (List Int))), (0), (by first | rfl | (simp; done) | (simp [*]; done)), H', ⟨yN _⟩, ⟨by first | exact Kd.S_nil _ _ _ _ _ | exact Kd.N_nil _ _ _ _ _ | exact Kd.V_nil _ _ _ _ _ | exact Kd.Q_nil _ _ _ _ _ | exact Kd.R_nil _ _ _ _ _⟩, ⟨by first | exact Kd.S_nil _ _ _ _ _ | exact Kd.N_nil _ _ _ _ _ | exact Kd.V_nil _ _ _ _ _ | exact Kd.Q_nil _ _ _ _ _ | exact Kd.R_nil _ _ _ _ _⟩, ⟨by (with_reducible repeat (first | apply Kd.V_alloc | apply Kd.V_drewN | apply Kd.V_drew)); exact Kd.V_mono HO_2.out (fun _ hk => ⟨hk, ⟨(by simp [Value.ownBlock]), (by simp [Value.ownBlock])⟩⟩)⟩, ⟨by repeat (first | (with_reducible first | exact HB.out | apply zJ | apply zD | apply zE) | exact HB.out)⟩⟩
    case round =>
     clear H'
     try clear c1
     try clear c2
     try clear p2
     try clear c6
     try clear c6b0
     try clear c7
     try clear c7b0
     try clear c7b1
     try clear c8
     try clear p2
     obtain ⟨x10_2, x11_2, x31_2, rfl, HA, HK2, HO_10, HO_11, HO_29, HB⟩ := hrel
     cases gk with
     | zero => exact absurd HA.out (by simp [attend_Look.l0])
     | succ k2 =>
      have H := HA.out
      clear HA
      simp only [attend_Look.l0] at H
      by_cases c9 : x31_2 < (l2.length : Int)
      ·rw [if_pos c9] at H
       have c9b0 : decide (x31_2 < (l2.length : Int)) = true := yC c9
       clear c9
       by_cases c10 : 0 ≤ x31_2
       ·rw [if_pos c10] at H
        have c10b0 : decide (0 ≤ x31_2) = true := yC c10
        clear c10
        by_cases c11 : x31_2 < (l2.length : Int)
        ·rw [if_pos c11] at H
         have c11b0 : decide (x31_2 < (l2.length : Int)) = true := yC c11
         clear c11
         obtain ⟨y196, hy196⟩ : ∃ y_ : List (List Int), y_ = (([(rd_T49 l2 x31_2).f0] : List (List Int))) := ⟨_, rfl⟩
         replace H : (if x10_2.length + y196.length < 5864062014805 then ((some (([(rd_T49 l2 x31_2).f1] : List (List Int)) : List (List Int))).bind fun y202 => (if x11_2.length + y202.length < 5864062014805 then (attend_Look.l0 k2 l0 a1 a3 (x10_2 ++ y196) (x11_2 ++ y202) l2 (l2.length : Int) (wrap64 (x31_2 + 1))) else (none))) else (none)) = some (r1, r2) := by first | (rw [hy196]; with_reducible exact H) | (have H2_ := (yV _ _).symm.trans H; rw [hy196]; with_reducible exact H2_) | (have H2_ := (yV _ _).symm.trans H; with_reducible exact H2_) | with_reducible exact H | (rw [hy196]; exact H) | exact H
         have Ny196 := zK hy196
         clear hy196
         by_cases c12 : x10_2.length + y196.length < 5864062014805
         ·rw [if_pos c12] at H
          have LMc12 := zK c12
          clear c12
          obtain ⟨y199, hy199⟩ : ∃ y_ : List (List Int), y_ = (x10_2 ++ y196) := ⟨_, rfl⟩
          replace H : ((some (([(rd_T49 l2 x31_2).f1] : List (List Int)) : List (List Int))).bind fun y202 => (if x11_2.length + y202.length < 5864062014805 then (attend_Look.l0 k2 l0 a1 a3 y199 (x11_2 ++ y202) l2 (l2.length : Int) (wrap64 (x31_2 + 1))) else (none))) = some (r1, r2) := by first | (rw [hy199]; with_reducible exact H) | (have H2_ := (yV _ _).symm.trans H; rw [hy199]; with_reducible exact H2_) | (have H2_ := (yV _ _).symm.trans H; with_reducible exact H2_) | with_reducible exact H | (rw [hy199]; exact H) | exact H
          have Ny199 := zK hy199
          clear hy199
          obtain ⟨y202, hy202⟩ : ∃ y_ : List (List Int), y_ = (([(rd_T49 l2 x31_2).f1] : List (List Int))) := ⟨_, rfl⟩
          replace H : (if x11_2.length + y202.length < 5864062014805 then (attend_Look.l0 k2 l0 a1 a3 y199 (x11_2 ++ y202) l2 (l2.length : Int) (wrap64 (x31_2 + 1))) else (none)) = some (r1, r2) := by first | (rw [hy202]; with_reducible exact H) | (have H2_ := (yV _ _).symm.trans H; rw [hy202]; with_reducible exact H2_) | (have H2_ := (yV _ _).symm.trans H; with_reducible exact H2_) | with_reducible exact H | (rw [hy202]; exact H) | exact H
          have Ny202 := zK hy202
          clear hy202
          by_cases c13 : x11_2.length + y202.length < 5864062014805
          ·rw [if_pos c13] at H
           have LMc13 := zK c13
           clear c13
           obtain ⟨y205, hy205⟩ : ∃ y_ : List (List Int), y_ = (x11_2 ++ y202) := ⟨_, rfl⟩
           replace H : (attend_Look.l0 k2 l0 a1 a3 y199 y205 l2 (l2.length : Int) (wrap64 (x31_2 + 1))) = some (r1, r2) := by first | (rw [hy205]; with_reducible exact H) | (have H2_ := (yV _ _).symm.trans H; rw [hy205]; with_reducible exact H2_) | (have H2_ := (yV _ _).symm.trans H; with_reducible exact H2_) | with_reducible exact H | (rw [hy205]; exact H) | exact H
           have Ny205 := zK hy205
           clear hy205
           have H' := zK H
           clear H
           have p194 : 0 ≤ (x31_2 : Int) := yB (by first | (with_reducible assumption) | assumption)
           have q194 : x31_2 < (l2.length : Int) := yB (by first | (with_reducible assumption) | assumption)
           obtain ⟨ad194, A194_0, c194_0, A194_1, c194_1, e194, hx194_0, hx194_1, hl194_0, hi194_0, hl194_1, hi194_1⟩ := at_T49 (Kd.V_reads' HO_29.out).2.2 x31_2 p194 q194
           cases e194
           obtain ⟨ce194, hce194, hMe194, hcc194⟩ := Kd.V_get HO_29.out z49 x31_2 p194 (by first | exact q194 | exact yB (by first | (with_reducible assumption) | assumption) | (have e_ := (Kd.V_reads' HO_29.out).1; omega))
           obtain ⟨ua194_0, uc194_0, ua194_1, uc194_1, rfl, ul194_0, ge194_0, ul194_1, ge194_1⟩ := k49_openF hMe194
           have hv194_0 := hcc194 0 _ rfl
           rw [Nat.add_zero] at hv194_0
           replace hv194_0 := yY (hv194_0.symm.trans hx194_0)
           injection hv194_0 with hva_ hvn_ hvc_
           rw [hva_] at ge194_0
           rw [hvc_] at ul194_0
           have HL194_0 := zK (show Kd.V (Kd.int .i8) 53 _ w.heap.size _ _ ((rd_T49 l2 x31_2).f0) from Kd.V_mk ul194_0 ge194_0)
           clear hva_ hvn_ hvc_ ge194_0 ul194_0
           have hv194_1 := hcc194 1 _ rfl
           rw [add_field _ _ 1 (by omega)] at hv194_1
           replace hv194_1 := yY (hv194_1.symm.trans hx194_1)
           injection hv194_1 with hva_ hvn_ hvc_
           rw [hva_] at ge194_1
           rw [hvc_] at ul194_1
           have HL194_1 := zK (show Kd.V (Kd.int .i8) 53 _ w.heap.size _ _ ((rd_T49 l2 x31_2).f1) from Kd.V_mk ul194_1 ge194_1)
           clear hva_ hvn_ hvc_ ge194_1 ul194_1 hcc194 hce194
           have HR194_0 := zK hi194_0
           have HC194_0 := zK hl194_0
           clear hi194_0 hl194_0
           have HR194_1 := zK hi194_1
           have HC194_1 := zK hl194_1
           clear hi194_1 hl194_1
           replace p194 := yg p194
           replace q194 := yg q194
           try go_wp2_with (first | ((with_reducible refine gate_dst (N := 13) rfl ?_); refine box_event ?hg (N := 13) ?hd (cs := #[.slice none 0 0, .slice none 0 0]) (t := 49) ?hr ?_; (case hd => rfl); (case hg => rfl); (case hr => first | (go_simp; done) | (go_simp; rfl)); intro Z18 hg w14 hbox hb; have n0_ := zK (Kd.N_below (Kd.N_elderB (by (with_reducible repeat (first | apply Kd.N_alloc | apply Kd.N_drewN | apply Kd.N_drew)); exact HO_10.out) Z18 (Nat.le_of_eq hg.symm)) hb); have n1_ := zK (Kd.N_below (Kd.N_elderB (by (with_reducible repeat (first | apply Kd.N_alloc | apply Kd.N_drewN | apply Kd.N_drew)); exact HO_11.out) Z18 (Nat.le_of_eq hg.symm)) hb); have n2_ := zK (Kd.V_below (Kd.V_elderB (by (with_reducible repeat (first | apply Kd.V_alloc | apply Kd.V_drewN | apply Kd.V_drew)); exact HO_29.out) Z18 (Nat.le_of_eq hg.symm)) hb); have n3_ := zK (Kd.V_below (Kd.V_elderB (by (with_reducible repeat (first | apply Kd.V_alloc | apply Kd.V_drewN | apply Kd.V_drew)); exact HL194_0.out) Z18 (Nat.le_of_eq hg.symm)) hb); have n4_ := zK (Kd.V_below (Kd.V_elderB (by (with_reducible repeat (first | apply Kd.V_alloc | apply Kd.V_drewN | apply Kd.V_drew)); exact HL194_1.out) Z18 (Nat.le_of_eq hg.symm)) hb); have n5_ := zK (yc (by repeat (first | (with_reducible exact HR194_0.out) | (with_reducible refine yS ?_ _) | (with_reducible refine yT ?_ _) | (with_reducible refine yU ?_) | exact HR194_0.out)) hb); have n6_ := zK (yc (by repeat (first | (with_reducible exact HR194_1.out) | (with_reducible refine yS ?_ _) | (with_reducible refine yT ?_ _) | (with_reducible refine yU ?_) | exact HR194_1.out)) hb); have n7_ := zK (yL (by repeat (first | (with_reducible first | exact HB.out | apply zJ | apply zD | apply zE) | exact HB.out)) hb); have n8_ := zK (hbox); have n9_ := zK ((by rw [hg]; exact (yK (by repeat (first | (with_reducible first | exact HB.out | apply zJ | apply zD | apply zE) | exact HB.out))) : w.heap.size ≤ Z18)); have n10_ := zK ((by rw [hg]; exact (yK (by repeat (first | (with_reducible first | exact HB.out | apply zJ | apply zD | apply zE) | exact HB.out))) : w.heap.size ≤ Z18)); clear HO_10 HO_11 HO_29 HL194_0 HL194_1 HR194_0 HR194_1 HB; have HO_10 := n0_; have HO_11 := n1_; have HO_29 := n2_; have HL194_0 := n3_; have HL194_1 := n4_; have HR194_0 := n5_; have HR194_1 := n6_; have HB := n7_; have Z0 := n8_; have Z8 := n9_; have Z4 := n10_; clear n0_ n1_ n2_ n3_ n4_ n5_ n6_ n7_ n8_ n9_ n10_ hb hbox hg; have hcz15_0 : w14.cell? ⟨Z18, 0, none⟩ = some (.slice none 0 0) := (zO Z0.out 0).trans rfl; have hcz15_1 : w14.cell? ⟨Z18, 1, none⟩ = some (.slice none 0 0) := (zO Z0.out 1).trans rfl; have hfz15_0 := yE Z0.out 0; have hfz15_1 := yE Z0.out 1; obtain ⟨Ao16, co16, eo16⟩ := Kd.N_slice HO_10.out; subst eo16; obtain ⟨Ao17, co17, eo17⟩ := Kd.N_slice HO_11.out; subst eo17))
           have n0_ : Aside0 (Kd.N (Kd.slice 53 (Kd.int .i8)) 22 ((w14.setCell ⟨Z18, 0, none⟩ (.slice A194_0 ((rd_T49 l2 x31_2).f0).length c194_0)).setCell ⟨Z18, 1, none⟩ (.slice A194_1 ((rd_T49 l2 x31_2).f1).length c194_1)) w.heap.size (fun k_ => (P2_ k_ ∨ w.heap.size ≤ k_) ∧ some k_ ≠ (.slice Ao17 x11_2.length co17 : Value).ownBlock ∧ k_ ≠ Z18) (.slice Ao16 x10_2.length co16) x10_2) := ⟨by (with_reducible repeat (first | apply Kd.N_alloc | apply Kd.N_drewN | apply Kd.N_drew)); exact Kd.N_mono (Kd.N_far (p := ⟨Z18, 1, none⟩) (Kd.N_far (p := ⟨Z18, 0, none⟩) (Kd.N_mono HO_10.out (fun k_ hk => (⟨hk, hk.2⟩ : _ ∧ k_ ≠ Z18))) (fun _ hk => hk.2) (.slice A194_0 ((rd_T49 l2 x31_2).f0).length c194_0)) (fun _ hk => hk.2) (.slice A194_1 ((rd_T49 l2 x31_2).f1).length c194_1)) (fun _ hk => ⟨hk.1.1.1, ⟨hk.1.1.2, hk.1.2⟩⟩)⟩
           have n1_ : Aside0 (Kd.N (Kd.slice 53 (Kd.int .i8)) 22 ((w14.setCell ⟨Z18, 0, none⟩ (.slice A194_0 ((rd_T49 l2 x31_2).f0).length c194_0)).setCell ⟨Z18, 1, none⟩ (.slice A194_1 ((rd_T49 l2 x31_2).f1).length c194_1)) w.heap.size (fun k_ => (P2_ k_ ∨ w.heap.size ≤ k_) ∧ some k_ ≠ (.slice Ao16 x10_2.length co16 : Value).ownBlock ∧ k_ ≠ Z18) (.slice Ao17 x11_2.length co17) x11_2) := ⟨by (with_reducible repeat (first | apply Kd.N_alloc | apply Kd.N_drewN | apply Kd.N_drew)); exact Kd.N_mono (Kd.N_far (p := ⟨Z18, 1, none⟩) (Kd.N_far (p := ⟨Z18, 0, none⟩) (Kd.N_mono HO_11.out (fun k_ hk => (⟨hk, hk.2⟩ : _ ∧ k_ ≠ Z18))) (fun _ hk => hk.2) (.slice A194_0 ((rd_T49 l2 x31_2).f0).length c194_0)) (fun _ hk => hk.2) (.slice A194_1 ((rd_T49 l2 x31_2).f1).length c194_1)) (fun _ hk => ⟨hk.1.1.1, ⟨hk.1.1.2, hk.1.2⟩⟩)⟩
           have n2_ : Aside0 (Kd.V k49 49 ((w14.setCell ⟨Z18, 0, none⟩ (.slice A194_0 ((rd_T49 l2 x31_2).f0).length c194_0)).setCell ⟨Z18, 1, none⟩ (.slice A194_1 ((rd_T49 l2 x31_2).f1).length c194_1)) w.heap.size (fun k_ => (P2_ k_ ∨ w.heap.size ≤ k_) ∧ some k_ ≠ (.slice Ao16 x10_2.length co16 : Value).ownBlock ∧ some k_ ≠ (.slice Ao17 x11_2.length co17 : Value).ownBlock ∧ k_ ≠ Z18) (.slice (some ad194) l2.length c2) l2) := ⟨by (with_reducible repeat (first | apply Kd.V_alloc | apply Kd.V_drewN | apply Kd.V_drew)); exact Kd.V_mono (Kd.V_far (p := ⟨Z18, 1, none⟩) (Kd.V_far (p := ⟨Z18, 0, none⟩) (Kd.V_mono HO_29.out (fun k_ hk => (⟨hk, hk.2⟩ : _ ∧ k_ ≠ Z18))) (fun _ hk => hk.2) (.slice A194_0 ((rd_T49 l2 x31_2).f0).length c194_0)) (fun _ hk => hk.2) (.slice A194_1 ((rd_T49 l2 x31_2).f1).length c194_1)) (fun _ hk => ⟨hk.1.1.1, ⟨hk.1.1.2.1, ⟨hk.1.1.2.2, hk.1.2⟩⟩⟩)⟩
           have n3_ : Aside0 (Kd.V (Kd.int .i8) 53 ((w14.setCell ⟨Z18, 0, none⟩ (.slice A194_0 ((rd_T49 l2 x31_2).f0).length c194_0)).setCell ⟨Z18, 1, none⟩ (.slice A194_1 ((rd_T49 l2 x31_2).f1).length c194_1)) w.heap.size (fun k_ => (P2_ k_ ∨ w.heap.size ≤ k_) ∧ some k_ ≠ (.slice Ao16 x10_2.length co16 : Value).ownBlock ∧ some k_ ≠ (.slice Ao17 x11_2.length co17 : Value).ownBlock ∧ k_ ≠ Z18) (.slice A194_0 ((rd_T49 l2 x31_2).f0).length c194_0) ((rd_T49 l2 x31_2).f0)) := ⟨by (with_reducible repeat (first | apply Kd.V_alloc | apply Kd.V_drewN | apply Kd.V_drew)); exact Kd.V_mono (Kd.V_far (p := ⟨Z18, 1, none⟩) (Kd.V_far (p := ⟨Z18, 0, none⟩) (Kd.V_mono HL194_0.out (fun k_ hk => (⟨hk, hk.2⟩ : _ ∧ k_ ≠ Z18))) (fun _ hk => hk.2) (.slice A194_0 ((rd_T49 l2 x31_2).f0).length c194_0)) (fun _ hk => hk.2) (.slice A194_1 ((rd_T49 l2 x31_2).f1).length c194_1)) (fun _ hk => ⟨hk.1.1.1, ⟨hk.1.1.2.1, ⟨hk.1.1.2.2, hk.1.2⟩⟩⟩)⟩
           have n4_ : Aside0 (Kd.V (Kd.int .i8) 53 ((w14.setCell ⟨Z18, 0, none⟩ (.slice A194_0 ((rd_T49 l2 x31_2).f0).length c194_0)).setCell ⟨Z18, 1, none⟩ (.slice A194_1 ((rd_T49 l2 x31_2).f1).length c194_1)) w.heap.size (fun k_ => (P2_ k_ ∨ w.heap.size ≤ k_) ∧ some k_ ≠ (.slice Ao16 x10_2.length co16 : Value).ownBlock ∧ some k_ ≠ (.slice Ao17 x11_2.length co17 : Value).ownBlock ∧ k_ ≠ Z18) (.slice A194_1 ((rd_T49 l2 x31_2).f1).length c194_1) ((rd_T49 l2 x31_2).f1)) := ⟨by (with_reducible repeat (first | apply Kd.V_alloc | apply Kd.V_drewN | apply Kd.V_drew)); exact Kd.V_mono (Kd.V_far (p := ⟨Z18, 1, none⟩) (Kd.V_far (p := ⟨Z18, 0, none⟩) (Kd.V_mono HL194_1.out (fun k_ hk => (⟨hk, hk.2⟩ : _ ∧ k_ ≠ Z18))) (fun _ hk => hk.2) (.slice A194_0 ((rd_T49 l2 x31_2).f0).length c194_0)) (fun _ hk => hk.2) (.slice A194_1 ((rd_T49 l2 x31_2).f1).length c194_1)) (fun _ hk => ⟨hk.1.1.1, ⟨hk.1.1.2.1, ⟨hk.1.1.2.2, hk.1.2⟩⟩⟩)⟩
           have n5_ : Aside0 (((w14.setCell ⟨Z18, 0, none⟩ (.slice A194_0 ((rd_T49 l2 x31_2).f0).length c194_0)).setCell ⟨Z18, 1, none⟩ (.slice A194_1 ((rd_T49 l2 x31_2).f1).length c194_1)).heap[Z18]? = some (.cells #[.slice A194_0 ((rd_T49 l2 x31_2).f0).length c194_0, .slice A194_1 ((rd_T49 l2 x31_2).f1).length c194_1] 49 (0, 0))) := ⟨by (with_reducible repeat (first | refine zF ?_ _ | refine zH ?_ | refine zG ?_ _)); refine blk_put (cs := #[.slice A194_0 ((rd_T49 l2 x31_2).f0).length c194_0, .slice none 0 0]) ?_ 1 _ rfl; (with_reducible repeat (first | refine zF ?_ _ | refine zH ?_ | refine zG ?_ _)); refine blk_put (cs := #[.slice none 0 0, .slice none 0 0]) ?_ 0 _ rfl; (with_reducible repeat (first | refine zF ?_ _ | refine zH ?_ | refine zG ?_ _)); exact Z0.out⟩
           have n6_ : Aside0 (Below w.heap.size w ((w14.setCell ⟨Z18, 0, none⟩ (.slice A194_0 ((rd_T49 l2 x31_2).f0).length c194_0)).setCell ⟨Z18, 1, none⟩ (.slice A194_1 ((rd_T49 l2 x31_2).f1).length c194_1))) := ⟨by repeat (first | (with_reducible first | exact HB.out | apply zJ | apply zD | apply zE | refine zI ?_ Z4.out) | exact HB.out)⟩
           (try clear HO_10)
           (try clear HO_11)
           (try clear HO_29)
           (try clear HL194_0)
           (try clear HL194_1)
           (try clear Z0)
           (try clear HB)
           generalize ((w14.setCell ⟨Z18, 0, none⟩ (.slice A194_0 ((rd_T49 l2 x31_2).f0).length c194_0)).setCell ⟨Z18, 1, none⟩ (.slice A194_1 ((rd_T49 l2 x31_2).f1).length c194_1)) = w18 at n0_ n1_ n2_ n3_ n4_ n5_ n6_ ⊢
           have HO_10 := n0_; have HO_11 := n1_; have HO_29 := n2_; have HL194_0 := n3_; have HL194_1 := n4_; have Z0 := n5_; have HB := n6_
           clear n0_ n1_ n2_ n3_ n4_ n5_ n6_
           have n0_ := zK (Kd.N_drew HO_10.out)
           have n1_ := zK (Kd.N_drew HO_11.out)
           have n2_ := zK (Kd.V_drew HO_29.out)
           have n3_ := zK (Kd.V_drew HL194_0.out)
           have n4_ := zK (Kd.V_drew HL194_1.out)
           have n5_ := zK (zH Z0.out)
           have n6_ := zK (zE HB.out)
           clear HO_10 HO_11 HO_29 HL194_0 HL194_1 Z0 HB
           have HO_10 := n0_; have HO_11 := n1_; have HO_29 := n2_; have HL194_0 := n3_; have HL194_1 := n4_; have Z0 := n5_; have HB := n6_
           clear n0_ n1_ n2_ n3_ n4_ n5_ n6_
           refine start_ (n := 12) (S := fun w' => w'.cell? ⟨Z18, 0, none⟩ = some (.slice A194_0 ((rd_T49 l2 x31_2).f0).length c194_0) ∧ w'.cell? ⟨Z18, 1, none⟩ = some (.slice A194_1 ((rd_T49 l2 x31_2).f1).length c194_1)) (ds := []) #[false, false, false, false, false, false, false, false, false, false, false, false] (by kernel_rfl) rfl rfl ⟨(zO Z0.out 0).trans rfl, (zO Z0.out 1).trans rfl⟩ (fun hHeld => ?_); refine with_tabW attend_Look.tab7 attend_Look.bits7 (fun HT_ HW_ => ?_)
           generalize w18.drew = w19 at HO_10 HO_11 HO_29 HL194_0 HL194_1 Z0 HB hHeld ⊢
           refine pure_ (i := 0) (N := some 35) (v := ?_) (a' := ?_) #[true, false, false, false, false, false, false, false, false, false, false, false] rfl rfl (any_of HT_.out (by kernel_rfl)) (fun _ _ _ h => h) (Or.inl ⟨by rfl, ?_⟩) ?_ ?_
           rotate_left
           ·intro w'
            go_simp
            with_reducible rfl
           rotate_left
           ·simp only [Act.put, zA, zB, zC, i64_w, i32_w]
            rfl
           refine pure_ (i := 1) (N := some 36) (v := ?_) (a' := ?_) #[true, true, false, false, false, false, false, false, false, false, false, false] rfl rfl (any_of HT_.out (by kernel_rfl)) (fun _ _ _ h => h) (Or.inl ⟨by rfl, ?_⟩) ?_ ?_
           rotate_left
           ·intro w'
            go_simp
            with_reducible rfl
           rotate_left
           ·simp only [Act.put, zA, zB, zC, i64_w, i32_w]
            rfl
           refine pure_ (i := 5) (N := some 40) (v := ?_) (a' := ?_) #[true, true, false, false, false, true, false, false, false, false, false, false] rfl rfl (any_of HT_.out (by kernel_rfl)) (fun _ _ _ h => h) (Or.inl ⟨by rfl, ?_⟩) ?_ ?_
           rotate_left
           ·intro w'
            go_simp
            with_reducible rfl
           rotate_left
           ·simp only [Act.put, zA, zB, zC, i64_w, i32_w]
            rfl
           refine pure_ (i := 6) (N := some 41) (v := ?_) (a' := ?_) #[true, true, false, false, false, true, true, false, false, false, false, false] rfl rfl (any_of HT_.out (by kernel_rfl)) (fun _ _ _ h => h) (Or.inl ⟨by rfl, ?_⟩) ?_ ?_
           rotate_left
           ·intro w'
            go_simp
            with_reducible rfl
           rotate_left
           ·simp only [Act.put, zA, zB, zC, i64_w, i32_w]
            rfl
           refine take_ (i := 2) (N := some 37) (v := ?_) (a' := ?_) #[true, true, true, false, false, true, true, false, false, false, false, false] rfl rfl (take_ofW HT_.out HW_.out (by kernel_rfl)) (fun _ _ _ h => h) (Or.inl ⟨by rfl, ?_⟩) hHeld ?_ ?_
           rotate_left
           ·rintro w' ⟨s0, s1⟩
            go_simp
            with_reducible rfl
           rotate_left
           ·simp only [Act.put, zA, zB, zC, i64_w, i32_w]
            rfl
           refine take_ (i := 7) (N := some 42) (v := ?_) (a' := ?_) #[true, true, true, false, false, true, true, true, false, false, false, false] rfl rfl (take_ofW HT_.out HW_.out (by kernel_rfl)) (fun _ _ _ h => h) (Or.inl ⟨by rfl, ?_⟩) hHeld ?_ ?_
           rotate_left
           ·rintro w' ⟨s0, s1⟩
            go_simp
            with_reducible rfl
           rotate_left
           ·simp only [Act.put, zA, zB, zC, i64_w, i32_w]
            rfl
           refine join_ (σ := Value × Value × Value) 3 #[true, true, true, true, true, true, true, true, true, false, false, false] (fun s_ => [(38, s_.1), (39, s_.2.1), (43, s_.2.2)]) (fun s_ w' => (w'.cell? ⟨Z18, 0, none⟩ = some (.slice A194_0 ((rd_T49 l2 x31_2).f0).length c194_0) ∧ w'.cell? ⟨Z18, 1, none⟩ = some (.slice A194_1 ((rd_T49 l2 x31_2).f1).length c194_1)) ∧ (Kd.V (Kd.int .i8) 53 w' w.heap.size (fun k_ => (P2_ k_ ∨ w.heap.size ≤ k_) ∧ some k_ ≠ (s_.1 : Value).ownBlock ∧ some k_ ≠ (s_.2.1 : Value).ownBlock ∧ some k_ ≠ (s_.2.2 : Value).ownBlock ∧ some k_ ≠ (.slice Ao17 x11_2.length co17 : Value).ownBlock ∧ k_ ≠ Z18) (.slice A194_0 ((rd_T49 l2 x31_2).f0).length c194_0) ((rd_T49 l2 x31_2).f0)) ∧ (Kd.V (Kd.int .i8) 53 w' w.heap.size (fun k_ => (P2_ k_ ∨ w.heap.size ≤ k_) ∧ some k_ ≠ (s_.1 : Value).ownBlock ∧ some k_ ≠ (s_.2.1 : Value).ownBlock ∧ some k_ ≠ (s_.2.2 : Value).ownBlock ∧ some k_ ≠ (.slice Ao17 x11_2.length co17 : Value).ownBlock ∧ k_ ≠ Z18) (.slice A194_1 ((rd_T49 l2 x31_2).f1).length c194_1) ((rd_T49 l2 x31_2).f1)) ∧ (Kd.N (Kd.slice 53 (Kd.int .i8)) 22 w' w.heap.size (fun k_ => (P2_ k_ ∨ w.heap.size ≤ k_) ∧ some k_ ≠ (s_.2.1 : Value).ownBlock ∧ some k_ ≠ (s_.2.2 : Value).ownBlock ∧ some k_ ≠ (.slice Ao17 x11_2.length co17 : Value).ownBlock ∧ k_ ≠ Z18) s_.1 y196) ∧ (Kd.N (Kd.slice 53 (Kd.int .i8)) 22 w' w.heap.size (fun k_ => (P2_ k_ ∨ w.heap.size ≤ k_) ∧ some k_ ≠ (s_.2.2 : Value).ownBlock ∧ some k_ ≠ (.slice Ao17 x11_2.length co17 : Value).ownBlock ∧ k_ ≠ Z18) s_.2.1 y199) ∧ (Kd.N (Kd.slice 53 (Kd.int .i8)) 22 w' w.heap.size (fun k_ => (P2_ k_ ∨ w.heap.size ≤ k_) ∧ some k_ ≠ (s_.1 : Value).ownBlock ∧ some k_ ≠ (s_.2.1 : Value).ownBlock ∧ some k_ ≠ (.slice Ao17 x11_2.length co17 : Value).ownBlock ∧ k_ ≠ Z18) s_.2.2 y202) ∧ (Kd.N (Kd.slice 53 (Kd.int .i8)) 22 w' w.heap.size (fun k_ => (P2_ k_ ∨ w.heap.size ≤ k_) ∧ some k_ ≠ (s_.1 : Value).ownBlock ∧ some k_ ≠ (s_.2.1 : Value).ownBlock ∧ some k_ ≠ (s_.2.2 : Value).ownBlock ∧ k_ ≠ Z18) (.slice Ao17 x11_2.length co17) x11_2) ∧ (Kd.V k49 49 w' w.heap.size (fun k_ => (P2_ k_ ∨ w.heap.size ≤ k_) ∧ some k_ ≠ (s_.1 : Value).ownBlock ∧ some k_ ≠ (s_.2.1 : Value).ownBlock ∧ some k_ ≠ (s_.2.2 : Value).ownBlock ∧ some k_ ≠ (.slice Ao17 x11_2.length co17 : Value).ownBlock ∧ k_ ≠ Z18) (.slice (some ad194) l2.length c2) l2) ∧ (w'.heap[Z18]? = some (.cells #[.slice A194_0 ((rd_T49 l2 x31_2).f0).length c194_0, .slice A194_1 ((rd_T49 l2 x31_2).f1).length c194_1] 49 (0, 0))) ∧ (Below w.heap.size w w')) ?_ ?_
           rotate_left
           ·intro hCont
            refine two_ (i := 3) (j := 8) (Ni := some 38) (Nj := some 43) #[true, true, true, true, false, true, true, true, false, false, false, false] #[true, true, true, false, false, true, true, true, true, false, false, false] rfl rfl rfl rfl (two_of HT_.out (by kernel_rfl)) (by decide) (by decide) (fun K hK => ?_) (fun K hK => ?_)
            ·skip
             refine Kd.N_lit_step (Kd.slice 53 (Kd.int .i8)) _ 22 ?hg (N' := 38) ?hd (xs := ([(rd_T49 l2 x31_2).f0] : List (List Int))) (inner := [.slice A194_0 ((rd_T49 l2 x31_2).f0).length c194_0]) (ok := (fun k_ => (P2_ k_ ∨ w.heap.size ≤ k_) ∧ some k_ ≠ (.slice Ao16 x10_2.length co16 : Value).ownBlock ∧ some k_ ≠ (.slice Ao17 x11_2.length co17 : Value).ownBlock ∧ k_ ≠ Z18)) (okp := (fun k_ => (P2_ k_ ∨ w.heap.size ≤ k_) ∧ some k_ ≠ (.slice Ao16 x10_2.length co16 : Value).ownBlock ∧ some k_ ≠ (.slice Ao17 x11_2.length co17 : Value).ownBlock ∧ k_ ≠ Z18)) ?hr ?hp (fun _ hk => hk) ((show ∀ k_, w19.heap.size ≤ k_ → (fun k_ => (P2_ k_ ∨ w.heap.size ≤ k_) ∧ some k_ ≠ (.slice Ao16 x10_2.length co16 : Value).ownBlock ∧ some k_ ≠ (.slice Ao17 x11_2.length co17 : Value).ownBlock ∧ k_ ≠ Z18) k_ from fun k_ hk => ⟨(.inr (yl (yK (by repeat (first | (with_reducible first | exact HB.out | apply zJ | apply zD | apply zE | refine zI ?_ Z4.out) | exact HB.out))) hk)), Kd.fresh' (Kd.N_lt (by (with_reducible repeat (first | apply Kd.N_alloc | apply Kd.N_drewN | apply Kd.N_drew)); exact HO_10.out)) k_ hk, Kd.fresh' (Kd.N_lt (by (with_reducible repeat (first | apply Kd.N_alloc | apply Kd.N_drewN | apply Kd.N_drew)); exact HO_11.out)) k_ hk, Kd.freshB (g := Z18) (o := .cells #[.slice A194_0 ((rd_T49 l2 x31_2).f0).length c194_0, .slice A194_1 ((rd_T49 l2 x31_2).f1).length c194_1] 49 (0, 0)) (by (with_reducible repeat (first | refine zF ?_ _ | refine zH ?_ | refine zG ?_ _)); exact Z0.out) k_ hk⟩) _ (yN _)) (Below.refl _ _) (yN _) (by simp) ?_; (case hd => rfl); (case hg => rfl); (case hr => first | (go_simp; done) | (go_simp; rfl)); (case hp => exact (Reps.one (show Kd.FK (Kd.slice 53 (Kd.int .i8)) _ _ ((rd_T49 l2 x31_2).f0) [.slice A194_0 ((rd_T49 l2 x31_2).f0).length c194_0] from (Kd.FK_slice_mk (Kd.V_reads' (Kd.V_mono (ok' := (fun k_ => (P2_ k_ ∨ w.heap.size ≤ k_) ∧ some k_ ≠ (.slice Ao16 x10_2.length co16 : Value).ownBlock ∧ some k_ ≠ (.slice Ao17 x11_2.length co17 : Value).ownBlock ∧ k_ ≠ Z18)) (HL194_0.out) (fun k_ hk => ⟨hk.1, ⟨hk.2.1, ⟨hk.2.2.1, hk.2.2.2⟩⟩⟩))).2.1 (Kd.V_F (Kd.V_mono (ok' := (fun k_ => (P2_ k_ ∨ w.heap.size ≤ k_) ∧ some k_ ≠ (.slice Ao16 x10_2.length co16 : Value).ownBlock ∧ some k_ ≠ (.slice Ao17 x11_2.length co17 : Value).ownBlock ∧ k_ ≠ Z18)) (HL194_0.out) (fun k_ hk => ⟨hk.1, ⟨hk.2.1, ⟨hk.2.2.1, hk.2.2.2⟩⟩⟩))))) (Reps.none _ _)))
             intro v197 w20 ho21 hb hg_ hnew_
             clear hg_ hnew_
             (first | rw [← Ny196.out] at ho21 | (simp only [Int.reduceToNat] at ho21; rw [← Ny196.out] at ho21))
             have n0_ := zK (Kd.N_elder' (by (with_reducible repeat (first | apply Kd.N_alloc | apply Kd.N_drewN | apply Kd.N_drew)); exact HO_10.out) (Kd.N_base ho21) hb)
             have n1_ := zK (Kd.N_elder' (by (with_reducible repeat (first | apply Kd.N_alloc | apply Kd.N_drewN | apply Kd.N_drew)); exact HO_11.out) (Kd.N_base ho21) hb)
             have n2_ := zK (Kd.V_elder' (by (with_reducible repeat (first | apply Kd.V_alloc | apply Kd.V_drewN | apply Kd.V_drew)); exact HO_29.out) (Kd.N_base ho21) hb)
             have n3_ := zK (Kd.V_elder' (by (with_reducible repeat (first | apply Kd.V_alloc | apply Kd.V_drewN | apply Kd.V_drew)); exact HL194_0.out) (Kd.N_base ho21) hb)
             have n4_ := zK (Kd.V_elder' (by (with_reducible repeat (first | apply Kd.V_alloc | apply Kd.V_drewN | apply Kd.V_drew)); exact HL194_1.out) (Kd.N_base ho21) hb)
             have n5_ := zK (Kd.N_lower ho21 (yK (by repeat (first | (with_reducible first | exact HB.out | apply zJ | apply zD | apply zE | refine zI ?_ Z4.out) | exact HB.out))))
             have n6_ := zK (zP (g := Z18) (o := .cells #[.slice A194_0 ((rd_T49 l2 x31_2).f0).length c194_0, .slice A194_1 ((rd_T49 l2 x31_2).f1).length c194_1] 49 (0, 0)) (by (with_reducible repeat (first | refine zF ?_ _ | refine zH ?_ | refine zG ?_ _)); exact Z0.out) hb)
             have n7_ := zK (yL (by repeat (first | (with_reducible first | exact HB.out | apply zJ | apply zD | apply zE | refine zI ?_ Z4.out) | exact HB.out)) hb)
             clear HO_10 HO_11 HO_29 HL194_0 HL194_1 Z0 HB
             have HO_10 := n0_; have HO_11 := n1_; have HO_29 := n2_; have HL194_0 := n3_; have HL194_1 := n4_; have HO198 := n5_; have Z0 := n6_; have HB := n7_
             clear n0_ n1_ n2_ n3_ n4_ n5_ n6_ n7_ hb ho21
             obtain ⟨Ao23, co23, eo23⟩ := Kd.N_slice HO198.out
             (first | subst eo23 | (injection eo23 with f1_ f2_ f3_; have f4_ := f1_.symm; have f5_ := f3_.symm; clear f1_ f2_ f3_; subst f4_; subst f5_))
             refine hK.out _ _ ⟨(zO Z0.out 0).trans rfl, (zO Z0.out 1).trans rfl⟩ (fun hHeld => ?_)
             clear hK K
             refine norm_ (a' := ?_) ?_ ?_
             rotate_left
             ·show Act.put _ (some 38) _ = _
              simp only [Act.put, zA, zB, zC, i64_w, i32_w]
              rfl
             refine two_ (i := 4) (j := 8) (Ni := some 39) (Nj := some 43) #[true, true, true, true, true, true, true, true, false, false, false, false] #[true, true, true, true, false, true, true, true, true, false, false, false] rfl rfl rfl rfl (two_of HT_.out (by kernel_rfl)) (by decide) (by decide) (fun K hK => ?_) (fun K hK => ?_)
             ·skip
              refine Kd.N_append_rows_step (Kd.slice 53 (Kd.int .i8)) (w0 := w) w.heap.size (by rfl) (.tmp 35) (.tmp 38) 23 22 (.slice none 0 0) 24 rfl Try.underlying23 info22 rfl (by decide) (by omega) (.slice Ao16 x10_2.length co16) x10_2 y196 _ _ _ (fun k_ => (P2_ k_ ∨ w.heap.size ≤ k_) ∧ some k_ ≠ (.slice Ao17 x11_2.length co17 : Value).ownBlock ∧ k_ ≠ Z18) (fun k_ => ((fun k_ => (P2_ k_ ∨ w.heap.size ≤ k_) ∧ some k_ ≠ (.slice Ao17 x11_2.length co17 : Value).ownBlock ∧ k_ ≠ Z18)) k_ ∧ some k_ ≠ (.slice Ao16 x10_2.length co16 : Value).ownBlock) rfl rfl ?aO ?aR (fun _ hk => hk) ?aF ?aB ?aS ?aL ?_
              (case aR => exact (by skip; exact Kd.N_F (Kd.N_mono (ok' := (fun k_ => ((fun k_ => (P2_ k_ ∨ w.heap.size ≤ k_) ∧ some k_ ≠ (.slice Ao17 x11_2.length co17 : Value).ownBlock ∧ k_ ≠ Z18)) k_ ∧ some k_ ≠ (.slice Ao16 x10_2.length co16 : Value).ownBlock)) (HO198.out) (fun k_ hk => ⟨⟨hk.1, ⟨hk.2.2.1, hk.2.2.2⟩⟩, hk.2.1⟩))))
              (case aB => exact (by repeat (first | (with_reducible first | exact HB.out | apply zJ | apply zD | apply zE | refine zI ?_ Z4.out) | exact HB.out)))
              (case aF => exact (fun k_ hk => ⟨(.inr (yl (yK (by repeat (first | (with_reducible first | exact HB.out | apply zJ | apply zD | apply zE | refine zI ?_ Z4.out) | exact HB.out))) hk)), Kd.fresh' (Kd.N_lt (by (with_reducible repeat (first | apply Kd.N_alloc | apply Kd.N_drewN | apply Kd.N_drew)); exact HO_11.out)) k_ hk, Kd.freshB (g := Z18) (o := .cells #[.slice A194_0 ((rd_T49 l2 x31_2).f0).length c194_0, .slice A194_1 ((rd_T49 l2 x31_2).f1).length c194_1] 49 (0, 0)) (by (with_reducible repeat (first | refine zF ?_ _ | refine zH ?_ | refine zG ?_ _)); exact Z0.out) k_ hk⟩))
              (case aO => exact (by (with_reducible repeat (first | apply Kd.N_alloc | apply Kd.N_drewN | apply Kd.N_drew)); exact Kd.N_mono HO_10.out (fun _ hk => ⟨hk.1.1, ⟨hk.1.2.1, hk.1.2.2⟩⟩)))
              (case aS => exact (yK (by repeat (first | (with_reducible first | exact HB.out | apply zJ | apply zD | apply zE | refine zI ?_ Z4.out) | exact HB.out))))
              (case aL => have := LMc12.out; omega)
              intro v200 w22 ho hb hg hat
              rw [← Ny199.out] at ho
              have n0_ := zK (Kd.N_afterv (ok := (fun k_ => (P2_ k_ ∨ w.heap.size ≤ k_) ∧ some k_ ≠ (.slice Ao23 y196.length co23 : Value).ownBlock ∧ k_ ≠ Z18)) (by (with_reducible repeat (first | apply Kd.N_alloc | apply Kd.N_drewN | apply Kd.N_drew)); exact Kd.N_mono HO_11.out (fun _ hk => ⟨⟨hk.1.1, ⟨hk.2, hk.1.2.2⟩⟩, hk.1.2.1⟩)) hg hat)
              have n1_ := zK (Kd.V_afterv (ok := (fun k_ => (P2_ k_ ∨ w.heap.size ≤ k_) ∧ some k_ ≠ (.slice Ao17 x11_2.length co17 : Value).ownBlock ∧ some k_ ≠ (.slice Ao23 y196.length co23 : Value).ownBlock ∧ k_ ≠ Z18)) (by (with_reducible repeat (first | apply Kd.V_alloc | apply Kd.V_drewN | apply Kd.V_drew)); exact Kd.V_mono HO_29.out (fun _ hk => ⟨⟨hk.1.1, ⟨hk.1.2.2.1, ⟨hk.2, hk.1.2.2.2⟩⟩⟩, hk.1.2.1⟩)) hg hat)
              have n2_ := zK (Kd.V_afterv (ok := (fun k_ => (P2_ k_ ∨ w.heap.size ≤ k_) ∧ some k_ ≠ (.slice Ao17 x11_2.length co17 : Value).ownBlock ∧ some k_ ≠ (.slice Ao23 y196.length co23 : Value).ownBlock ∧ k_ ≠ Z18)) (by (with_reducible repeat (first | apply Kd.V_alloc | apply Kd.V_drewN | apply Kd.V_drew)); exact Kd.V_mono HL194_0.out (fun _ hk => ⟨⟨hk.1.1, ⟨hk.1.2.2.1, ⟨hk.2, hk.1.2.2.2⟩⟩⟩, hk.1.2.1⟩)) hg hat)
              have n3_ := zK (Kd.V_afterv (ok := (fun k_ => (P2_ k_ ∨ w.heap.size ≤ k_) ∧ some k_ ≠ (.slice Ao17 x11_2.length co17 : Value).ownBlock ∧ some k_ ≠ (.slice Ao23 y196.length co23 : Value).ownBlock ∧ k_ ≠ Z18)) (by (with_reducible repeat (first | apply Kd.V_alloc | apply Kd.V_drewN | apply Kd.V_drew)); exact Kd.V_mono HL194_1.out (fun _ hk => ⟨⟨hk.1.1, ⟨hk.1.2.2.1, ⟨hk.2, hk.1.2.2.2⟩⟩⟩, hk.1.2.1⟩)) hg hat)
              have n4_ := zK (blk_grown (g := Z18) (o := .cells #[.slice A194_0 ((rd_T49 l2 x31_2).f0).length c194_0, .slice A194_1 ((rd_T49 l2 x31_2).f1).length c194_1] 49 (0, 0)) (by (with_reducible repeat (first | refine zF ?_ _ | refine zH ?_ | refine zG ?_ _)); exact Z0.out) hg (Kd.N_ne HO_10.out Z0.out (by decide)))
              have n5_ := zK (Kd.N_afterv (ok := (fun k_ => (P2_ k_ ∨ w.heap.size ≤ k_) ∧ some k_ ≠ (.slice Ao17 x11_2.length co17 : Value).ownBlock ∧ k_ ≠ Z18)) (by (with_reducible repeat (first | apply Kd.N_alloc | apply Kd.N_drewN | apply Kd.N_drew)); exact Kd.N_mono HO198.out (fun _ hk => ⟨⟨hk.1, ⟨hk.2.2.1, hk.2.2.2⟩⟩, hk.2.1⟩)) hg hat)
              have n6_ := zK (hb)
              have n7_ := zK (ho)
              clear HO_11 HO_29 HL194_0 HL194_1 Z0 HO198 HB HO_10
              have HO_11 := n0_; have HO_29 := n1_; have HL194_0 := n2_; have HL194_1 := n3_; have Z0 := n4_; have HO198 := n5_; have HB := n6_; have HO201 := n7_
              clear n0_ n1_ n2_ n3_ n4_ n5_ n6_ n7_ ho hb hg hat
              refine hK.out _ _ ⟨(zO Z0.out 0).trans rfl, (zO Z0.out 1).trans rfl⟩ (fun hHeld => ?_)
              clear hK K
              refine norm_ (a' := ?_) ?_ ?_
              rotate_left
              ·show Act.put _ (some 39) _ = _
               simp only [Act.put, zA, zB, zC, i64_w, i32_w]
               rfl
              refine one_ (i := 8) (N := some 43) #[true, true, true, true, true, true, true, true, true, false, false, false] rfl rfl (one_of HT_.out (by kernel_rfl)) (by decide) (fun K hK => ?_)
              refine Kd.N_lit_step (Kd.slice 53 (Kd.int .i8)) _ 22 ?hg (N' := 43) ?hd (xs := ([(rd_T49 l2 x31_2).f1] : List (List Int))) (inner := [.slice A194_1 ((rd_T49 l2 x31_2).f1).length c194_1]) (ok := (fun k_ => (P2_ k_ ∨ w.heap.size ≤ k_) ∧ some k_ ≠ (.slice Ao17 x11_2.length co17 : Value).ownBlock ∧ some k_ ≠ (.slice Ao23 y196.length co23 : Value).ownBlock ∧ some k_ ≠ (v200 : Value).ownBlock ∧ k_ ≠ Z18)) (okp := (fun k_ => (P2_ k_ ∨ w.heap.size ≤ k_) ∧ some k_ ≠ (.slice Ao17 x11_2.length co17 : Value).ownBlock ∧ some k_ ≠ (.slice Ao23 y196.length co23 : Value).ownBlock ∧ some k_ ≠ (v200 : Value).ownBlock ∧ k_ ≠ Z18)) ?hr ?hp (fun _ hk => hk) ((show ∀ k_, w22.heap.size ≤ k_ → (fun k_ => (P2_ k_ ∨ w.heap.size ≤ k_) ∧ some k_ ≠ (.slice Ao17 x11_2.length co17 : Value).ownBlock ∧ some k_ ≠ (.slice Ao23 y196.length co23 : Value).ownBlock ∧ some k_ ≠ (v200 : Value).ownBlock ∧ k_ ≠ Z18) k_ from fun k_ hk => ⟨(.inr (yl (yK (by repeat (first | (with_reducible first | exact HB.out | apply zJ | apply zD | apply zE | refine zI ?_ Z4.out) | exact HB.out))) hk)), Kd.fresh' (Kd.N_lt (by (with_reducible repeat (first | apply Kd.N_alloc | apply Kd.N_drewN | apply Kd.N_drew)); exact HO_11.out)) k_ hk, Kd.fresh' (Kd.N_lt (by (with_reducible repeat (first | apply Kd.N_alloc | apply Kd.N_drewN | apply Kd.N_drew)); exact HO198.out)) k_ hk, Kd.fresh' (Kd.N_lt (by (with_reducible repeat (first | apply Kd.N_alloc | apply Kd.N_drewN | apply Kd.N_drew)); exact HO201.out)) k_ hk, Kd.freshB (g := Z18) (o := .cells #[.slice A194_0 ((rd_T49 l2 x31_2).f0).length c194_0, .slice A194_1 ((rd_T49 l2 x31_2).f1).length c194_1] 49 (0, 0)) (by (with_reducible repeat (first | refine zF ?_ _ | refine zH ?_ | refine zG ?_ _)); exact Z0.out) k_ hk⟩) _ (yN _)) (Below.refl _ _) (yN _) (by simp) ?_; (case hd => rfl); (case hg => rfl); (case hr => first | (go_simp; done) | (go_simp; rfl)); (case hp => exact (Reps.one (show Kd.FK (Kd.slice 53 (Kd.int .i8)) _ _ ((rd_T49 l2 x31_2).f1) [.slice A194_1 ((rd_T49 l2 x31_2).f1).length c194_1] from (Kd.FK_slice_mk (Kd.V_reads' (Kd.V_mono (ok' := (fun k_ => (P2_ k_ ∨ w.heap.size ≤ k_) ∧ some k_ ≠ (.slice Ao17 x11_2.length co17 : Value).ownBlock ∧ some k_ ≠ (.slice Ao23 y196.length co23 : Value).ownBlock ∧ some k_ ≠ (v200 : Value).ownBlock ∧ k_ ≠ Z18)) (HL194_1.out) (fun k_ hk => ⟨hk.1.1, ⟨hk.1.2.1, ⟨hk.1.2.2.1, ⟨hk.2, hk.1.2.2.2⟩⟩⟩⟩))).2.1 (Kd.V_F (Kd.V_mono (ok' := (fun k_ => (P2_ k_ ∨ w.heap.size ≤ k_) ∧ some k_ ≠ (.slice Ao17 x11_2.length co17 : Value).ownBlock ∧ some k_ ≠ (.slice Ao23 y196.length co23 : Value).ownBlock ∧ some k_ ≠ (v200 : Value).ownBlock ∧ k_ ≠ Z18)) (HL194_1.out) (fun k_ hk => ⟨hk.1.1, ⟨hk.1.2.1, ⟨hk.1.2.2.1, ⟨hk.2, hk.1.2.2.2⟩⟩⟩⟩))))) (Reps.none _ _)))
              intro v203 w24 ho25 hb hg_ hnew_
              clear hg_ hnew_
              (first | rw [← Ny202.out] at ho25 | (simp only [Int.reduceToNat] at ho25; rw [← Ny202.out] at ho25))
              have n0_ := zK (Kd.N_elder' (by (with_reducible repeat (first | apply Kd.N_alloc | apply Kd.N_drewN | apply Kd.N_drew)); exact HO_11.out) (Kd.N_base ho25) hb)
              have n1_ := zK (Kd.V_elder' (by (with_reducible repeat (first | apply Kd.V_alloc | apply Kd.V_drewN | apply Kd.V_drew)); exact HO_29.out) (Kd.N_base ho25) hb)
              have n2_ := zK (Kd.V_elder' (by (with_reducible repeat (first | apply Kd.V_alloc | apply Kd.V_drewN | apply Kd.V_drew)); exact HL194_0.out) (Kd.N_base ho25) hb)
              have n3_ := zK (Kd.V_elder' (by (with_reducible repeat (first | apply Kd.V_alloc | apply Kd.V_drewN | apply Kd.V_drew)); exact HL194_1.out) (Kd.N_base ho25) hb)
              have n4_ := zK (Kd.N_elder' (by (with_reducible repeat (first | apply Kd.N_alloc | apply Kd.N_drewN | apply Kd.N_drew)); exact HO198.out) (Kd.N_base ho25) hb)
              have n5_ := zK (Kd.N_elder' (by (with_reducible repeat (first | apply Kd.N_alloc | apply Kd.N_drewN | apply Kd.N_drew)); exact HO201.out) (Kd.N_base ho25) hb)
              have n6_ := zK (Kd.N_lower ho25 (yK (by repeat (first | (with_reducible first | exact HB.out | apply zJ | apply zD | apply zE | refine zI ?_ Z4.out) | exact HB.out))))
              have n7_ := zK (zP (g := Z18) (o := .cells #[.slice A194_0 ((rd_T49 l2 x31_2).f0).length c194_0, .slice A194_1 ((rd_T49 l2 x31_2).f1).length c194_1] 49 (0, 0)) (by (with_reducible repeat (first | refine zF ?_ _ | refine zH ?_ | refine zG ?_ _)); exact Z0.out) hb)
              have n8_ := zK (yL (by repeat (first | (with_reducible first | exact HB.out | apply zJ | apply zD | apply zE | refine zI ?_ Z4.out) | exact HB.out)) hb)
              clear HO_11 HO_29 HL194_0 HL194_1 HO198 HO201 Z0 HB
              have HO_11 := n0_; have HO_29 := n1_; have HL194_0 := n2_; have HL194_1 := n3_; have HO198 := n4_; have HO201 := n5_; have HO204 := n6_; have Z0 := n7_; have HB := n8_
              clear n0_ n1_ n2_ n3_ n4_ n5_ n6_ n7_ n8_ hb ho25
              refine hK.out _ _ ⟨(zO Z0.out 0).trans rfl, (zO Z0.out 1).trans rfl⟩ (fun hHeld => ?_)
              clear hK K
              refine norm_ (a' := ?_) ?_ ?_
              rotate_left
              ·show Act.put _ (some 43) _ = _
               simp only [Act.put, zA, zB, zC, i64_w, i32_w]
               rfl
              exact norm_ (by simp only [putAll, Act.put, zA, zB, zC]) (hCont (.slice Ao23 y196.length co23, v200, v203) _ ⟨hHeld, (by (with_reducible repeat (first | apply Kd.V_alloc | apply Kd.V_drewN | apply Kd.V_drew)); exact Kd.V_mono HL194_0.out (fun _ hk => ⟨hk.1.1.1, ⟨hk.1.1.2.2.1, ⟨hk.1.2, ⟨hk.2, ⟨hk.1.1.2.1, hk.1.1.2.2.2⟩⟩⟩⟩⟩)), (by (with_reducible repeat (first | apply Kd.V_alloc | apply Kd.V_drewN | apply Kd.V_drew)); exact Kd.V_mono HL194_1.out (fun _ hk => ⟨hk.1.1.1, ⟨hk.1.1.2.2.1, ⟨hk.1.2, ⟨hk.2, ⟨hk.1.1.2.1, hk.1.1.2.2.2⟩⟩⟩⟩⟩)), (by (with_reducible repeat (first | apply Kd.N_alloc | apply Kd.N_drewN | apply Kd.N_drew)); exact Kd.N_mono HO198.out (fun _ hk => ⟨hk.1.1.1, ⟨hk.1.2, ⟨hk.2, ⟨hk.1.1.2.1, hk.1.1.2.2⟩⟩⟩⟩)), (by (with_reducible repeat (first | apply Kd.N_alloc | apply Kd.N_drewN | apply Kd.N_drew)); exact Kd.N_mono HO201.out (fun _ hk => ⟨hk.1.1, ⟨hk.2, ⟨hk.1.2.1, hk.1.2.2⟩⟩⟩)), (by (with_reducible repeat (first | apply Kd.N_alloc | apply Kd.N_drewN | apply Kd.N_drew)); exact Kd.N_mono HO204.out (fun _ hk => ⟨hk.1, ⟨hk.2.2.1, ⟨hk.2.2.2.1, ⟨hk.2.1, hk.2.2.2.2⟩⟩⟩⟩)), (by (with_reducible repeat (first | apply Kd.N_alloc | apply Kd.N_drewN | apply Kd.N_drew)); exact Kd.N_mono HO_11.out (fun _ hk => ⟨hk.1.1.1, ⟨hk.1.1.2.1, ⟨hk.1.2, ⟨hk.2, hk.1.1.2.2⟩⟩⟩⟩)), (by (with_reducible repeat (first | apply Kd.V_alloc | apply Kd.V_drewN | apply Kd.V_drew)); exact Kd.V_mono HO_29.out (fun _ hk => ⟨hk.1.1.1, ⟨hk.1.1.2.2.1, ⟨hk.1.2, ⟨hk.2, ⟨hk.1.1.2.1, hk.1.1.2.2.2⟩⟩⟩⟩⟩)), (by (with_reducible repeat (first | refine zF ?_ _ | refine zH ?_ | refine zG ?_ _)); exact Z0.out), (by repeat (first | (with_reducible first | exact HB.out | apply zJ | apply zD | apply zE | refine zI ?_ Z4.out) | exact HB.out))⟩)
             ·skip
              refine Kd.N_lit_step (Kd.slice 53 (Kd.int .i8)) _ 22 ?hg (N' := 43) ?hd (xs := ([(rd_T49 l2 x31_2).f1] : List (List Int))) (inner := [.slice A194_1 ((rd_T49 l2 x31_2).f1).length c194_1]) (ok := (fun k_ => (P2_ k_ ∨ w.heap.size ≤ k_) ∧ some k_ ≠ (.slice Ao16 x10_2.length co16 : Value).ownBlock ∧ some k_ ≠ (.slice Ao17 x11_2.length co17 : Value).ownBlock ∧ some k_ ≠ (.slice Ao23 y196.length co23 : Value).ownBlock ∧ k_ ≠ Z18)) (okp := (fun k_ => (P2_ k_ ∨ w.heap.size ≤ k_) ∧ some k_ ≠ (.slice Ao16 x10_2.length co16 : Value).ownBlock ∧ some k_ ≠ (.slice Ao17 x11_2.length co17 : Value).ownBlock ∧ some k_ ≠ (.slice Ao23 y196.length co23 : Value).ownBlock ∧ k_ ≠ Z18)) ?hr ?hp (fun _ hk => hk) ((show ∀ k_, w20.heap.size ≤ k_ → (fun k_ => (P2_ k_ ∨ w.heap.size ≤ k_) ∧ some k_ ≠ (.slice Ao16 x10_2.length co16 : Value).ownBlock ∧ some k_ ≠ (.slice Ao17 x11_2.length co17 : Value).ownBlock ∧ some k_ ≠ (.slice Ao23 y196.length co23 : Value).ownBlock ∧ k_ ≠ Z18) k_ from fun k_ hk => ⟨(.inr (yl (yK (by repeat (first | (with_reducible first | exact HB.out | apply zJ | apply zD | apply zE | refine zI ?_ Z4.out) | exact HB.out))) hk)), Kd.fresh' (Kd.N_lt (by (with_reducible repeat (first | apply Kd.N_alloc | apply Kd.N_drewN | apply Kd.N_drew)); exact HO_10.out)) k_ hk, Kd.fresh' (Kd.N_lt (by (with_reducible repeat (first | apply Kd.N_alloc | apply Kd.N_drewN | apply Kd.N_drew)); exact HO_11.out)) k_ hk, Kd.fresh' (Kd.N_lt (by (with_reducible repeat (first | apply Kd.N_alloc | apply Kd.N_drewN | apply Kd.N_drew)); exact HO198.out)) k_ hk, Kd.freshB (g := Z18) (o := .cells #[.slice A194_0 ((rd_T49 l2 x31_2).f0).length c194_0, .slice A194_1 ((rd_T49 l2 x31_2).f1).length c194_1] 49 (0, 0)) (by (with_reducible repeat (first | refine zF ?_ _ | refine zH ?_ | refine zG ?_ _)); exact Z0.out) k_ hk⟩) _ (yN _)) (Below.refl _ _) (yN _) (by simp) ?_; (case hd => rfl); (case hg => rfl); (case hr => first | (go_simp; done) | (go_simp; rfl)); (case hp => exact (Reps.one (show Kd.FK (Kd.slice 53 (Kd.int .i8)) _ _ ((rd_T49 l2 x31_2).f1) [.slice A194_1 ((rd_T49 l2 x31_2).f1).length c194_1] from (Kd.FK_slice_mk (Kd.V_reads' (Kd.V_mono (ok' := (fun k_ => (P2_ k_ ∨ w.heap.size ≤ k_) ∧ some k_ ≠ (.slice Ao16 x10_2.length co16 : Value).ownBlock ∧ some k_ ≠ (.slice Ao17 x11_2.length co17 : Value).ownBlock ∧ some k_ ≠ (.slice Ao23 y196.length co23 : Value).ownBlock ∧ k_ ≠ Z18)) (HL194_1.out) (fun k_ hk => ⟨hk.1.1, ⟨hk.1.2.1, ⟨hk.1.2.2.1, ⟨hk.2, hk.1.2.2.2⟩⟩⟩⟩))).2.1 (Kd.V_F (Kd.V_mono (ok' := (fun k_ => (P2_ k_ ∨ w.heap.size ≤ k_) ∧ some k_ ≠ (.slice Ao16 x10_2.length co16 : Value).ownBlock ∧ some k_ ≠ (.slice Ao17 x11_2.length co17 : Value).ownBlock ∧ some k_ ≠ (.slice Ao23 y196.length co23 : Value).ownBlock ∧ k_ ≠ Z18)) (HL194_1.out) (fun k_ hk => ⟨hk.1.1, ⟨hk.1.2.1, ⟨hk.1.2.2.1, ⟨hk.2, hk.1.2.2.2⟩⟩⟩⟩))))) (Reps.none _ _)))
              intro v203 w22 ho23 hb hg_ hnew_
              clear hg_ hnew_
              (first | rw [← Ny202.out] at ho23 | (simp only [Int.reduceToNat] at ho23; rw [← Ny202.out] at ho23))
              have n0_ := zK (Kd.N_elder' (by (with_reducible repeat (first | apply Kd.N_alloc | apply Kd.N_drewN | apply Kd.N_drew)); exact HO_10.out) (Kd.N_base ho23) hb)
              have n1_ := zK (Kd.N_elder' (by (with_reducible repeat (first | apply Kd.N_alloc | apply Kd.N_drewN | apply Kd.N_drew)); exact HO_11.out) (Kd.N_base ho23) hb)
              have n2_ := zK (Kd.V_elder' (by (with_reducible repeat (first | apply Kd.V_alloc | apply Kd.V_drewN | apply Kd.V_drew)); exact HO_29.out) (Kd.N_base ho23) hb)
              have n3_ := zK (Kd.V_elder' (by (with_reducible repeat (first | apply Kd.V_alloc | apply Kd.V_drewN | apply Kd.V_drew)); exact HL194_0.out) (Kd.N_base ho23) hb)
              have n4_ := zK (Kd.V_elder' (by (with_reducible repeat (first | apply Kd.V_alloc | apply Kd.V_drewN | apply Kd.V_drew)); exact HL194_1.out) (Kd.N_base ho23) hb)
              have n5_ := zK (Kd.N_elder' (by (with_reducible repeat (first | apply Kd.N_alloc | apply Kd.N_drewN | apply Kd.N_drew)); exact HO198.out) (Kd.N_base ho23) hb)
              have n6_ := zK (Kd.N_lower ho23 (yK (by repeat (first | (with_reducible first | exact HB.out | apply zJ | apply zD | apply zE | refine zI ?_ Z4.out) | exact HB.out))))
              have n7_ := zK (zP (g := Z18) (o := .cells #[.slice A194_0 ((rd_T49 l2 x31_2).f0).length c194_0, .slice A194_1 ((rd_T49 l2 x31_2).f1).length c194_1] 49 (0, 0)) (by (with_reducible repeat (first | refine zF ?_ _ | refine zH ?_ | refine zG ?_ _)); exact Z0.out) hb)
              have n8_ := zK (yL (by repeat (first | (with_reducible first | exact HB.out | apply zJ | apply zD | apply zE | refine zI ?_ Z4.out) | exact HB.out)) hb)
              clear HO_10 HO_11 HO_29 HL194_0 HL194_1 HO198 Z0 HB
              have HO_10 := n0_; have HO_11 := n1_; have HO_29 := n2_; have HL194_0 := n3_; have HL194_1 := n4_; have HO198 := n5_; have HO204 := n6_; have Z0 := n7_; have HB := n8_
              clear n0_ n1_ n2_ n3_ n4_ n5_ n6_ n7_ n8_ hb ho23
              obtain ⟨Ao25, co25, eo25⟩ := Kd.N_slice HO198.out
              (first | subst eo25 | (injection eo25 with f1_ f2_ f3_; have f4_ := f1_.symm; have f5_ := f3_.symm; clear f1_ f2_ f3_; subst f4_; subst f5_))
              refine hK.out _ _ ⟨(zO Z0.out 0).trans rfl, (zO Z0.out 1).trans rfl⟩ (fun hHeld => ?_)
              clear hK K
              refine norm_ (a' := ?_) ?_ ?_
              rotate_left
              ·show Act.put _ (some 43) _ = _
               simp only [Act.put, zA, zB, zC, i64_w, i32_w]
               rfl
              refine one_ (i := 4) (N := some 39) #[true, true, true, true, true, true, true, true, true, false, false, false] rfl rfl (one_of HT_.out (by kernel_rfl)) (by decide) (fun K hK => ?_)
              refine Kd.N_append_rows_step (Kd.slice 53 (Kd.int .i8)) (w0 := w) w.heap.size (by rfl) (.tmp 35) (.tmp 38) 23 22 (.slice none 0 0) 24 rfl Try.underlying23 info22 rfl (by decide) (by omega) (.slice Ao16 x10_2.length co16) x10_2 y196 _ _ _ (fun k_ => (P2_ k_ ∨ w.heap.size ≤ k_) ∧ some k_ ≠ (.slice Ao17 x11_2.length co17 : Value).ownBlock ∧ some k_ ≠ (v203 : Value).ownBlock ∧ k_ ≠ Z18) (fun k_ => ((fun k_ => (P2_ k_ ∨ w.heap.size ≤ k_) ∧ some k_ ≠ (.slice Ao17 x11_2.length co17 : Value).ownBlock ∧ some k_ ≠ (v203 : Value).ownBlock ∧ k_ ≠ Z18)) k_ ∧ some k_ ≠ (.slice Ao16 x10_2.length co16 : Value).ownBlock) rfl rfl ?aO ?aR (fun _ hk => hk) ?aF ?aB ?aS ?aL ?_
              (case aR => exact (by skip; exact Kd.N_F (Kd.N_mono (ok' := (fun k_ => ((fun k_ => (P2_ k_ ∨ w.heap.size ≤ k_) ∧ some k_ ≠ (.slice Ao17 x11_2.length co17 : Value).ownBlock ∧ some k_ ≠ (v203 : Value).ownBlock ∧ k_ ≠ Z18)) k_ ∧ some k_ ≠ (.slice Ao16 x10_2.length co16 : Value).ownBlock)) (HO198.out) (fun k_ hk => ⟨⟨hk.1.1, ⟨hk.1.2.2.1, ⟨hk.2, hk.1.2.2.2⟩⟩⟩, hk.1.2.1⟩))))
              (case aB => exact (by repeat (first | (with_reducible first | exact HB.out | apply zJ | apply zD | apply zE | refine zI ?_ Z4.out) | exact HB.out)))
              (case aF => exact (fun k_ hk => ⟨(.inr (yl (yK (by repeat (first | (with_reducible first | exact HB.out | apply zJ | apply zD | apply zE | refine zI ?_ Z4.out) | exact HB.out))) hk)), Kd.fresh' (Kd.N_lt (by (with_reducible repeat (first | apply Kd.N_alloc | apply Kd.N_drewN | apply Kd.N_drew)); exact HO_11.out)) k_ hk, Kd.fresh' (Kd.N_lt (by (with_reducible repeat (first | apply Kd.N_alloc | apply Kd.N_drewN | apply Kd.N_drew)); exact HO204.out)) k_ hk, Kd.freshB (g := Z18) (o := .cells #[.slice A194_0 ((rd_T49 l2 x31_2).f0).length c194_0, .slice A194_1 ((rd_T49 l2 x31_2).f1).length c194_1] 49 (0, 0)) (by (with_reducible repeat (first | refine zF ?_ _ | refine zH ?_ | refine zG ?_ _)); exact Z0.out) k_ hk⟩))
              (case aO => exact (by (with_reducible repeat (first | apply Kd.N_alloc | apply Kd.N_drewN | apply Kd.N_drew)); exact Kd.N_mono HO_10.out (fun _ hk => ⟨hk.1.1.1, ⟨hk.1.1.2.1, ⟨hk.2, hk.1.1.2.2⟩⟩⟩)))
              (case aS => exact (yK (by repeat (first | (with_reducible first | exact HB.out | apply zJ | apply zD | apply zE | refine zI ?_ Z4.out) | exact HB.out))))
              (case aL => have := LMc12.out; omega)
              intro v200 w24 ho hb hg hat
              rw [← Ny199.out] at ho
              have n0_ := zK (Kd.N_afterv (ok := (fun k_ => (P2_ k_ ∨ w.heap.size ≤ k_) ∧ some k_ ≠ (.slice Ao25 y196.length co25 : Value).ownBlock ∧ some k_ ≠ (v203 : Value).ownBlock ∧ k_ ≠ Z18)) (by (with_reducible repeat (first | apply Kd.N_alloc | apply Kd.N_drewN | apply Kd.N_drew)); exact Kd.N_mono HO_11.out (fun _ hk => ⟨⟨hk.1.1.1, ⟨hk.1.2, ⟨hk.2, hk.1.1.2.2⟩⟩⟩, hk.1.1.2.1⟩)) hg hat)
              have n1_ := zK (Kd.V_afterv (ok := (fun k_ => (P2_ k_ ∨ w.heap.size ≤ k_) ∧ some k_ ≠ (.slice Ao17 x11_2.length co17 : Value).ownBlock ∧ some k_ ≠ (.slice Ao25 y196.length co25 : Value).ownBlock ∧ some k_ ≠ (v203 : Value).ownBlock ∧ k_ ≠ Z18)) (by (with_reducible repeat (first | apply Kd.V_alloc | apply Kd.V_drewN | apply Kd.V_drew)); exact Kd.V_mono HO_29.out (fun _ hk => ⟨⟨hk.1.1.1, ⟨hk.1.1.2.2.1, ⟨hk.1.2, ⟨hk.2, hk.1.1.2.2.2⟩⟩⟩⟩, hk.1.1.2.1⟩)) hg hat)
              have n2_ := zK (Kd.V_afterv (ok := (fun k_ => (P2_ k_ ∨ w.heap.size ≤ k_) ∧ some k_ ≠ (.slice Ao17 x11_2.length co17 : Value).ownBlock ∧ some k_ ≠ (.slice Ao25 y196.length co25 : Value).ownBlock ∧ some k_ ≠ (v203 : Value).ownBlock ∧ k_ ≠ Z18)) (by (with_reducible repeat (first | apply Kd.V_alloc | apply Kd.V_drewN | apply Kd.V_drew)); exact Kd.V_mono HL194_0.out (fun _ hk => ⟨⟨hk.1.1.1, ⟨hk.1.1.2.2.1, ⟨hk.1.2, ⟨hk.2, hk.1.1.2.2.2⟩⟩⟩⟩, hk.1.1.2.1⟩)) hg hat)
              have n3_ := zK (Kd.V_afterv (ok := (fun k_ => (P2_ k_ ∨ w.heap.size ≤ k_) ∧ some k_ ≠ (.slice Ao17 x11_2.length co17 : Value).ownBlock ∧ some k_ ≠ (.slice Ao25 y196.length co25 : Value).ownBlock ∧ some k_ ≠ (v203 : Value).ownBlock ∧ k_ ≠ Z18)) (by (with_reducible repeat (first | apply Kd.V_alloc | apply Kd.V_drewN | apply Kd.V_drew)); exact Kd.V_mono HL194_1.out (fun _ hk => ⟨⟨hk.1.1.1, ⟨hk.1.1.2.2.1, ⟨hk.1.2, ⟨hk.2, hk.1.1.2.2.2⟩⟩⟩⟩, hk.1.1.2.1⟩)) hg hat)
              have n4_ := zK (blk_grown (g := Z18) (o := .cells #[.slice A194_0 ((rd_T49 l2 x31_2).f0).length c194_0, .slice A194_1 ((rd_T49 l2 x31_2).f1).length c194_1] 49 (0, 0)) (by (with_reducible repeat (first | refine zF ?_ _ | refine zH ?_ | refine zG ?_ _)); exact Z0.out) hg (Kd.N_ne HO_10.out Z0.out (by decide)))
              have n5_ := zK (Kd.N_afterv (ok := (fun k_ => (P2_ k_ ∨ w.heap.size ≤ k_) ∧ some k_ ≠ (.slice Ao17 x11_2.length co17 : Value).ownBlock ∧ some k_ ≠ (v203 : Value).ownBlock ∧ k_ ≠ Z18)) (by (with_reducible repeat (first | apply Kd.N_alloc | apply Kd.N_drewN | apply Kd.N_drew)); exact Kd.N_mono HO198.out (fun _ hk => ⟨⟨hk.1.1, ⟨hk.1.2.2.1, ⟨hk.2, hk.1.2.2.2⟩⟩⟩, hk.1.2.1⟩)) hg hat)
              have n6_ := zK (Kd.N_afterv (ok := (fun k_ => (P2_ k_ ∨ w.heap.size ≤ k_) ∧ some k_ ≠ (.slice Ao17 x11_2.length co17 : Value).ownBlock ∧ some k_ ≠ (.slice Ao25 y196.length co25 : Value).ownBlock ∧ k_ ≠ Z18)) (by (with_reducible repeat (first | apply Kd.N_alloc | apply Kd.N_drewN | apply Kd.N_drew)); exact Kd.N_mono HO204.out (fun _ hk => ⟨⟨hk.1, ⟨hk.2.2.1, ⟨hk.2.2.2.1, hk.2.2.2.2⟩⟩⟩, hk.2.1⟩)) hg hat)
              have n7_ := zK (hb)
              have n8_ := zK (ho)
              clear HO_11 HO_29 HL194_0 HL194_1 Z0 HO198 HO204 HB HO_10
              have HO_11 := n0_; have HO_29 := n1_; have HL194_0 := n2_; have HL194_1 := n3_; have Z0 := n4_; have HO198 := n5_; have HO204 := n6_; have HB := n7_; have HO201 := n8_
              clear n0_ n1_ n2_ n3_ n4_ n5_ n6_ n7_ n8_ ho hb hg hat
              refine hK.out _ _ ⟨(zO Z0.out 0).trans rfl, (zO Z0.out 1).trans rfl⟩ (fun hHeld => ?_)
              clear hK K
              refine norm_ (a' := ?_) ?_ ?_
              rotate_left
              ·show Act.put _ (some 39) _ = _
               simp only [Act.put, zA, zB, zC, i64_w, i32_w]
               rfl
              exact norm_ (by simp only [putAll, Act.put, zA, zB, zC]) (hCont (.slice Ao25 y196.length co25, v200, v203) _ ⟨hHeld, (by (with_reducible repeat (first | apply Kd.V_alloc | apply Kd.V_drewN | apply Kd.V_drew)); exact Kd.V_mono HL194_0.out (fun _ hk => ⟨hk.1.1, ⟨hk.1.2.2.1, ⟨hk.2, ⟨hk.1.2.2.2.1, ⟨hk.1.2.1, hk.1.2.2.2.2⟩⟩⟩⟩⟩)), (by (with_reducible repeat (first | apply Kd.V_alloc | apply Kd.V_drewN | apply Kd.V_drew)); exact Kd.V_mono HL194_1.out (fun _ hk => ⟨hk.1.1, ⟨hk.1.2.2.1, ⟨hk.2, ⟨hk.1.2.2.2.1, ⟨hk.1.2.1, hk.1.2.2.2.2⟩⟩⟩⟩⟩)), (by (with_reducible repeat (first | apply Kd.N_alloc | apply Kd.N_drewN | apply Kd.N_drew)); exact Kd.N_mono HO198.out (fun _ hk => ⟨hk.1.1, ⟨hk.2, ⟨hk.1.2.2.1, ⟨hk.1.2.1, hk.1.2.2.2⟩⟩⟩⟩)), (by (with_reducible repeat (first | apply Kd.N_alloc | apply Kd.N_drewN | apply Kd.N_drew)); exact Kd.N_mono HO201.out (fun _ hk => ⟨hk.1, ⟨hk.2.2.1, ⟨hk.2.1, hk.2.2.2⟩⟩⟩)), (by (with_reducible repeat (first | apply Kd.N_alloc | apply Kd.N_drewN | apply Kd.N_drew)); exact Kd.N_mono HO204.out (fun _ hk => ⟨hk.1.1, ⟨hk.1.2.2.1, ⟨hk.2, ⟨hk.1.2.1, hk.1.2.2.2⟩⟩⟩⟩)), (by (with_reducible repeat (first | apply Kd.N_alloc | apply Kd.N_drewN | apply Kd.N_drew)); exact Kd.N_mono HO_11.out (fun _ hk => ⟨hk.1.1, ⟨hk.1.2.1, ⟨hk.2, ⟨hk.1.2.2.1, hk.1.2.2.2⟩⟩⟩⟩)), (by (with_reducible repeat (first | apply Kd.V_alloc | apply Kd.V_drewN | apply Kd.V_drew)); exact Kd.V_mono HO_29.out (fun _ hk => ⟨hk.1.1, ⟨hk.1.2.2.1, ⟨hk.2, ⟨hk.1.2.2.2.1, ⟨hk.1.2.1, hk.1.2.2.2.2⟩⟩⟩⟩⟩)), (by (with_reducible repeat (first | refine zF ?_ _ | refine zH ?_ | refine zG ?_ _)); exact Z0.out), (by repeat (first | (with_reducible first | exact HB.out | apply zJ | apply zD | apply zE | refine zI ?_ Z4.out) | exact HB.out))⟩)
            ·skip
             refine Kd.N_lit_step (Kd.slice 53 (Kd.int .i8)) _ 22 ?hg (N' := 43) ?hd (xs := ([(rd_T49 l2 x31_2).f1] : List (List Int))) (inner := [.slice A194_1 ((rd_T49 l2 x31_2).f1).length c194_1]) (ok := (fun k_ => (P2_ k_ ∨ w.heap.size ≤ k_) ∧ some k_ ≠ (.slice Ao16 x10_2.length co16 : Value).ownBlock ∧ some k_ ≠ (.slice Ao17 x11_2.length co17 : Value).ownBlock ∧ k_ ≠ Z18)) (okp := (fun k_ => (P2_ k_ ∨ w.heap.size ≤ k_) ∧ some k_ ≠ (.slice Ao16 x10_2.length co16 : Value).ownBlock ∧ some k_ ≠ (.slice Ao17 x11_2.length co17 : Value).ownBlock ∧ k_ ≠ Z18)) ?hr ?hp (fun _ hk => hk) ((show ∀ k_, w19.heap.size ≤ k_ → (fun k_ => (P2_ k_ ∨ w.heap.size ≤ k_) ∧ some k_ ≠ (.slice Ao16 x10_2.length co16 : Value).ownBlock ∧ some k_ ≠ (.slice Ao17 x11_2.length co17 : Value).ownBlock ∧ k_ ≠ Z18) k_ from fun k_ hk => ⟨(.inr (yl (yK (by repeat (first | (with_reducible first | exact HB.out | apply zJ | apply zD | apply zE | refine zI ?_ Z4.out) | exact HB.out))) hk)), Kd.fresh' (Kd.N_lt (by (with_reducible repeat (first | apply Kd.N_alloc | apply Kd.N_drewN | apply Kd.N_drew)); exact HO_10.out)) k_ hk, Kd.fresh' (Kd.N_lt (by (with_reducible repeat (first | apply Kd.N_alloc | apply Kd.N_drewN | apply Kd.N_drew)); exact HO_11.out)) k_ hk, Kd.freshB (g := Z18) (o := .cells #[.slice A194_0 ((rd_T49 l2 x31_2).f0).length c194_0, .slice A194_1 ((rd_T49 l2 x31_2).f1).length c194_1] 49 (0, 0)) (by (with_reducible repeat (first | refine zF ?_ _ | refine zH ?_ | refine zG ?_ _)); exact Z0.out) k_ hk⟩) _ (yN _)) (Below.refl _ _) (yN _) (by simp) ?_; (case hd => rfl); (case hg => rfl); (case hr => first | (go_simp; done) | (go_simp; rfl)); (case hp => exact (Reps.one (show Kd.FK (Kd.slice 53 (Kd.int .i8)) _ _ ((rd_T49 l2 x31_2).f1) [.slice A194_1 ((rd_T49 l2 x31_2).f1).length c194_1] from (Kd.FK_slice_mk (Kd.V_reads' (Kd.V_mono (ok' := (fun k_ => (P2_ k_ ∨ w.heap.size ≤ k_) ∧ some k_ ≠ (.slice Ao16 x10_2.length co16 : Value).ownBlock ∧ some k_ ≠ (.slice Ao17 x11_2.length co17 : Value).ownBlock ∧ k_ ≠ Z18)) (HL194_1.out) (fun k_ hk => ⟨hk.1, ⟨hk.2.1, ⟨hk.2.2.1, hk.2.2.2⟩⟩⟩))).2.1 (Kd.V_F (Kd.V_mono (ok' := (fun k_ => (P2_ k_ ∨ w.heap.size ≤ k_) ∧ some k_ ≠ (.slice Ao16 x10_2.length co16 : Value).ownBlock ∧ some k_ ≠ (.slice Ao17 x11_2.length co17 : Value).ownBlock ∧ k_ ≠ Z18)) (HL194_1.out) (fun k_ hk => ⟨hk.1, ⟨hk.2.1, ⟨hk.2.2.1, hk.2.2.2⟩⟩⟩))))) (Reps.none _ _)))
             intro v203 w20 ho21 hb hg_ hnew_
             clear hg_ hnew_
             (first | rw [← Ny202.out] at ho21 | (simp only [Int.reduceToNat] at ho21; rw [← Ny202.out] at ho21))
             have n0_ := zK (Kd.N_elder' (by (with_reducible repeat (first | apply Kd.N_alloc | apply Kd.N_drewN | apply Kd.N_drew)); exact HO_10.out) (Kd.N_base ho21) hb)
             have n1_ := zK (Kd.N_elder' (by (with_reducible repeat (first | apply Kd.N_alloc | apply Kd.N_drewN | apply Kd.N_drew)); exact HO_11.out) (Kd.N_base ho21) hb)
             have n2_ := zK (Kd.V_elder' (by (with_reducible repeat (first | apply Kd.V_alloc | apply Kd.V_drewN | apply Kd.V_drew)); exact HO_29.out) (Kd.N_base ho21) hb)
             have n3_ := zK (Kd.V_elder' (by (with_reducible repeat (first | apply Kd.V_alloc | apply Kd.V_drewN | apply Kd.V_drew)); exact HL194_0.out) (Kd.N_base ho21) hb)
             have n4_ := zK (Kd.V_elder' (by (with_reducible repeat (first | apply Kd.V_alloc | apply Kd.V_drewN | apply Kd.V_drew)); exact HL194_1.out) (Kd.N_base ho21) hb)
             have n5_ := zK (Kd.N_lower ho21 (yK (by repeat (first | (with_reducible first | exact HB.out | apply zJ | apply zD | apply zE | refine zI ?_ Z4.out) | exact HB.out))))
             have n6_ := zK (zP (g := Z18) (o := .cells #[.slice A194_0 ((rd_T49 l2 x31_2).f0).length c194_0, .slice A194_1 ((rd_T49 l2 x31_2).f1).length c194_1] 49 (0, 0)) (by (with_reducible repeat (first | refine zF ?_ _ | refine zH ?_ | refine zG ?_ _)); exact Z0.out) hb)
             have n7_ := zK (yL (by repeat (first | (with_reducible first | exact HB.out | apply zJ | apply zD | apply zE | refine zI ?_ Z4.out) | exact HB.out)) hb)
             clear HO_10 HO_11 HO_29 HL194_0 HL194_1 Z0 HB
             have HO_10 := n0_; have HO_11 := n1_; have HO_29 := n2_; have HL194_0 := n3_; have HL194_1 := n4_; have HO204 := n5_; have Z0 := n6_; have HB := n7_
             clear n0_ n1_ n2_ n3_ n4_ n5_ n6_ n7_ hb ho21
             refine hK.out _ _ ⟨(zO Z0.out 0).trans rfl, (zO Z0.out 1).trans rfl⟩ (fun hHeld => ?_)
             clear hK K
             refine norm_ (a' := ?_) ?_ ?_
             rotate_left
             ·show Act.put _ (some 43) _ = _
              simp only [Act.put, zA, zB, zC, i64_w, i32_w]
              rfl
             refine one_ (i := 3) (N := some 38) #[true, true, true, true, false, true, true, true, true, false, false, false] rfl rfl (one_of HT_.out (by kernel_rfl)) (by decide) (fun K hK => ?_)
             refine Kd.N_lit_step (Kd.slice 53 (Kd.int .i8)) _ 22 ?hg (N' := 38) ?hd (xs := ([(rd_T49 l2 x31_2).f0] : List (List Int))) (inner := [.slice A194_0 ((rd_T49 l2 x31_2).f0).length c194_0]) (ok := (fun k_ => (P2_ k_ ∨ w.heap.size ≤ k_) ∧ some k_ ≠ (.slice Ao16 x10_2.length co16 : Value).ownBlock ∧ some k_ ≠ (.slice Ao17 x11_2.length co17 : Value).ownBlock ∧ some k_ ≠ (v203 : Value).ownBlock ∧ k_ ≠ Z18)) (okp := (fun k_ => (P2_ k_ ∨ w.heap.size ≤ k_) ∧ some k_ ≠ (.slice Ao16 x10_2.length co16 : Value).ownBlock ∧ some k_ ≠ (.slice Ao17 x11_2.length co17 : Value).ownBlock ∧ some k_ ≠ (v203 : Value).ownBlock ∧ k_ ≠ Z18)) ?hr ?hp (fun _ hk => hk) ((show ∀ k_, w20.heap.size ≤ k_ → (fun k_ => (P2_ k_ ∨ w.heap.size ≤ k_) ∧ some k_ ≠ (.slice Ao16 x10_2.length co16 : Value).ownBlock ∧ some k_ ≠ (.slice Ao17 x11_2.length co17 : Value).ownBlock ∧ some k_ ≠ (v203 : Value).ownBlock ∧ k_ ≠ Z18) k_ from fun k_ hk => ⟨(.inr (yl (yK (by repeat (first | (with_reducible first | exact HB.out | apply zJ | apply zD | apply zE | refine zI ?_ Z4.out) | exact HB.out))) hk)), Kd.fresh' (Kd.N_lt (by (with_reducible repeat (first | apply Kd.N_alloc | apply Kd.N_drewN | apply Kd.N_drew)); exact HO_10.out)) k_ hk, Kd.fresh' (Kd.N_lt (by (with_reducible repeat (first | apply Kd.N_alloc | apply Kd.N_drewN | apply Kd.N_drew)); exact HO_11.out)) k_ hk, Kd.fresh' (Kd.N_lt (by (with_reducible repeat (first | apply Kd.N_alloc | apply Kd.N_drewN | apply Kd.N_drew)); exact HO204.out)) k_ hk, Kd.freshB (g := Z18) (o := .cells #[.slice A194_0 ((rd_T49 l2 x31_2).f0).length c194_0, .slice A194_1 ((rd_T49 l2 x31_2).f1).length c194_1] 49 (0, 0)) (by (with_reducible repeat (first | refine zF ?_ _ | refine zH ?_ | refine zG ?_ _)); exact Z0.out) k_ hk⟩) _ (yN _)) (Below.refl _ _) (yN _) (by simp) ?_; (case hd => rfl); (case hg => rfl); (case hr => first | (go_simp; done) | (go_simp; rfl)); (case hp => exact (Reps.one (show Kd.FK (Kd.slice 53 (Kd.int .i8)) _ _ ((rd_T49 l2 x31_2).f0) [.slice A194_0 ((rd_T49 l2 x31_2).f0).length c194_0] from (Kd.FK_slice_mk (Kd.V_reads' (Kd.V_mono (ok' := (fun k_ => (P2_ k_ ∨ w.heap.size ≤ k_) ∧ some k_ ≠ (.slice Ao16 x10_2.length co16 : Value).ownBlock ∧ some k_ ≠ (.slice Ao17 x11_2.length co17 : Value).ownBlock ∧ some k_ ≠ (v203 : Value).ownBlock ∧ k_ ≠ Z18)) (HL194_0.out) (fun k_ hk => ⟨hk.1.1, ⟨hk.1.2.1, ⟨hk.1.2.2.1, ⟨hk.2, hk.1.2.2.2⟩⟩⟩⟩))).2.1 (Kd.V_F (Kd.V_mono (ok' := (fun k_ => (P2_ k_ ∨ w.heap.size ≤ k_) ∧ some k_ ≠ (.slice Ao16 x10_2.length co16 : Value).ownBlock ∧ some k_ ≠ (.slice Ao17 x11_2.length co17 : Value).ownBlock ∧ some k_ ≠ (v203 : Value).ownBlock ∧ k_ ≠ Z18)) (HL194_0.out) (fun k_ hk => ⟨hk.1.1, ⟨hk.1.2.1, ⟨hk.1.2.2.1, ⟨hk.2, hk.1.2.2.2⟩⟩⟩⟩))))) (Reps.none _ _)))
             intro v197 w22 ho23 hb hg_ hnew_
             clear hg_ hnew_
             (first | rw [← Ny196.out] at ho23 | (simp only [Int.reduceToNat] at ho23; rw [← Ny196.out] at ho23))
             have n0_ := zK (Kd.N_elder' (by (with_reducible repeat (first | apply Kd.N_alloc | apply Kd.N_drewN | apply Kd.N_drew)); exact HO_10.out) (Kd.N_base ho23) hb)
             have n1_ := zK (Kd.N_elder' (by (with_reducible repeat (first | apply Kd.N_alloc | apply Kd.N_drewN | apply Kd.N_drew)); exact HO_11.out) (Kd.N_base ho23) hb)
             have n2_ := zK (Kd.V_elder' (by (with_reducible repeat (first | apply Kd.V_alloc | apply Kd.V_drewN | apply Kd.V_drew)); exact HO_29.out) (Kd.N_base ho23) hb)
             have n3_ := zK (Kd.V_elder' (by (with_reducible repeat (first | apply Kd.V_alloc | apply Kd.V_drewN | apply Kd.V_drew)); exact HL194_0.out) (Kd.N_base ho23) hb)
             have n4_ := zK (Kd.V_elder' (by (with_reducible repeat (first | apply Kd.V_alloc | apply Kd.V_drewN | apply Kd.V_drew)); exact HL194_1.out) (Kd.N_base ho23) hb)
             have n5_ := zK (Kd.N_elder' (by (with_reducible repeat (first | apply Kd.N_alloc | apply Kd.N_drewN | apply Kd.N_drew)); exact HO204.out) (Kd.N_base ho23) hb)
             have n6_ := zK (Kd.N_lower ho23 (yK (by repeat (first | (with_reducible first | exact HB.out | apply zJ | apply zD | apply zE | refine zI ?_ Z4.out) | exact HB.out))))
             have n7_ := zK (zP (g := Z18) (o := .cells #[.slice A194_0 ((rd_T49 l2 x31_2).f0).length c194_0, .slice A194_1 ((rd_T49 l2 x31_2).f1).length c194_1] 49 (0, 0)) (by (with_reducible repeat (first | refine zF ?_ _ | refine zH ?_ | refine zG ?_ _)); exact Z0.out) hb)
             have n8_ := zK (yL (by repeat (first | (with_reducible first | exact HB.out | apply zJ | apply zD | apply zE | refine zI ?_ Z4.out) | exact HB.out)) hb)
             clear HO_10 HO_11 HO_29 HL194_0 HL194_1 HO204 Z0 HB
             have HO_10 := n0_; have HO_11 := n1_; have HO_29 := n2_; have HL194_0 := n3_; have HL194_1 := n4_; have HO204 := n5_; have HO198 := n6_; have Z0 := n7_; have HB := n8_
             clear n0_ n1_ n2_ n3_ n4_ n5_ n6_ n7_ n8_ hb ho23
             obtain ⟨Ao25, co25, eo25⟩ := Kd.N_slice HO198.out
             (first | subst eo25 | (injection eo25 with f1_ f2_ f3_; have f4_ := f1_.symm; have f5_ := f3_.symm; clear f1_ f2_ f3_; subst f4_; subst f5_))
             refine hK.out _ _ ⟨(zO Z0.out 0).trans rfl, (zO Z0.out 1).trans rfl⟩ (fun hHeld => ?_)
             clear hK K
             refine norm_ (a' := ?_) ?_ ?_
             rotate_left
             ·show Act.put _ (some 38) _ = _
              simp only [Act.put, zA, zB, zC, i64_w, i32_w]
              rfl
             refine one_ (i := 4) (N := some 39) #[true, true, true, true, true, true, true, true, true, false, false, false] rfl rfl (one_of HT_.out (by kernel_rfl)) (by decide) (fun K hK => ?_)
             refine Kd.N_append_rows_step (Kd.slice 53 (Kd.int .i8)) (w0 := w) w.heap.size (by rfl) (.tmp 35) (.tmp 38) 23 22 (.slice none 0 0) 24 rfl Try.underlying23 info22 rfl (by decide) (by omega) (.slice Ao16 x10_2.length co16) x10_2 y196 _ _ _ (fun k_ => (P2_ k_ ∨ w.heap.size ≤ k_) ∧ some k_ ≠ (.slice Ao17 x11_2.length co17 : Value).ownBlock ∧ some k_ ≠ (v203 : Value).ownBlock ∧ k_ ≠ Z18) (fun k_ => ((fun k_ => (P2_ k_ ∨ w.heap.size ≤ k_) ∧ some k_ ≠ (.slice Ao17 x11_2.length co17 : Value).ownBlock ∧ some k_ ≠ (v203 : Value).ownBlock ∧ k_ ≠ Z18)) k_ ∧ some k_ ≠ (.slice Ao16 x10_2.length co16 : Value).ownBlock) rfl rfl ?aO ?aR (fun _ hk => hk) ?aF ?aB ?aS ?aL ?_
             (case aR => exact (by skip; exact Kd.N_F (Kd.N_mono (ok' := (fun k_ => ((fun k_ => (P2_ k_ ∨ w.heap.size ≤ k_) ∧ some k_ ≠ (.slice Ao17 x11_2.length co17 : Value).ownBlock ∧ some k_ ≠ (v203 : Value).ownBlock ∧ k_ ≠ Z18)) k_ ∧ some k_ ≠ (.slice Ao16 x10_2.length co16 : Value).ownBlock)) (HO198.out) (fun k_ hk => ⟨⟨hk.1, ⟨hk.2.2.1, ⟨hk.2.2.2.1, hk.2.2.2.2⟩⟩⟩, hk.2.1⟩))))
             (case aB => exact (by repeat (first | (with_reducible first | exact HB.out | apply zJ | apply zD | apply zE | refine zI ?_ Z4.out) | exact HB.out)))
             (case aF => exact (fun k_ hk => ⟨(.inr (yl (yK (by repeat (first | (with_reducible first | exact HB.out | apply zJ | apply zD | apply zE | refine zI ?_ Z4.out) | exact HB.out))) hk)), Kd.fresh' (Kd.N_lt (by (with_reducible repeat (first | apply Kd.N_alloc | apply Kd.N_drewN | apply Kd.N_drew)); exact HO_11.out)) k_ hk, Kd.fresh' (Kd.N_lt (by (with_reducible repeat (first | apply Kd.N_alloc | apply Kd.N_drewN | apply Kd.N_drew)); exact HO204.out)) k_ hk, Kd.freshB (g := Z18) (o := .cells #[.slice A194_0 ((rd_T49 l2 x31_2).f0).length c194_0, .slice A194_1 ((rd_T49 l2 x31_2).f1).length c194_1] 49 (0, 0)) (by (with_reducible repeat (first | refine zF ?_ _ | refine zH ?_ | refine zG ?_ _)); exact Z0.out) k_ hk⟩))
             (case aO => exact (by (with_reducible repeat (first | apply Kd.N_alloc | apply Kd.N_drewN | apply Kd.N_drew)); exact Kd.N_mono HO_10.out (fun _ hk => ⟨hk.1.1.1, ⟨hk.1.1.2.1, ⟨hk.1.2, hk.1.1.2.2⟩⟩⟩)))
             (case aS => exact (yK (by repeat (first | (with_reducible first | exact HB.out | apply zJ | apply zD | apply zE | refine zI ?_ Z4.out) | exact HB.out))))
             (case aL => have := LMc12.out; omega)
             intro v200 w24 ho hb hg hat
             rw [← Ny199.out] at ho
             have n0_ := zK (Kd.N_afterv (ok := (fun k_ => (P2_ k_ ∨ w.heap.size ≤ k_) ∧ some k_ ≠ (v203 : Value).ownBlock ∧ some k_ ≠ (.slice Ao25 y196.length co25 : Value).ownBlock ∧ k_ ≠ Z18)) (by (with_reducible repeat (first | apply Kd.N_alloc | apply Kd.N_drewN | apply Kd.N_drew)); exact Kd.N_mono HO_11.out (fun _ hk => ⟨⟨hk.1.1.1, ⟨hk.1.2, ⟨hk.2, hk.1.1.2.2⟩⟩⟩, hk.1.1.2.1⟩)) hg hat)
             have n1_ := zK (Kd.V_afterv (ok := (fun k_ => (P2_ k_ ∨ w.heap.size ≤ k_) ∧ some k_ ≠ (.slice Ao17 x11_2.length co17 : Value).ownBlock ∧ some k_ ≠ (v203 : Value).ownBlock ∧ some k_ ≠ (.slice Ao25 y196.length co25 : Value).ownBlock ∧ k_ ≠ Z18)) (by (with_reducible repeat (first | apply Kd.V_alloc | apply Kd.V_drewN | apply Kd.V_drew)); exact Kd.V_mono HO_29.out (fun _ hk => ⟨⟨hk.1.1.1, ⟨hk.1.1.2.2.1, ⟨hk.1.2, ⟨hk.2, hk.1.1.2.2.2⟩⟩⟩⟩, hk.1.1.2.1⟩)) hg hat)
             have n2_ := zK (Kd.V_afterv (ok := (fun k_ => (P2_ k_ ∨ w.heap.size ≤ k_) ∧ some k_ ≠ (.slice Ao17 x11_2.length co17 : Value).ownBlock ∧ some k_ ≠ (v203 : Value).ownBlock ∧ some k_ ≠ (.slice Ao25 y196.length co25 : Value).ownBlock ∧ k_ ≠ Z18)) (by (with_reducible repeat (first | apply Kd.V_alloc | apply Kd.V_drewN | apply Kd.V_drew)); exact Kd.V_mono HL194_0.out (fun _ hk => ⟨⟨hk.1.1.1, ⟨hk.1.1.2.2.1, ⟨hk.1.2, ⟨hk.2, hk.1.1.2.2.2⟩⟩⟩⟩, hk.1.1.2.1⟩)) hg hat)
             have n3_ := zK (Kd.V_afterv (ok := (fun k_ => (P2_ k_ ∨ w.heap.size ≤ k_) ∧ some k_ ≠ (.slice Ao17 x11_2.length co17 : Value).ownBlock ∧ some k_ ≠ (v203 : Value).ownBlock ∧ some k_ ≠ (.slice Ao25 y196.length co25 : Value).ownBlock ∧ k_ ≠ Z18)) (by (with_reducible repeat (first | apply Kd.V_alloc | apply Kd.V_drewN | apply Kd.V_drew)); exact Kd.V_mono HL194_1.out (fun _ hk => ⟨⟨hk.1.1.1, ⟨hk.1.1.2.2.1, ⟨hk.1.2, ⟨hk.2, hk.1.1.2.2.2⟩⟩⟩⟩, hk.1.1.2.1⟩)) hg hat)
             have n4_ := zK (blk_grown (g := Z18) (o := .cells #[.slice A194_0 ((rd_T49 l2 x31_2).f0).length c194_0, .slice A194_1 ((rd_T49 l2 x31_2).f1).length c194_1] 49 (0, 0)) (by (with_reducible repeat (first | refine zF ?_ _ | refine zH ?_ | refine zG ?_ _)); exact Z0.out) hg (Kd.N_ne HO_10.out Z0.out (by decide)))
             have n5_ := zK (Kd.N_afterv (ok := (fun k_ => (P2_ k_ ∨ w.heap.size ≤ k_) ∧ some k_ ≠ (.slice Ao17 x11_2.length co17 : Value).ownBlock ∧ some k_ ≠ (.slice Ao25 y196.length co25 : Value).ownBlock ∧ k_ ≠ Z18)) (by (with_reducible repeat (first | apply Kd.N_alloc | apply Kd.N_drewN | apply Kd.N_drew)); exact Kd.N_mono HO204.out (fun _ hk => ⟨⟨hk.1.1, ⟨hk.1.2.2.1, ⟨hk.2, hk.1.2.2.2⟩⟩⟩, hk.1.2.1⟩)) hg hat)
             have n6_ := zK (Kd.N_afterv (ok := (fun k_ => (P2_ k_ ∨ w.heap.size ≤ k_) ∧ some k_ ≠ (.slice Ao17 x11_2.length co17 : Value).ownBlock ∧ some k_ ≠ (v203 : Value).ownBlock ∧ k_ ≠ Z18)) (by (with_reducible repeat (first | apply Kd.N_alloc | apply Kd.N_drewN | apply Kd.N_drew)); exact Kd.N_mono HO198.out (fun _ hk => ⟨⟨hk.1, ⟨hk.2.2.1, ⟨hk.2.2.2.1, hk.2.2.2.2⟩⟩⟩, hk.2.1⟩)) hg hat)
             have n7_ := zK (hb)
             have n8_ := zK (ho)
             clear HO_11 HO_29 HL194_0 HL194_1 Z0 HO204 HO198 HB HO_10
             have HO_11 := n0_; have HO_29 := n1_; have HL194_0 := n2_; have HL194_1 := n3_; have Z0 := n4_; have HO204 := n5_; have HO198 := n6_; have HB := n7_; have HO201 := n8_
             clear n0_ n1_ n2_ n3_ n4_ n5_ n6_ n7_ n8_ ho hb hg hat
             refine hK.out _ _ ⟨(zO Z0.out 0).trans rfl, (zO Z0.out 1).trans rfl⟩ (fun hHeld => ?_)
             clear hK K
             refine norm_ (a' := ?_) ?_ ?_
             rotate_left
             ·show Act.put _ (some 39) _ = _
              simp only [Act.put, zA, zB, zC, i64_w, i32_w]
              rfl
             exact norm_ (by simp only [putAll, Act.put, zA, zB, zC]) (hCont (.slice Ao25 y196.length co25, v200, v203) _ ⟨hHeld, (by (with_reducible repeat (first | apply Kd.V_alloc | apply Kd.V_drewN | apply Kd.V_drew)); exact Kd.V_mono HL194_0.out (fun _ hk => ⟨hk.1.1, ⟨hk.1.2.2.2.1, ⟨hk.2, ⟨hk.1.2.2.1, ⟨hk.1.2.1, hk.1.2.2.2.2⟩⟩⟩⟩⟩)), (by (with_reducible repeat (first | apply Kd.V_alloc | apply Kd.V_drewN | apply Kd.V_drew)); exact Kd.V_mono HL194_1.out (fun _ hk => ⟨hk.1.1, ⟨hk.1.2.2.2.1, ⟨hk.2, ⟨hk.1.2.2.1, ⟨hk.1.2.1, hk.1.2.2.2.2⟩⟩⟩⟩⟩)), (by (with_reducible repeat (first | apply Kd.N_alloc | apply Kd.N_drewN | apply Kd.N_drew)); exact Kd.N_mono HO198.out (fun _ hk => ⟨hk.1.1, ⟨hk.2, ⟨hk.1.2.2.1, ⟨hk.1.2.1, hk.1.2.2.2⟩⟩⟩⟩)), (by (with_reducible repeat (first | apply Kd.N_alloc | apply Kd.N_drewN | apply Kd.N_drew)); exact Kd.N_mono HO201.out (fun _ hk => ⟨hk.1, ⟨hk.2.2.1, ⟨hk.2.1, hk.2.2.2⟩⟩⟩)), (by (with_reducible repeat (first | apply Kd.N_alloc | apply Kd.N_drewN | apply Kd.N_drew)); exact Kd.N_mono HO204.out (fun _ hk => ⟨hk.1.1, ⟨hk.1.2.2.1, ⟨hk.2, ⟨hk.1.2.1, hk.1.2.2.2⟩⟩⟩⟩)), (by (with_reducible repeat (first | apply Kd.N_alloc | apply Kd.N_drewN | apply Kd.N_drew)); exact Kd.N_mono HO_11.out (fun _ hk => ⟨hk.1.1, ⟨hk.1.2.2.1, ⟨hk.2, ⟨hk.1.2.1, hk.1.2.2.2⟩⟩⟩⟩)), (by (with_reducible repeat (first | apply Kd.V_alloc | apply Kd.V_drewN | apply Kd.V_drew)); exact Kd.V_mono HO_29.out (fun _ hk => ⟨hk.1.1, ⟨hk.1.2.2.2.1, ⟨hk.2, ⟨hk.1.2.2.1, ⟨hk.1.2.1, hk.1.2.2.2.2⟩⟩⟩⟩⟩)), (by (with_reducible repeat (first | refine zF ?_ _ | refine zH ?_ | refine zG ?_ _)); exact Z0.out), (by repeat (first | (with_reducible first | exact HB.out | apply zJ | apply zD | apply zE | refine zI ?_ Z4.out) | exact HB.out))⟩)
           rintro ⟨v197, v200, v203⟩ w26 ⟨hS_, h0_, h1_, h2_, h3_, h4_, h5_, h6_, h7_, h8_⟩
           have n0_ : Aside0 (Kd.V (Kd.int .i8) 53 w26 w.heap.size (fun k_ => (P2_ k_ ∨ w.heap.size ≤ k_) ∧ some k_ ≠ (v197 : Value).ownBlock ∧ some k_ ≠ (v200 : Value).ownBlock ∧ some k_ ≠ (v203 : Value).ownBlock ∧ some k_ ≠ (.slice Ao17 x11_2.length co17 : Value).ownBlock ∧ k_ ≠ Z18) (.slice A194_0 ((rd_T49 l2 x31_2).f0).length c194_0) ((rd_T49 l2 x31_2).f0)) := ⟨h0_⟩
           have n1_ : Aside0 (Kd.V (Kd.int .i8) 53 w26 w.heap.size (fun k_ => (P2_ k_ ∨ w.heap.size ≤ k_) ∧ some k_ ≠ (v197 : Value).ownBlock ∧ some k_ ≠ (v200 : Value).ownBlock ∧ some k_ ≠ (v203 : Value).ownBlock ∧ some k_ ≠ (.slice Ao17 x11_2.length co17 : Value).ownBlock ∧ k_ ≠ Z18) (.slice A194_1 ((rd_T49 l2 x31_2).f1).length c194_1) ((rd_T49 l2 x31_2).f1)) := ⟨h1_⟩
           have n2_ : Aside0 (Kd.N (Kd.slice 53 (Kd.int .i8)) 22 w26 w.heap.size (fun k_ => (P2_ k_ ∨ w.heap.size ≤ k_) ∧ some k_ ≠ (v200 : Value).ownBlock ∧ some k_ ≠ (v203 : Value).ownBlock ∧ some k_ ≠ (.slice Ao17 x11_2.length co17 : Value).ownBlock ∧ k_ ≠ Z18) v197 y196) := ⟨h2_⟩
           have n3_ : Aside0 (Kd.N (Kd.slice 53 (Kd.int .i8)) 22 w26 w.heap.size (fun k_ => (P2_ k_ ∨ w.heap.size ≤ k_) ∧ some k_ ≠ (v203 : Value).ownBlock ∧ some k_ ≠ (.slice Ao17 x11_2.length co17 : Value).ownBlock ∧ k_ ≠ Z18) v200 y199) := ⟨h3_⟩
           have n4_ : Aside0 (Kd.N (Kd.slice 53 (Kd.int .i8)) 22 w26 w.heap.size (fun k_ => (P2_ k_ ∨ w.heap.size ≤ k_) ∧ some k_ ≠ (v197 : Value).ownBlock ∧ some k_ ≠ (v200 : Value).ownBlock ∧ some k_ ≠ (.slice Ao17 x11_2.length co17 : Value).ownBlock ∧ k_ ≠ Z18) v203 y202) := ⟨h4_⟩
           have n5_ : Aside0 (Kd.N (Kd.slice 53 (Kd.int .i8)) 22 w26 w.heap.size (fun k_ => (P2_ k_ ∨ w.heap.size ≤ k_) ∧ some k_ ≠ (v197 : Value).ownBlock ∧ some k_ ≠ (v200 : Value).ownBlock ∧ some k_ ≠ (v203 : Value).ownBlock ∧ k_ ≠ Z18) (.slice Ao17 x11_2.length co17) x11_2) := ⟨h5_⟩
           have n6_ : Aside0 (Kd.V k49 49 w26 w.heap.size (fun k_ => (P2_ k_ ∨ w.heap.size ≤ k_) ∧ some k_ ≠ (v197 : Value).ownBlock ∧ some k_ ≠ (v200 : Value).ownBlock ∧ some k_ ≠ (v203 : Value).ownBlock ∧ some k_ ≠ (.slice Ao17 x11_2.length co17 : Value).ownBlock ∧ k_ ≠ Z18) (.slice (some ad194) l2.length c2) l2) := ⟨h6_⟩
           have n7_ : Aside0 (w26.heap[Z18]? = some (.cells #[.slice A194_0 ((rd_T49 l2 x31_2).f0).length c194_0, .slice A194_1 ((rd_T49 l2 x31_2).f1).length c194_1] 49 (0, 0))) := ⟨h7_⟩
           have n8_ : Aside0 (Below w.heap.size w w26) := ⟨h8_⟩
           clear HO_10 HO_11 HO_29 HL194_0 HL194_1 Z0 HB h0_ h1_ h2_ h3_ h4_ h5_ h6_ h7_ h8_
           have HL194_0 := n0_; have HL194_1 := n1_; have HO198 := n2_; have HO201 := n3_; have HO204 := n4_; have HO_11 := n5_; have HO_29 := n6_; have Z0 := n7_; have HB := n8_
           clear n0_ n1_ n2_ n3_ n4_ n5_ n6_ n7_ n8_
           have hHeld : w26.cell? ⟨Z18, 0, none⟩ = some (.slice A194_0 ((rd_T49 l2 x31_2).f0).length c194_0) ∧ w26.cell? ⟨Z18, 1, none⟩ = some (.slice A194_1 ((rd_T49 l2 x31_2).f1).length c194_1) := hS_
           obtain ⟨Ao28, co28, eo28⟩ := Kd.N_slice HO204.out
           (first | subst eo28 | (injection eo28 with f1_ f2_ f3_; have f4_ := f1_.symm; have f5_ := f3_.symm; clear f1_ f2_ f3_; subst f4_; subst f5_))
           refine norm_ (a' := ?_) ?_ ?_
           rotate_left
           ·simp only [putAll, Act.put, zA, zB, zC]
            rfl
           refine one_ (i := 9) (N := some 44) #[true, true, true, true, true, true, true, true, true, true, false, false] rfl rfl (one_of HT_.out (by kernel_rfl)) (by decide) (fun K hK => ?_)
           refine Kd.N_append_rows_step (Kd.slice 53 (Kd.int .i8)) (w0 := w) w.heap.size (by rfl) (.tmp 40) (.tmp 43) 23 22 (.slice none 0 0) 24 rfl Try.underlying23 info22 rfl (by decide) (by omega) (.slice Ao17 x11_2.length co17) x11_2 y202 _ _ _ (fun k_ => (P2_ k_ ∨ w.heap.size ≤ k_) ∧ some k_ ≠ (v197 : Value).ownBlock ∧ some k_ ≠ (v200 : Value).ownBlock ∧ k_ ≠ Z18) (fun k_ => ((fun k_ => (P2_ k_ ∨ w.heap.size ≤ k_) ∧ some k_ ≠ (v197 : Value).ownBlock ∧ some k_ ≠ (v200 : Value).ownBlock ∧ k_ ≠ Z18)) k_ ∧ some k_ ≠ (.slice Ao17 x11_2.length co17 : Value).ownBlock) rfl rfl ?aO ?aR (fun _ hk => hk) ?aF ?aB ?aS ?aL ?_
           (case aR => exact (by skip; exact Kd.N_F (Kd.N_mono (ok' := (fun k_ => ((fun k_ => (P2_ k_ ∨ w.heap.size ≤ k_) ∧ some k_ ≠ (v197 : Value).ownBlock ∧ some k_ ≠ (v200 : Value).ownBlock ∧ k_ ≠ Z18)) k_ ∧ some k_ ≠ (.slice Ao17 x11_2.length co17 : Value).ownBlock)) (HO204.out) (fun k_ hk => ⟨⟨hk.1, ⟨hk.2.1, ⟨hk.2.2.1, hk.2.2.2.2⟩⟩⟩, hk.2.2.2.1⟩))))
           (case aB => exact (by repeat (first | (with_reducible first | exact HB.out | apply zJ | apply zD | apply zE | refine zI ?_ Z4.out) | exact HB.out)))
           (case aF => exact (fun k_ hk => ⟨(.inr (yl (yK (by repeat (first | (with_reducible first | exact HB.out | apply zJ | apply zD | apply zE | refine zI ?_ Z4.out) | exact HB.out))) hk)), Kd.fresh' (Kd.N_lt (by (with_reducible repeat (first | apply Kd.N_alloc | apply Kd.N_drewN | apply Kd.N_drew)); exact HO198.out)) k_ hk, Kd.fresh' (Kd.N_lt (by (with_reducible repeat (first | apply Kd.N_alloc | apply Kd.N_drewN | apply Kd.N_drew)); exact HO201.out)) k_ hk, Kd.freshB (g := Z18) (o := .cells #[.slice A194_0 ((rd_T49 l2 x31_2).f0).length c194_0, .slice A194_1 ((rd_T49 l2 x31_2).f1).length c194_1] 49 (0, 0)) (by (with_reducible repeat (first | refine zF ?_ _ | refine zH ?_ | refine zG ?_ _)); exact Z0.out) k_ hk⟩))
           (case aO => exact (by (with_reducible repeat (first | apply Kd.N_alloc | apply Kd.N_drewN | apply Kd.N_drew)); exact Kd.N_mono HO_11.out (fun _ hk => ⟨hk.1, ⟨hk.2.1, ⟨hk.2.2.1, hk.2.2.2.2⟩⟩⟩)))
           (case aS => exact (yK (by repeat (first | (with_reducible first | exact HB.out | apply zJ | apply zD | apply zE | refine zI ?_ Z4.out) | exact HB.out))))
           (case aL => have := LMc13.out; omega)
           intro v206 w27 ho hb hg hat
           rw [← Ny205.out] at ho
           have n0_ := zK (Kd.V_afterv (ok := (fun k_ => (P2_ k_ ∨ w.heap.size ≤ k_) ∧ some k_ ≠ (v197 : Value).ownBlock ∧ some k_ ≠ (v200 : Value).ownBlock ∧ some k_ ≠ (.slice Ao28 y202.length co28 : Value).ownBlock ∧ k_ ≠ Z18)) (by (with_reducible repeat (first | apply Kd.V_alloc | apply Kd.V_drewN | apply Kd.V_drew)); exact Kd.V_mono HO_29.out (fun _ hk => ⟨⟨hk.1, ⟨hk.2.1, ⟨hk.2.2.1, ⟨hk.2.2.2.1, hk.2.2.2.2.2⟩⟩⟩⟩, hk.2.2.2.2.1⟩)) hg hat)
           have n1_ := zK (Kd.V_afterv (ok := (fun k_ => (P2_ k_ ∨ w.heap.size ≤ k_) ∧ some k_ ≠ (v197 : Value).ownBlock ∧ some k_ ≠ (v200 : Value).ownBlock ∧ some k_ ≠ (.slice Ao28 y202.length co28 : Value).ownBlock ∧ k_ ≠ Z18)) (by (with_reducible repeat (first | apply Kd.V_alloc | apply Kd.V_drewN | apply Kd.V_drew)); exact Kd.V_mono HL194_0.out (fun _ hk => ⟨⟨hk.1, ⟨hk.2.1, ⟨hk.2.2.1, ⟨hk.2.2.2.1, hk.2.2.2.2.2⟩⟩⟩⟩, hk.2.2.2.2.1⟩)) hg hat)
           have n2_ := zK (Kd.V_afterv (ok := (fun k_ => (P2_ k_ ∨ w.heap.size ≤ k_) ∧ some k_ ≠ (v197 : Value).ownBlock ∧ some k_ ≠ (v200 : Value).ownBlock ∧ some k_ ≠ (.slice Ao28 y202.length co28 : Value).ownBlock ∧ k_ ≠ Z18)) (by (with_reducible repeat (first | apply Kd.V_alloc | apply Kd.V_drewN | apply Kd.V_drew)); exact Kd.V_mono HL194_1.out (fun _ hk => ⟨⟨hk.1, ⟨hk.2.1, ⟨hk.2.2.1, ⟨hk.2.2.2.1, hk.2.2.2.2.2⟩⟩⟩⟩, hk.2.2.2.2.1⟩)) hg hat)
           have n3_ := zK (blk_grown (g := Z18) (o := .cells #[.slice A194_0 ((rd_T49 l2 x31_2).f0).length c194_0, .slice A194_1 ((rd_T49 l2 x31_2).f1).length c194_1] 49 (0, 0)) (by (with_reducible repeat (first | refine zF ?_ _ | refine zH ?_ | refine zG ?_ _)); exact Z0.out) hg (Kd.N_ne HO_11.out Z0.out (by decide)))
           have n4_ := zK (Kd.N_afterv (ok := (fun k_ => (P2_ k_ ∨ w.heap.size ≤ k_) ∧ some k_ ≠ (v200 : Value).ownBlock ∧ some k_ ≠ (.slice Ao28 y202.length co28 : Value).ownBlock ∧ k_ ≠ Z18)) (by (with_reducible repeat (first | apply Kd.N_alloc | apply Kd.N_drewN | apply Kd.N_drew)); exact Kd.N_mono HO198.out (fun _ hk => ⟨⟨hk.1, ⟨hk.2.1, ⟨hk.2.2.1, hk.2.2.2.2⟩⟩⟩, hk.2.2.2.1⟩)) hg hat)
           have n5_ := zK (Kd.N_afterv (ok := (fun k_ => (P2_ k_ ∨ w.heap.size ≤ k_) ∧ some k_ ≠ (.slice Ao28 y202.length co28 : Value).ownBlock ∧ k_ ≠ Z18)) (by (with_reducible repeat (first | apply Kd.N_alloc | apply Kd.N_drewN | apply Kd.N_drew)); exact Kd.N_mono HO201.out (fun _ hk => ⟨⟨hk.1, ⟨hk.2.1, hk.2.2.2⟩⟩, hk.2.2.1⟩)) hg hat)
           have n6_ := zK (Kd.N_afterv (ok := (fun k_ => (P2_ k_ ∨ w.heap.size ≤ k_) ∧ some k_ ≠ (v197 : Value).ownBlock ∧ some k_ ≠ (v200 : Value).ownBlock ∧ k_ ≠ Z18)) (by (with_reducible repeat (first | apply Kd.N_alloc | apply Kd.N_drewN | apply Kd.N_drew)); exact Kd.N_mono HO204.out (fun _ hk => ⟨⟨hk.1, ⟨hk.2.1, ⟨hk.2.2.1, hk.2.2.2.2⟩⟩⟩, hk.2.2.2.1⟩)) hg hat)
           have n7_ := zK (hb)
           have n8_ := zK (ho)
           clear HO_29 HL194_0 HL194_1 Z0 HO198 HO201 HO204 HB HO_11
           have HO_29 := n0_; have HL194_0 := n1_; have HL194_1 := n2_; have Z0 := n3_; have HO198 := n4_; have HO201 := n5_; have HO204 := n6_; have HB := n7_; have HO207 := n8_
           clear n0_ n1_ n2_ n3_ n4_ n5_ n6_ n7_ n8_ ho hb hg hat
           refine hK.out _ _ ⟨(zO Z0.out 0).trans rfl, (zO Z0.out 1).trans rfl⟩ (fun hHeld => ?_)
           clear hK K
           refine norm_ (a' := ?_) ?_ ?_
           rotate_left
           ·show Act.put _ (some 44) _ = _
            simp only [Act.put, zA, zB, zC, i64_w, i32_w]
            rfl
           refine pure_ (i := 10) (N := some 10) (v := ?_) (a' := ?_) #[true, true, true, true, true, true, true, true, true, true, true, false] rfl rfl (any_of HT_.out (by kernel_rfl)) (fun _ _ _ h => h) (Or.inl ⟨by rfl, ?_⟩) ?_ ?_
           rotate_left
           ·intro w'
            go_simp
            with_reducible rfl
           rotate_left
           ·simp only [Act.put, zA, zB, zC, i64_w, i32_w]
            rfl
           refine pure_ (i := 11) (N := some 11) (v := ?_) (a' := ?_) #[true, true, true, true, true, true, true, true, true, true, true, true] rfl rfl (any_of HT_.out (by kernel_rfl)) (fun _ _ _ h => h) (Or.inl ⟨by rfl, ?_⟩) ?_ ?_
           rotate_left
           ·intro w'
            go_simp
            with_reducible rfl
           rotate_left
           ·simp only [Act.put, zA, zB, zC, i64_w, i32_w]
            rfl
           refine done_ (done_of HT_.out (by kernel_rfl)) ?_
           try go_wp2
           go_roundg k2
           case measure => have := HJ4.out; have := HK2.out; omega
           case rel => exact ⟨(y199), (y205), (wrap64 (x31_2 + 1)), (by first | rfl | (simp; done) | (simp [*]; done)), H', ⟨by have := HJ4.out; have := HK2.out; omega⟩, ⟨by (with_reducible repeat (first | apply Kd.N_alloc | apply Kd.N_drewN | apply Kd.N_drew)); exact Kd.N_mono HO201.out (fun _ hk => ⟨hk.1.1, hk.2⟩)⟩, ⟨by (with_reducible repeat (first | apply Kd.N_alloc | apply Kd.N_drewN | apply Kd.N_drew)); exact Kd.N_mono HO207.out (fun _ hk => ⟨hk.1, hk.2.2.1⟩)⟩, ⟨by (with_reducible repeat (first | apply Kd.V_alloc | apply Kd.V_drewN | apply Kd.V_drew)); exact Kd.V_mono HO_29.out (fun _ hk => ⟨hk.1.1, ⟨hk.1.2.2.1, hk.2⟩⟩)⟩, ⟨by repeat (first | (with_reducible first | exact HB.out | apply zJ | apply zD | apply zE | refine zI ?_ Z4.out) | exact HB.out)⟩⟩
          ·rw [if_neg c13] at H
           exact absurd H (by simp)
         ·rw [if_neg c12] at H
          exact absurd H (by simp)
        ·rw [if_neg c11] at H
         exact absurd H (by simp)
       ·rw [if_neg c10] at H
        exact absurd H (by simp)
      ·rw [if_neg c9] at H
       have c9b0 : decide (x31_2 < (l2.length : Int)) = false := yD c9
       clear c9
       have HC29 := zK H
       clear H
       go_upto_region 9 with (fail)
       go_cut [46] (fun v46 wc => ∃ (kq : Nat) (x46_28 : Bool), v46 = .bool x46_28 ∧ Aside0 (attend_Look.j2 kq l0 a1 a3 x10_2 x11_2 x46_28 = some (r1, r2)) ∧ Aside0 (kq ≤ k2) ∧ Aside0 (Kd.N (Kd.slice 53 (Kd.int .i8)) 22 wc w.heap.size (fun k_ => (P2_ k_ ∨ w.heap.size ≤ k_) ∧ some k_ ≠ (u11 : Value).ownBlock) u10 x10_2) ∧ Aside0 (Kd.N (Kd.slice 53 (Kd.int .i8)) 22 wc w.heap.size (fun k_ => (P2_ k_ ∨ w.heap.size ≤ k_) ∧ some k_ ≠ (u10 : Value).ownBlock) u11 x11_2) ∧ Aside0 (Below w.heap.size w wc))
       case first =>
        have H := HC29.out
        clear HC29
        replace H := yA.mp H
        obtain ⟨t208, A300, H⟩ := H
        replace H : (if t208 = true then ((attend_fit.f k2 l0 x11_2).bind fun t209 => (attend_Look.j2 k2 l0 a1 a3 x10_2 x11_2 (!t209))) else (attend_Look.j2 k2 l0 a1 a3 x10_2 x11_2 true)) = some (r1, r2) := H
        have A30 := zK A300
        clear A300
        by_cases c31 : t208 = true
        ·subst c31
         have H1 : ((attend_fit.f k2 l0 x11_2).bind fun t209 => (attend_Look.j2 k2 l0 a1 a3 x10_2 x11_2 (!t209))) = some (r1, r2) := by rw [if_pos rfl] at H; exact H
         clear H
         have H := H1
         clear H1
         replace H := yA.mp H
         obtain ⟨t209, A320, H⟩ := H
         replace H : (attend_Look.j2 k2 l0 a1 a3 x10_2 x11_2 (!t209)) = some (r1, r2) := H
         have A32 := zK A320
         clear A320
         have H' := zK H
         clear H
         obtain ⟨Ao33, co33, eo33⟩ := Kd.N_slice HO_10.out
         subst eo33
         go_wp2_with (first | ((with_reducible refine gate_callee (f := 27) rfl ?_); refine goesL_ (some 49) rfl rfl Try.func27 (by kernel_rfl) rfl #[.slice A0 l0.length c0, .slice Ao33 x10_2.length co33] rfl (by (try simp only [yH, yI, yJ]); first | done | rfl | (simp only [yG, yF]; rfl)) ?_; (with_reducible refine (attend_fit.calls k2 _ _ l0 _ _ x10_2 true _ ?side1 ?side2 ?side3 ?side4 A30.out).mono ?_); (case side1 => repeat (first | exact (yc HR0.out HB.out) | (with_reducible refine yS ?_ _) | (with_reducible refine yT ?_ _) | (with_reducible refine yU ?_))); (case side2 => exact HC0.out); (case side3 => repeat (first | exact (Kd.N_reads' HO_10.out).2.2 | (with_reducible refine yS ?_ _) | (with_reducible refine yT ?_ _) | (with_reducible refine yU ?_))); (case side4 => exact (Kd.N_reads' HO_10.out).2.1); rintro e w' ⟨rfl, ⟨nd, rfl⟩⟩; refine ⟨_, rfl, ?_⟩; obtain ⟨Ao34, co34, eo34⟩ := Kd.N_slice HO_11.out; subst eo34) | (go_at_call 27; (with_reducible refine (attend_fit.calls k2 _ _ l0 _ _ x11_2 t209 _ ?side1 ?side2 ?side3 ?side4 A32.out).mono ?_); (case side1 => repeat (first | exact (yc HR0.out (by repeat (first | (with_reducible first | exact HB.out | apply zJ | apply zD | apply zE) | exact HB.out))) | (with_reducible refine yS ?_ _) | (with_reducible refine yT ?_ _) | (with_reducible refine yU ?_))); (case side2 => exact HC0.out); (case side3 => repeat (first | exact (Kd.N_reads' HO_11.out).2.2 | (with_reducible refine yS ?_ _) | (with_reducible refine yT ?_ _) | (with_reducible refine yU ?_))); (case side4 => exact (Kd.N_reads' HO_11.out).2.1); rintro e w' ⟨rfl, ⟨nd, rfl⟩⟩))
         go_meet
         case rel => exact ⟨_, (!t209), (by first | rfl | (simp; done) | (simp [*]; done)), H', ⟨by have := HJ4.out; have := HK2.out; first | omega | exact yN _⟩, ⟨by (with_reducible repeat (first | apply Kd.N_alloc | apply Kd.N_drewN | apply Kd.N_drew)); exact HO_10.out⟩, ⟨by (with_reducible repeat (first | apply Kd.N_alloc | apply Kd.N_drewN | apply Kd.N_drew)); exact HO_11.out⟩, ⟨by repeat (first | (with_reducible first | exact HB.out | apply zJ | apply zD | apply zE) | exact HB.out)⟩⟩
        ·replace c31 := yh.mpr c31
         subst c31
         have H1 : (attend_Look.j2 k2 l0 a1 a3 x10_2 x11_2 true) = some (r1, r2) := by rw [if_neg (show ¬ (false = true) by decide)] at H; exact H
         clear H
         have H := H1
         clear H1
         have H' := zK H
         clear H
         obtain ⟨Ao35, co35, eo35⟩ := Kd.N_slice HO_10.out
         subst eo35
         go_wp2_with (first | ((with_reducible refine gate_callee (f := 27) rfl ?_); refine goesL_ (some 49) rfl rfl Try.func27 (by kernel_rfl) rfl #[.slice A0 l0.length c0, .slice Ao35 x10_2.length co35] rfl (by (try simp only [yH, yI, yJ]); first | done | rfl | (simp only [yG, yF]; rfl)) ?_; (with_reducible refine (attend_fit.calls k2 _ _ l0 _ _ x10_2 false _ ?side1 ?side2 ?side3 ?side4 A30.out).mono ?_); (case side1 => repeat (first | exact (yc HR0.out HB.out) | (with_reducible refine yS ?_ _) | (with_reducible refine yT ?_ _) | (with_reducible refine yU ?_))); (case side2 => exact HC0.out); (case side3 => repeat (first | exact (Kd.N_reads' HO_10.out).2.2 | (with_reducible refine yS ?_ _) | (with_reducible refine yT ?_ _) | (with_reducible refine yU ?_))); (case side4 => exact (Kd.N_reads' HO_10.out).2.1); rintro e w' ⟨rfl, ⟨nd, rfl⟩⟩; refine ⟨_, rfl, ?_⟩))
         go_meet
         case rel => exact ⟨_, (true), (by first | rfl | (simp; done) | (simp [*]; done)), H', ⟨by have := HJ4.out; have := HK2.out; first | omega | exact yN _⟩, ⟨by (with_reducible repeat (first | apply Kd.N_alloc | apply Kd.N_drewN | apply Kd.N_drew)); exact HO_10.out⟩, ⟨by (with_reducible repeat (first | apply Kd.N_alloc | apply Kd.N_drewN | apply Kd.N_drew)); exact HO_11.out⟩, ⟨by repeat (first | (with_reducible first | exact HB.out | apply zJ | apply zD | apply zE) | exact HB.out)⟩⟩
       case rest =>
        clear HC29
        try clear c1
        try clear p1
        try clear q1
        try clear c2
        try clear p2
        try clear c3
        try clear p6
        try clear c9
        try clear c9b0
        try clear c10
        try clear c11
        try clear c12
        try clear c13
        try clear c19
        try clear p19
        try clear q19
        try clear c27
        try clear c31
        try clear hcz15_0
        try clear hcz15_1
        try clear hfz15_0
        try clear hfz15_1
        try clear p194
        try clear q194
        obtain ⟨kq, x46_28, rfl, HA, HJ28, HO_10, HO_11, HB⟩ := hcut
        cases kq with
        | zero => exact absurd HA.out (by simp [attend_Look.j2])
        | succ kj28 =>
         have H := HA.out
         clear HA
         simp only [attend_Look.j2] at H
         by_cases c36 : x46_28 = true
         ·subst c36
          have H1 : (some (([] : List Int), 191)) = some (r1, r2) := by rw [if_pos rfl] at H; exact H
          clear H
          have H := H1
          clear H1
          simp only [yZ, ya] at H
          obtain ⟨rfl, rfl⟩ := H
          go_wp2
          go_ret2
          exact ⟨_, by first | rfl | (simp [errW_none, errW_some] <;> rfl) | (simp [*, errW_none, errW_some] <;> rfl), by first | exact Kd.R_nil _ _ _ _ _ | exact Kd.N_nil _ _ _ _ _ | exact Kd.V_nil _ _ _ _ _ | exact Kd.Q_nil _ _ _ _ _ | exact Kd.S_nil _ _ _ _ _, by repeat (first | (with_reducible first | exact HB.out | apply zJ | apply zD | apply zE) | exact HB.out)⟩
         ·replace c36 := yh.mpr c36
          subst c36
          have H1 : (if a3 < 0 then (some (([] : List Int), 20)) else (if a3 > 31 then (some (([] : List Int), 20)) else (if a1 = 0 then (none) else (attend_Look.l1 kj28 l0 a3 x10_2 x11_2 ([] : List Int) (wrap64 ((l0.length : Int) / a1)) 0)))) = some (r1, r2) := by rw [if_neg (show ¬ (false = true) by decide)] at H; exact H
          clear H
          have H := H1
          clear H1
          by_cases c37 : a3 < 0
          ·rw [if_pos c37] at H
           have c37b0 : decide (a3 < 0) = true := yC c37
           clear c37
           simp only [yZ, ya] at H
           obtain ⟨rfl, rfl⟩ := H
           go_wp2
           go_ret2
           exact ⟨_, by first | rfl | (simp [errW_none, errW_some] <;> rfl) | (simp [*, errW_none, errW_some] <;> rfl), by first | exact Kd.R_nil _ _ _ _ _ | exact Kd.N_nil _ _ _ _ _ | exact Kd.V_nil _ _ _ _ _ | exact Kd.Q_nil _ _ _ _ _ | exact Kd.S_nil _ _ _ _ _, by repeat (first | (with_reducible first | exact HB.out | apply zJ | apply zD | apply zE) | exact HB.out)⟩
          ·rw [if_neg c37] at H
           have c37b0 : decide (a3 < 0) = false := yD c37
           clear c37
           by_cases c38 : a3 > 31
           ·rw [if_pos c38] at H
            have c38b0 : decide (31 < a3) = true := yC c38
            clear c38
            simp only [yZ, ya] at H
            obtain ⟨rfl, rfl⟩ := H
            go_wp2
            go_ret2
            exact ⟨_, by first | rfl | (simp [errW_none, errW_some] <;> rfl) | (simp [*, errW_none, errW_some] <;> rfl), by first | exact Kd.R_nil _ _ _ _ _ | exact Kd.N_nil _ _ _ _ _ | exact Kd.V_nil _ _ _ _ _ | exact Kd.Q_nil _ _ _ _ _ | exact Kd.S_nil _ _ _ _ _, by repeat (first | (with_reducible first | exact HB.out | apply zJ | apply zD | apply zE) | exact HB.out)⟩
           ·rw [if_neg c38] at H
            have c38b0 : decide (31 < a3) = false := yD c38
            clear c38
            by_cases c39 : a1 = 0
            ·rw [if_pos c39] at H
             exact absurd H (by simp)
            ·rw [if_neg c39] at H
             have c39b0 : (a1 == 0) = false := beq_eq_false_iff_ne.mpr c39
             have c39b1 : (a1 != 0) = true := bne_iff_ne.mpr c39
             have H' := zK H
             clear H
             go_wp2_with fail
             obtain ⟨Z20, hgB⟩ : ∃ g, g = wc.heap.size + 1 := ⟨_, rfl⟩
             obtain ⟨Z19, hgA⟩ : ∃ g, g = wc.heap.size := ⟨_, rfl⟩
             rw [← hgB, ← hgA]
             obtain ⟨w42, hw⟩ : ∃ w_, w_ = (wc.alloc (Obj.cells #[Value.int IntKind.i64 (wrap64 ((l0.length : Int) / a1))] 3)).alloc (Obj.cells #[Value.int IntKind.i64 0] 3) := ⟨_, rfl⟩
             rw [← hw]
             have hb2 : Below wc.heap.size wc w42 := by rw [hw]; exact zJ (zJ (Below.refl _ _) _) _
             have n0_ := zK (Kd.N_below (Kd.N_elderB (Kd.N_elderB HO_10.out Z19 (Nat.le_of_eq hgA.symm)) Z20 (by omega)) hb2)
             have n1_ := zK (Kd.N_below (Kd.N_elderB (Kd.N_elderB HO_11.out Z19 (Nat.le_of_eq hgA.symm)) Z20 (by omega)) hb2)
             have n2_ := zK (yL HB.out hb2)
             have Z1 := zK (show w42.heap[Z19]? = some (.cells #[.int .i64 (wrap64 ((l0.length : Int) / a1))] 3 (0, 0)) by rw [hw, hgA]; exact zG (blk_new _ _) _)
             have hsz : (wc.alloc (Obj.cells #[Value.int IntKind.i64 (wrap64 ((l0.length : Int) / a1))] 3)).heap.size = wc.heap.size + 1 := by first | exact Array.size_push _ | (show (wc.heap.push _).size = _; exact Array.size_push _) | (unfold World.alloc; exact Array.size_push _) | (simp only [World.alloc, Array.size_push])
             have Z2 := zK (show w42.heap[Z20]? = some (.cells #[.int .i64 0] 3 (0, 0)) by rw [hw, hgB, ← hsz]; exact blk_new _ _)
             have hsz0 := yK HB.out
             have Z9 := zK (show w.heap.size ≤ Z19 by omega)
             have Z5 := zK (show w.heap.size ≤ Z19 by omega)
             have Z10 := zK (show w.heap.size ≤ Z20 by omega)
             have Z6 := zK (show w.heap.size ≤ Z20 by omega)
             have Z12 := zK (show Z19 ≠ Z20 by omega)
             have Z14 := zK (show Z20 ≠ Z19 by omega)
             clear HO_10 HO_11 HB hsz hsz0 hb2 hw hgA hgB
             have HO_10 := n0_; have HO_11 := n1_; have HB := n2_
             clear n0_ n1_ n2_
             go_loopg [15, 16] kj28 (fun kq v15 v16 w' => ∃ (x15_4 : List Int) (x212000_4 : Int) (Z20 : Nat), v16 = .pointer (some ⟨Z20, 0, none⟩) ∧ Aside0 (attend_Look.l1 kq l0 a3 x10_2 x11_2 x15_4 (wrap64 ((l0.length : Int) / a1)) x212000_4 = some (r1, r2)) ∧ Aside0 (kq ≤ kj28) ∧ Aside0 (w.heap.size ≤ Z20) ∧ Aside0 (w.heap.size ≤ Z20) ∧ Aside0 (Z19 ≠ Z20) ∧ Aside0 (Z20 ≠ Z19) ∧ Aside0 (Kd.N (Kd.slice 53 (Kd.int .i8)) 22 w' w.heap.size (fun k_ => (P2_ k_ ∨ w.heap.size ≤ k_) ∧ some k_ ≠ (u11 : Value).ownBlock ∧ some k_ ≠ (v15 : Value).ownBlock ∧ k_ ≠ Z19 ∧ k_ ≠ Z20) u10 x10_2) ∧ Aside0 (Kd.N (Kd.slice 53 (Kd.int .i8)) 22 w' w.heap.size (fun k_ => (P2_ k_ ∨ w.heap.size ≤ k_) ∧ some k_ ≠ (u10 : Value).ownBlock ∧ some k_ ≠ (v15 : Value).ownBlock ∧ k_ ≠ Z19 ∧ k_ ≠ Z20) u11 x11_2) ∧ Aside0 (Kd.R (Kd.int .i8) 53 w' w.heap.size (fun k_ => (w.heap.size ≤ k_)) v15 x15_4) ∧ Aside0 (w'.heap[Z19]? = some (.cells #[.int .i64 (wrap64 ((l0.length : Int) / a1))] 3 (0, 0))) ∧ Aside0 (w'.heap[Z20]? = some (.cells #[.int .i64 x212000_4] 3 (0, 0))) ∧ Aside0 (Below w.heap.size w w'))
             case atStart => exact ⟨(([] : List Int)), (0), Z20, rfl, H', ⟨yN _⟩, ⟨Z10.out⟩, ⟨Z6.out⟩, ⟨Z12.out⟩, ⟨Z14.out⟩, ⟨Kd.N_mono HO_10.out (fun _ hk => ⟨hk.1.1.1, ⟨hk.1.1.2, ⟨(by simp [Value.ownBlock]), ⟨hk.1.2, hk.2⟩⟩⟩⟩)⟩, ⟨Kd.N_mono HO_11.out (fun _ hk => ⟨hk.1.1.1, ⟨hk.1.1.2, ⟨(by simp [Value.ownBlock]), ⟨hk.1.2, hk.2⟩⟩⟩⟩)⟩, ⟨by first | exact Kd.R_nil _ _ _ _ _⟩, ⟨Z1.out⟩, ⟨Z2.out⟩, ⟨HB.out⟩⟩
             case round =>
              clear H'
              try clear c1
              try clear p1
              try clear q1
              try clear c2
              try clear p2
              try clear c3
              try clear c4
              try clear p6
              try clear c9
              try clear c9b0
              try clear c10
              try clear c11
              try clear c12
              try clear c13
              try clear c19
              try clear p19
              try clear q19
              try clear c27
              try clear c31
              try clear c36
              try clear c37
              try clear c37b0
              try clear c38
              try clear c38b0
              try clear c39
              try clear c39b0
              try clear c39b1
              try clear c43
              try clear hcz15_0
              try clear hcz15_1
              try clear hcz41_0
              try clear hcz44_0
              try clear hfz15_0
              try clear hfz15_1
              try clear hfz41_0
              try clear hfz44_0
              try clear p1
              try clear p19
              try clear p194
              try clear p2
              try clear p6
              try clear q1
              try clear q19
              try clear q194
              obtain ⟨x15_4, x212000_4, Z20, rfl, HA, HK4, Z10, Z6, Z12, Z14, HO_10, HO_11, HO_15, Z1, Z2, HB⟩ := hrel
              cases gk with
              | zero => exact absurd HA.out (by simp [attend_Look.l1])
              | succ k4 =>
               have H := HA.out
               clear HA
               simp only [attend_Look.l1] at H
               by_cases c45 : x212000_4 < (l0.length : Int)
               ·rw [if_pos c45] at H
                have c45b0 : decide (x212000_4 < (l0.length : Int)) = true := yC c45
                clear c45
                by_cases c46 : 0 ≤ x212000_4
                ·rw [if_pos c46] at H
                 have c46b0 := yg c46
                 have c46b1 : decide (0 ≤ x212000_4) = true := yC c46
                 clear c46
                 by_cases c47 : x212000_4 ≤ (wrap64 (x212000_4 + (wrap64 ((l0.length : Int) / a1))))
                 ·rw [if_pos c47] at H
                  have c47b0 := yg c47
                  have c47b1 : decide (x212000_4 ≤ (wrap64 (x212000_4 + (wrap64 ((l0.length : Int) / a1))))) = true := yC c47
                  by_cases c48 : (wrap64 (x212000_4 + (wrap64 ((l0.length : Int) / a1)))) ≤ (l0.length : Int)
                  ·rw [if_pos c48] at H
                   have c48b0 := yg c48
                   have c48b1 : decide ((wrap64 (x212000_4 + (wrap64 ((l0.length : Int) / a1)))) ≤ (l0.length : Int)) = true := yC c48
                   replace H := yA.mp H
                   obtain ⟨t213, A490, H⟩ := H
                   replace H : ((attend_Look_1.f k4 x11_2 x212000_4 (wrap64 ((l0.length : Int) / a1))).bind fun t216 => ((attend_Head.f k4 ((l0.take ((wrap64 (x212000_4 + (wrap64 ((l0.length : Int) / a1)))) : Int).toNat).drop (x212000_4 : Int).toNat) t213 t216 a3).bind fun bt219 => (if bt219.2 = 0 then (if x15_4.length + bt219.1.length < 140737488355328 then (attend_Look.l1 k4 l0 a3 x10_2 x11_2 (x15_4 ++ bt219.1) (wrap64 ((l0.length : Int) / a1)) (wrap64 (x212000_4 + (wrap64 ((l0.length : Int) / a1))))) else (none)) else (some (([] : List Int), bt219.2))))) = some (r1, r2) := H
                   have A49 := zK A490
                   clear A490
                   replace H := yA.mp H
                   obtain ⟨t216, A500, H⟩ := H
                   replace H : ((attend_Head.f k4 ((l0.take ((wrap64 (x212000_4 + (wrap64 ((l0.length : Int) / a1)))) : Int).toNat).drop (x212000_4 : Int).toNat) t213 t216 a3).bind fun bt219 => (if bt219.2 = 0 then (if x15_4.length + bt219.1.length < 140737488355328 then (attend_Look.l1 k4 l0 a3 x10_2 x11_2 (x15_4 ++ bt219.1) (wrap64 ((l0.length : Int) / a1)) (wrap64 (x212000_4 + (wrap64 ((l0.length : Int) / a1))))) else (none)) else (some (([] : List Int), bt219.2)))) = some (r1, r2) := H
                   have A50 := zK A500
                   clear A500
                   replace H := yA.mp H
                   obtain ⟨⟨t219, t220⟩, A510, H⟩ := H
                   replace H : (if t220 = 0 then (if x15_4.length + t219.length < 140737488355328 then (attend_Look.l1 k4 l0 a3 x10_2 x11_2 (x15_4 ++ t219) (wrap64 ((l0.length : Int) / a1)) (wrap64 (x212000_4 + (wrap64 ((l0.length : Int) / a1))))) else (none)) else (some (([] : List Int), t220))) = some (r1, r2) := H
                   have A51 := zK A510
                   clear A510
                   by_cases c52 : t220 = 0
                   ·rw [if_pos c52] at H
                    have c52b0 : (t220 == 0) = true := beq_iff_eq.mpr c52
                    have c52b1 : (t220 != 0) = false := bne_eq_false_iff_eq.mpr c52
                    clear c52
                    by_cases c53 : x15_4.length + t219.length < 140737488355328
                    ·rw [if_pos c53] at H
                     have LMc53 := zK c53
                     clear c53
                     obtain ⟨y223, hy223⟩ : ∃ y_ : List Int, y_ = (x15_4 ++ t219) := ⟨_, rfl⟩
                     replace H : (attend_Look.l1 k4 l0 a3 x10_2 x11_2 y223 (wrap64 ((l0.length : Int) / a1)) (wrap64 (x212000_4 + (wrap64 ((l0.length : Int) / a1))))) = some (r1, r2) := by first | (rw [hy223]; with_reducible exact H) | (have H2_ := (yV _ _).symm.trans H; rw [hy223]; with_reducible exact H2_) | (have H2_ := (yV _ _).symm.trans H; with_reducible exact H2_) | with_reducible exact H | (rw [hy223]; exact H) | exact H
                     have Ny223 := zK hy223
                     clear hy223
                     have H' := zK H
                     clear H
                     have hnb54 := Z14.out
                     have hnc54 := Z12.out
                     have hcz55_0 : wr.cell? ⟨Z20, 0, none⟩ = some (.int .i64 x212000_4) := (zO Z2.out 0).trans rfl
                     have hfz55_0 := yE Z2.out 0
                     try go_wp2
                     have n0_ := zK (Kd.N_drew HO_10.out)
                     have n1_ := zK (Kd.N_drew HO_11.out)
                     have n2_ := zK (zN HO_15.out)
                     have n3_ := zK (zH Z1.out)
                     have n4_ := zK (zH Z2.out)
                     have n5_ := zK (zE HB.out)
                     clear HO_10 HO_11 HO_15 Z1 Z2 HB
                     have HO_10 := n0_; have HO_11 := n1_; have HO_15 := n2_; have Z1 := n3_; have Z2 := n4_; have HB := n5_
                     clear n0_ n1_ n2_ n3_ n4_ n5_
                     obtain ⟨i057, hi057, _, hsz57, _⟩ := yj info53
                     obtain ⟨A57, hcut57, hA57, hC57⟩ := print_mid_of (P := Try.prog) (Value.int .i8) 0 22 53 .i64 .i64 Try.underlying22 hi057 hsz57 A0 c0 l0 x212000_4 (wrap64 (x212000_4 + (wrap64 ((l0.length : Int) / a1)))) (yB (by first | (with_reducible assumption) | assumption)) (by first | omega | exact yB (by first | (with_reducible assumption) | assumption)) (yB (by first | (with_reducible assumption) | assumption)) HC0.out
                     have HR212 := zK (Kd.C_of_reads (h1 := fun _ => rfl) (hA57 _ (Kd.reads_of_C HR0.out)))
                     have HC212 := zK hC57
                     clear hA57 hC57 hi057 hsz57
                     obtain ⟨Ao58, co58, eo58⟩ := Kd.N_slice HO_10.out
                     (first | subst eo58 | (injection eo58 with f1_ f2_ f3_; have f4_ := f1_.symm; have f5_ := f3_.symm; clear f1_ f2_ f3_; subst f4_; subst f5_))
                     refine start_ (n := 19) (S := fun w' => w'.cell? ⟨Z20, 0, none⟩ = some (.int .i64 x212000_4) ∧ w'.cell? ⟨Z19, 0, none⟩ = some (.int .i64 (wrap64 ((l0.length : Int) / a1)))) (ds := []) #[false, false, false, false, false, false, false, false, false, false, false, false, false, false, false, false, false, false, false] (by kernel_rfl) rfl rfl ⟨(zO Z2.out 0).trans rfl, (zO Z1.out 0).trans rfl⟩ (fun hHeld => ?_); refine with_tabW attend_Look.tab19 attend_Look.bits19 (fun HT_ HW_ => ?_)
                     generalize wr.drew = w56 at HO_10 HO_11 HO_15 Z1 Z2 HB HR212 hHeld ⊢
                     refine pure_ (i := 0) (N := some 77) (v := ?_) (a' := ?_) #[true, false, false, false, false, false, false, false, false, false, false, false, false, false, false, false, false, false, false] rfl rfl (any_of HT_.out (by kernel_rfl)) (fun _ _ _ h => h) (Or.inl ⟨by rfl, ?_⟩) ?_ ?_
                     rotate_left
                     ·intro w'
                      go_simp
                      with_reducible rfl
                     rotate_left
                     ·simp only [Act.put, zA, zB, zC, i64_w, i32_w]
                      rfl
                     refine pure_ (i := 6) (N := some 83) (v := ?_) (a' := ?_) #[true, false, false, false, false, false, true, false, false, false, false, false, false, false, false, false, false, false, false] rfl rfl (any_of HT_.out (by kernel_rfl)) (fun _ _ _ h => h) (Or.inl ⟨by rfl, ?_⟩) ?_ ?_
                     rotate_left
                     ·intro w'
                      go_simp
                      with_reducible rfl
                     rotate_left
                     ·simp only [Act.put, zA, zB, zC, i64_w, i32_w]
                      rfl
                     refine pure_ (i := 7) (N := some 84) (v := ?_) (a' := ?_) #[true, false, false, false, false, false, true, true, false, false, false, false, false, false, false, false, false, false, false] rfl rfl (any_of HT_.out (by kernel_rfl)) (fun _ _ _ h => h) (Or.inl ⟨by rfl, ?_⟩) ?_ ?_
                     rotate_left
                     ·intro w'
                      go_simp
                      with_reducible rfl
                     rotate_left
                     ·simp only [Act.put, zA, zB, zC, i64_w, i32_w]
                      rfl
                     refine pure_ (i := 9) (N := some 86) (v := ?_) (a' := ?_) #[true, false, false, false, false, false, true, true, false, true, false, false, false, false, false, false, false, false, false] rfl rfl (any_of HT_.out (by kernel_rfl)) (fun _ _ _ h => h) (Or.inl ⟨by rfl, ?_⟩) ?_ ?_
                     rotate_left
                     ·intro w'
                      go_simp
                      with_reducible rfl
                     rotate_left
                     ·simp only [Act.put, zA, zB, zC, i64_w, i32_w]
                      rfl
                     refine pure_ (i := 10) (N := some 87) (v := ?_) (a' := ?_) #[true, false, false, false, false, false, true, true, false, true, true, false, false, false, false, false, false, false, false] rfl rfl (any_of HT_.out (by kernel_rfl)) (fun _ _ _ h => h) (Or.inl ⟨by rfl, ?_⟩) ?_ ?_
                     rotate_left
                     ·intro w'
                      go_simp
                      with_reducible rfl
                     rotate_left
                     ·simp only [Act.put, zA, zB, zC, i64_w, i32_w]
                      rfl
                     refine pure_ (i := 12) (N := some 89) (v := ?_) (a' := ?_) #[true, false, false, false, false, false, true, true, false, true, true, false, true, false, false, false, false, false, false] rfl rfl (any_of HT_.out (by kernel_rfl)) (fun _ _ _ h => h) (Or.inl ⟨by rfl, ?_⟩) ?_ ?_
                     rotate_left
                     ·intro w'
                      go_simp
                      with_reducible rfl
                     rotate_left
                     ·simp only [Act.put, zA, zB, zC, i64_w, i32_w]
                      rfl
                     refine take_ (i := 1) (N := some 78) (v := ?_) (a' := ?_) #[true, true, false, false, false, false, true, true, false, true, true, false, true, false, false, false, false, false, false] rfl rfl (take_ofW HT_.out HW_.out (by kernel_rfl)) (fun _ _ _ h => h) (Or.inl ⟨by rfl, ?_⟩) hHeld ?_ ?_
                     rotate_left
                     ·rintro w' ⟨s0, s1⟩
                      go_simp
                      with_reducible rfl
                     rotate_left
                     ·simp only [Act.put, zA, zB, zC, i64_w, i32_w]
                      rfl
                     refine take_ (i := 2) (N := some 79) (v := ?_) (a' := ?_) #[true, true, true, false, false, false, true, true, false, true, true, false, true, false, false, false, false, false, false] rfl rfl (take_ofW HT_.out HW_.out (by kernel_rfl)) (fun _ _ _ h => h) (Or.inl ⟨by rfl, ?_⟩) hHeld ?_ ?_
                     rotate_left
                     ·rintro w' ⟨s0, s1⟩
                      go_simp
                      with_reducible rfl
                     rotate_left
                     ·simp only [Act.put, zA, zB, zC, i64_w, i32_w]
                      rfl
                     refine take_ (i := 3) (N := some 80) (v := ?_) (a' := ?_) #[true, true, true, true, false, false, true, true, false, true, true, false, true, false, false, false, false, false, false] rfl rfl (take_ofW HT_.out HW_.out (by kernel_rfl)) (fun _ _ _ h => h) (Or.inl ⟨by rfl, ?_⟩) hHeld ?_ ?_
                     rotate_left
                     ·rintro w' ⟨s0, s1⟩
                      go_simp
                      with_reducible rfl
                     rotate_left
                     ·simp only [Act.put, zA, zB, zC, i64_w, i32_w]
                      rfl
                     refine pure_ (i := 4) (N := some 81) (v := ?_) (a' := ?_) #[true, true, true, true, true, false, true, true, false, true, true, false, true, false, false, false, false, false, false] rfl rfl (any_of HT_.out (by kernel_rfl)) (fun _ _ _ h => h) (Or.inl ⟨by rfl, ?_⟩) ?_ ?_
                     rotate_left
                     ·intro w'
                      go_simp
                      with_reducible rfl
                     rotate_left
                     ·simp only [Act.put, zA, zB, zC, i64_w, i32_w]
                      rfl
                     refine pure_ (i := 5) (N := some 82) (v := ?_) (a' := ?_) #[true, true, true, true, true, true, true, true, false, true, true, false, true, false, false, false, false, false, false] rfl rfl (any_of HT_.out (by kernel_rfl)) (fun _ _ _ h => h) (Or.inl ⟨by rfl, ?_⟩) ?_ ?_
                     rotate_left
                     ·intro w'
                      go_simp
                      with_reducible rfl
                     rotate_left
                     ·simp only [Act.put, zA, zB, zC, i64_w, i32_w]
                      rfl
                     refine one_ (i := 8) (N := some 85) #[true, true, true, true, true, true, true, true, true, true, true, false, true, false, false, false, false, false, false] rfl rfl (one_of HT_.out (by kernel_rfl)) (by decide) (fun K hK => ?_)
                     refine Go.Proofs.Ytmjepdhjginelaa.St.goesC_ Try.func37 (by kernel_rfl) rfl #[.slice Ao58 x10_2.length co58] #[.pointer (some ⟨Z20, 0, none⟩), .pointer (some ⟨Z19, 0, none⟩)] (by rfl) rfl rfl (by rfl) (by (try simp only [yH, yI, yJ]); first | done | rfl | (simp only [yG, yF]; rfl)) ?_; show Calls Try.prog 37 #[.slice Ao58 x10_2.length co58, .pointer (some ⟨Z20, 0, none⟩), .pointer (some ⟨Z19, 0, none⟩)] _ _
                     with_reducible refine (attend_Look_1.calls k4 (fun k_ => ((P2_ k_ ∨ w.heap.size ≤ k_) ∧ (some k_ ≠ (u11 : Value).ownBlock ∧ (some k_ ≠ (u15 : Value).ownBlock ∧ (k_ ≠ Z19 ∧ k_ ≠ Z20))))) _ _ x10_2 Z20 x212000_4 Z19 (wrap64 ((l0.length : Int) / a1)) t213 _ ?side1 ?side2 ?side3 A49.out).mono ?_
                     (case side1 => exact Kd.N_V (HO_10.out))
                     (case side2 => exact by (with_reducible repeat (first | refine zF ?_ _ | refine zH ?_ | refine zG ?_ _)); exact Z2.out)
                     (case side3 => exact by (with_reducible repeat (first | refine zF ?_ _ | refine zH ?_ | refine zG ?_ _)); exact Z1.out)
                     rintro e w59 ⟨v214, rfl, ho0, hb⟩
                     refine ⟨_, rfl, ?_⟩
                     have n0_ := zK (Kd.N_elder' (by (with_reducible repeat (first | apply Kd.N_alloc | apply Kd.N_drewN | apply Kd.N_drew)); exact HO_10.out) (Kd.N_base ho0) hb)
                     have n1_ := zK (Kd.N_elder' (by (with_reducible repeat (first | apply Kd.N_alloc | apply Kd.N_drewN | apply Kd.N_drew)); exact HO_11.out) (Kd.N_base ho0) hb)
                     have n2_ := zK (yb (by (with_reducible repeat (first | apply zL | apply zM | apply zN)); exact HO_15.out) hb)
                     have n3_ := zK (Kd.N_lower (Kd.N_mono (ok' := fun k_ => (P2_ k_ ∨ w.heap.size ≤ k_) ∧ some k_ ≠ (u11 : Value).ownBlock ∧ some k_ ≠ (u15 : Value).ownBlock ∧ k_ ≠ Z19 ∧ k_ ≠ Z20) ho0 (fun k_ hk_ => ⟨Or.elim hk_ (fun hs_ => hs_.1) (fun hn_ => (.inr (yl (yK (by repeat (first | (with_reducible first | exact HB.out | apply zJ | apply zD | apply zE | refine zI ?_ Z5.out | refine zI ?_ Z6.out) | exact HB.out))) hn_))), Or.elim hk_ (fun hs_ => hs_.2.1) (fun hn_ => (Kd.fresh' (Kd.N_lt (by (with_reducible repeat (first | apply Kd.N_alloc | apply Kd.N_drewN | apply Kd.N_drew)); exact HO_11.out)) k_ hn_)), Or.elim hk_ (fun hs_ => hs_.2.2.1) (fun hn_ => (Kd.fresh' (Kd.R_lt (by (with_reducible repeat (first | apply zL | apply zM | apply zN)); exact HO_15.out)) k_ hn_)), Or.elim hk_ (fun hs_ => hs_.2.2.2.1) (fun hn_ => (Kd.freshB (g := Z19) (o := .cells #[.int .i64 (wrap64 ((l0.length : Int) / a1))] 3 (0, 0)) (by (with_reducible repeat (first | refine zF ?_ _ | refine zH ?_ | refine zG ?_ _)); exact Z1.out) k_ hn_)), Or.elim hk_ (fun hs_ => hs_.2.2.2.2) (fun hn_ => (Kd.freshB (g := Z20) (o := .cells #[.int .i64 x212000_4] 3 (0, 0)) (by (with_reducible repeat (first | refine zF ?_ _ | refine zH ?_ | refine zG ?_ _)); exact Z2.out) k_ hn_))⟩)) (yK (by repeat (first | (with_reducible first | exact HB.out | apply zJ | apply zD | apply zE | refine zI ?_ Z5.out | refine zI ?_ Z6.out) | exact HB.out))))
                     have n4_ := zK (zP (g := Z19) (o := .cells #[.int .i64 (wrap64 ((l0.length : Int) / a1))] 3 (0, 0)) (by (with_reducible repeat (first | refine zF ?_ _ | refine zH ?_ | refine zG ?_ _)); exact Z1.out) hb)
                     have n5_ := zK (zP (g := Z20) (o := .cells #[.int .i64 x212000_4] 3 (0, 0)) (by (with_reducible repeat (first | refine zF ?_ _ | refine zH ?_ | refine zG ?_ _)); exact Z2.out) hb)
                     have n6_ := zK (yL (by repeat (first | (with_reducible first | exact HB.out | apply zJ | apply zD | apply zE | refine zI ?_ Z5.out | refine zI ?_ Z6.out) | exact HB.out)) hb)
                     clear HO_10 HO_11 HO_15 Z1 Z2 HB
                     have HO_10 := n0_; have HO_11 := n1_; have HO_15 := n2_; have HO215 := n3_; have Z1 := n4_; have Z2 := n5_; have HB := n6_
                     clear n0_ n1_ n2_ n3_ n4_ n5_ n6_
                     (try clear hb)
                     (try clear hb2)
                     (try clear hk)
                     (try clear hi)
                     (try clear ho0)
                     obtain ⟨Ao60, co60, eo60⟩ := Kd.N_slice HO_11.out
                     (first | subst eo60 | (injection eo60 with f1_ f2_ f3_; have f4_ := f1_.symm; have f5_ := f3_.symm; clear f1_ f2_ f3_; subst f4_; subst f5_))
                     refine hK.out _ _ ⟨(zO Z2.out 0).trans rfl, (zO Z1.out 0).trans rfl⟩ (fun hHeld => ?_)
                     clear hK K
                     refine norm_ (a' := ?_) ?_ ?_
                     rotate_left
                     ·show Act.put _ (some 85) _ = _
                      simp only [Act.put, zA, zB, zC, i64_w, i32_w]
                      rfl
                     refine one_ (i := 11) (N := some 88) #[true, true, true, true, true, true, true, true, true, true, true, true, true, false, false, false, false, false, false] rfl rfl (one_of HT_.out (by kernel_rfl)) (by decide) (fun K hK => ?_)
                     refine Go.Proofs.Ytmjepdhjginelaa.St.goesC_ Try.func37 (by kernel_rfl) rfl #[.slice Ao60 x11_2.length co60] #[.pointer (some ⟨Z20, 0, none⟩), .pointer (some ⟨Z19, 0, none⟩)] (by rfl) rfl rfl (by rfl) (by (try simp only [yH, yI, yJ]); first | done | rfl | (simp only [yG, yF]; rfl)) ?_; show Calls Try.prog 37 #[.slice Ao60 x11_2.length co60, .pointer (some ⟨Z20, 0, none⟩), .pointer (some ⟨Z19, 0, none⟩)] _ _
                     with_reducible refine (attend_Look_1.calls k4 (fun k_ => (((P2_ k_ ∨ w.heap.size ≤ k_) ∧ (some k_ ≠ (.slice Ao58 x10_2.length co58 : Value).ownBlock ∧ (some k_ ≠ (u15 : Value).ownBlock ∧ (k_ ≠ Z19 ∧ k_ ≠ Z20)))) ∧ some k_ ≠ (v214 : Value).ownBlock)) _ _ x11_2 Z20 x212000_4 Z19 (wrap64 ((l0.length : Int) / a1)) t216 _ ?side1 ?side2 ?side3 A50.out).mono ?_
                     (case side1 => exact Kd.N_V (HO_11.out))
                     (case side2 => exact by (with_reducible repeat (first | refine zF ?_ _ | refine zH ?_ | refine zG ?_ _)); exact Z2.out)
                     (case side3 => exact by (with_reducible repeat (first | refine zF ?_ _ | refine zH ?_ | refine zG ?_ _)); exact Z1.out)
                     rintro e w61 ⟨v217, rfl, ho0, hb⟩
                     refine ⟨_, rfl, ?_⟩
                     have n0_ := zK (Kd.N_elder' (by (with_reducible repeat (first | apply Kd.N_alloc | apply Kd.N_drewN | apply Kd.N_drew)); exact HO_10.out) (Kd.N_base ho0) hb)
                     have n1_ := zK (Kd.N_elder' (by (with_reducible repeat (first | apply Kd.N_alloc | apply Kd.N_drewN | apply Kd.N_drew)); exact HO_11.out) (Kd.N_base ho0) hb)
                     have n2_ := zK (yb (by (with_reducible repeat (first | apply zL | apply zM | apply zN)); exact HO_15.out) hb)
                     have n3_ := zK (Kd.N_elder' (by (with_reducible repeat (first | apply Kd.N_alloc | apply Kd.N_drewN | apply Kd.N_drew)); exact HO215.out) (Kd.N_base ho0) hb)
                     have n4_ := zK (Kd.N_lower (Kd.N_mono (ok' := fun k_ => (P2_ k_ ∨ w.heap.size ≤ k_) ∧ some k_ ≠ (.slice Ao58 x10_2.length co58 : Value).ownBlock ∧ some k_ ≠ (u15 : Value).ownBlock ∧ some k_ ≠ (v214 : Value).ownBlock ∧ k_ ≠ Z19 ∧ k_ ≠ Z20) ho0 (fun k_ hk_ => ⟨Or.elim hk_ (fun hs_ => hs_.1.1) (fun hn_ => (.inr (yl (yK (by repeat (first | (with_reducible first | exact HB.out | apply zJ | apply zD | apply zE | refine zI ?_ Z5.out | refine zI ?_ Z6.out) | exact HB.out))) hn_))), Or.elim hk_ (fun hs_ => hs_.1.2.1) (fun hn_ => (Kd.fresh' (Kd.N_lt (by (with_reducible repeat (first | apply Kd.N_alloc | apply Kd.N_drewN | apply Kd.N_drew)); exact HO_10.out)) k_ hn_)), Or.elim hk_ (fun hs_ => hs_.1.2.2.1) (fun hn_ => (Kd.fresh' (Kd.R_lt (by (with_reducible repeat (first | apply zL | apply zM | apply zN)); exact HO_15.out)) k_ hn_)), Or.elim hk_ (fun hs_ => hs_.2) (fun hn_ => (Kd.fresh' (Kd.N_lt (by (with_reducible repeat (first | apply Kd.N_alloc | apply Kd.N_drewN | apply Kd.N_drew)); exact HO215.out)) k_ hn_)), Or.elim hk_ (fun hs_ => hs_.1.2.2.2.1) (fun hn_ => (Kd.freshB (g := Z19) (o := .cells #[.int .i64 (wrap64 ((l0.length : Int) / a1))] 3 (0, 0)) (by (with_reducible repeat (first | refine zF ?_ _ | refine zH ?_ | refine zG ?_ _)); exact Z1.out) k_ hn_)), Or.elim hk_ (fun hs_ => hs_.1.2.2.2.2) (fun hn_ => (Kd.freshB (g := Z20) (o := .cells #[.int .i64 x212000_4] 3 (0, 0)) (by (with_reducible repeat (first | refine zF ?_ _ | refine zH ?_ | refine zG ?_ _)); exact Z2.out) k_ hn_))⟩)) (yK (by repeat (first | (with_reducible first | exact HB.out | apply zJ | apply zD | apply zE | refine zI ?_ Z5.out | refine zI ?_ Z6.out) | exact HB.out))))
                     have n5_ := zK (zP (g := Z19) (o := .cells #[.int .i64 (wrap64 ((l0.length : Int) / a1))] 3 (0, 0)) (by (with_reducible repeat (first | refine zF ?_ _ | refine zH ?_ | refine zG ?_ _)); exact Z1.out) hb)
                     have n6_ := zK (zP (g := Z20) (o := .cells #[.int .i64 x212000_4] 3 (0, 0)) (by (with_reducible repeat (first | refine zF ?_ _ | refine zH ?_ | refine zG ?_ _)); exact Z2.out) hb)
                     have n7_ := zK (yL (by repeat (first | (with_reducible first | exact HB.out | apply zJ | apply zD | apply zE | refine zI ?_ Z5.out | refine zI ?_ Z6.out) | exact HB.out)) hb)
                     clear HO_10 HO_11 HO_15 HO215 Z1 Z2 HB
                     have HO_10 := n0_; have HO_11 := n1_; have HO_15 := n2_; have HO215 := n3_; have HO218 := n4_; have Z1 := n5_; have Z2 := n6_; have HB := n7_
                     clear n0_ n1_ n2_ n3_ n4_ n5_ n6_ n7_
                     (try clear hb)
                     (try clear hb2)
                     (try clear hk)
                     (try clear hi)
                     (try clear ho0)
                     obtain ⟨Ao62, co62, eo62⟩ := Kd.N_slice HO215.out
                     (first | subst eo62 | (injection eo62 with f1_ f2_ f3_; have f4_ := f1_.symm; have f5_ := f3_.symm; clear f1_ f2_ f3_; subst f4_; subst f5_))
                     obtain ⟨Ao63, co63, eo63⟩ := Kd.N_slice HO218.out
                     (first | subst eo63 | (injection eo63 with f1_ f2_ f3_; have f4_ := f1_.symm; have f5_ := f3_.symm; clear f1_ f2_ f3_; subst f4_; subst f5_))
                     refine hK.out _ _ ⟨(zO Z2.out 0).trans rfl, (zO Z1.out 0).trans rfl⟩ (fun hHeld => ?_)
                     clear hK K
                     refine norm_ (a' := ?_) ?_ ?_
                     rotate_left
                     ·show Act.put _ (some 88) _ = _
                      simp only [Act.put, zA, zB, zC, i64_w, i32_w]
                      rfl
                     refine one_ (i := 13) (N := some 90) #[true, true, true, true, true, true, true, true, true, true, true, true, true, true, false, false, false, false, false] rfl rfl (one_of HT_.out (by kernel_rfl)) (by decide) (fun K hK => ?_)
                     refine goes_ Try.func15 (by kernel_rfl) rfl #[.slice A57 ((l0.take ((wrap64 (x212000_4 + (wrap64 ((l0.length : Int) / a1)))) : Int).toNat).drop (x212000_4 : Int).toNat).length (c0 - x212000_4.toNat), .slice Ao62 t213.length co62, .slice Ao63 t216.length co63, .int .i64 a3] (by rfl) rfl rfl (by (try simp only [yH, yI, yJ]); first | done | (rw [show ((l0.take ((wrap64 (x212000_4 + (wrap64 ((l0.length : Int) / a1)))) : Int).toNat).drop (x212000_4 : Int).toNat).length = ((wrap64 (x212000_4 + (wrap64 ((l0.length : Int) / a1)))).toNat - x212000_4.toNat) from (by rw [yG, yF]; have h_ : ((wrap64 (x212000_4 + (wrap64 ((l0.length : Int) / a1)))) : Int) ≤ (l0.length : Int) := yB (by first | (with_reducible assumption) | assumption); omega)] <;> rfl) | rfl | (simp only [yG, yF]; rfl)) ?_
                     with_reducible refine (attend_Head.calls k4 _ _ ((l0.take ((wrap64 (x212000_4 + (wrap64 ((l0.length : Int) / a1)))) : Int).toNat).drop (x212000_4 : Int).toNat) _ _ t213 _ _ t216 a3 t219 t220 _ ?side1 ?side2 ?side3 ?side4 ?side5 ?side6 A51.out).mono ?_
                     (case side1 => repeat (first | exact (yc HR212.out HB.out) | (with_reducible refine yS ?_ _) | (with_reducible refine yT ?_ _) | (with_reducible refine yU ?_)))
                     (case side2 => exact HC212.out)
                     (case side3 => repeat (first | exact (Kd.N_reads' HO215.out).2.2 | (with_reducible refine yS ?_ _) | (with_reducible refine yT ?_ _) | (with_reducible refine yU ?_)))
                     (case side4 => exact (Kd.N_reads' HO215.out).2.1)
                     (case side5 => repeat (first | exact (Kd.N_reads' HO218.out).2.2 | (with_reducible refine yS ?_ _) | (with_reducible refine yT ?_ _) | (with_reducible refine yU ?_)))
                     (case side6 => exact (Kd.N_reads' HO218.out).2.1)
                     rintro e w64 ⟨v221, rfl, ho0, hb⟩
                     refine ⟨_, rfl, ?_⟩
                     have n0_ := zK (Kd.N_elder' (by (with_reducible repeat (first | apply Kd.N_alloc | apply Kd.N_drewN | apply Kd.N_drew)); exact HO_10.out) (Kd.R_base ho0) hb)
                     have n1_ := zK (Kd.N_elder' (by (with_reducible repeat (first | apply Kd.N_alloc | apply Kd.N_drewN | apply Kd.N_drew)); exact HO_11.out) (Kd.R_base ho0) hb)
                     have n2_ := zK (Kd.R_elder' (by (with_reducible repeat (first | apply zL | apply zM | apply zN)); exact HO_15.out) (Kd.R_base ho0) hb)
                     have n3_ := zK (Kd.N_elder' (by (with_reducible repeat (first | apply Kd.N_alloc | apply Kd.N_drewN | apply Kd.N_drew)); exact HO215.out) (Kd.R_base ho0) hb)
                     have n4_ := zK (Kd.N_elder' (by (with_reducible repeat (first | apply Kd.N_alloc | apply Kd.N_drewN | apply Kd.N_drew)); exact HO218.out) (Kd.R_base ho0) hb)
                     have n5_ := zK (Kd.R_lower (Kd.R_new' (Kd.R_newM (M := fun k_ => (w.heap.size ≤ k_)) ho0 (yK (by repeat (first | (with_reducible first | exact HB.out | apply zJ | apply zD | apply zE | refine zI ?_ Z5.out | refine zI ?_ Z6.out) | exact HB.out))) (fun k_ h_ => h_)) (Kd.R_lt (by (with_reducible repeat (first | apply zL | apply zM | apply zN)); exact HO_15.out))) (yK (by repeat (first | (with_reducible first | exact HB.out | apply zJ | apply zD | apply zE | refine zI ?_ Z5.out | refine zI ?_ Z6.out) | exact HB.out))))
                     have n6_ := zK (zP (g := Z19) (o := .cells #[.int .i64 (wrap64 ((l0.length : Int) / a1))] 3 (0, 0)) (by (with_reducible repeat (first | refine zF ?_ _ | refine zH ?_ | refine zG ?_ _)); exact Z1.out) hb)
                     have n7_ := zK (zP (g := Z20) (o := .cells #[.int .i64 x212000_4] 3 (0, 0)) (by (with_reducible repeat (first | refine zF ?_ _ | refine zH ?_ | refine zG ?_ _)); exact Z2.out) hb)
                     have n8_ := zK (yL (by repeat (first | (with_reducible first | exact HB.out | apply zJ | apply zD | apply zE | refine zI ?_ Z5.out | refine zI ?_ Z6.out) | exact HB.out)) hb)
                     clear HO_10 HO_11 HO_15 HO215 HO218 Z1 Z2 HB
                     have HO_10 := n0_; have HO_11 := n1_; have HO_15 := n2_; have HO215 := n3_; have HO218 := n4_; have HO222 := n5_; have Z1 := n6_; have Z2 := n7_; have HB := n8_
                     clear n0_ n1_ n2_ n3_ n4_ n5_ n6_ n7_ n8_
                     (try clear hb)
                     (try clear hb2)
                     (try clear hk)
                     (try clear hi)
                     (try clear ho0)
                     refine hK.out _ _ ⟨(zO Z2.out 0).trans rfl, (zO Z1.out 0).trans rfl⟩ (fun hHeld => ?_)
                     clear hK K
                     refine norm_ (a' := ?_) ?_ ?_
                     rotate_left
                     ·show Act.put _ (some 90) _ = _
                      simp only [Act.put, zA, zB, zC, i64_w, i32_w]
                      rfl
                     refine pure_ (i := 14) (N := some 76) (v := ?_) (a' := ?_) #[true, true, true, true, true, true, true, true, true, true, true, true, true, true, true, false, false, false, false] rfl rfl (any_of HT_.out (by kernel_rfl)) (fun _ _ _ h => h) (Or.inl ⟨by rfl, ?_⟩) ?_ ?_
                     rotate_left
                     ·intro w'
                      go_simp
                      with_reducible rfl
                     rotate_left
                     ·simp only [Act.put, zA, zB, zC, i64_w, i32_w]
                      rfl
                     refine pure_ (i := 15) (N := some 91) (v := ?_) (a' := ?_) #[true, true, true, true, true, true, true, true, true, true, true, true, true, true, true, true, false, false, false] rfl rfl (any_of HT_.out (by kernel_rfl)) (fun _ _ _ h => h) (Or.inl ⟨by rfl, ?_⟩) ?_ ?_
                     rotate_left
                     ·intro w'
                      go_simp
                      with_reducible rfl
                     rotate_left
                     ·simp only [Act.put, zA, zB, zC, i64_w, i32_w]
                      rfl
                     refine pure_ (i := 16) (N := some 92) (v := ?_) (a' := ?_) #[true, true, true, true, true, true, true, true, true, true, true, true, true, true, true, true, true, false, false] rfl rfl (any_of HT_.out (by kernel_rfl)) (fun _ _ _ h => h) (Or.inl ⟨by rfl, ?_⟩) ?_ ?_
                     rotate_left
                     ·intro w'
                      go_simp
                      with_reducible rfl
                     rotate_left
                     ·simp only [Act.put, zA, zB, zC, i64_w, i32_w]
                      rfl
                     refine pure_ (i := 17) (N := some 18) (v := ?_) (a' := ?_) #[true, true, true, true, true, true, true, true, true, true, true, true, true, true, true, true, true, true, false] rfl rfl (any_of HT_.out (by kernel_rfl)) (fun _ _ _ h => h) (Or.inl ⟨by rfl, ?_⟩) ?_ ?_
                     rotate_left
                     ·intro w'
                      go_simp
                      with_reducible rfl
                     rotate_left
                     ·simp only [Act.put, zA, zB, zC, i64_w, i32_w]
                      rfl
                     refine pure_ (i := 18) (N := some 19) (v := ?_) (a' := ?_) #[true, true, true, true, true, true, true, true, true, true, true, true, true, true, true, true, true, true, true] rfl rfl (any_of HT_.out (by kernel_rfl)) (fun _ _ _ h => h) (Or.inl ⟨by rfl, ?_⟩) ?_ ?_
                     rotate_left
                     ·intro w'
                      go_simp
                      with_reducible rfl
                     rotate_left
                     ·simp only [Act.put, zA, zB, zC, i64_w, i32_w]
                      rfl
                     refine done_ (done_of HT_.out (by kernel_rfl)) ?_
                     obtain ⟨Ao66, co66, eo66⟩ := Kd.R_slice HO222.out
                     subst eo66
                     try go_wp2_with (first | ((with_reducible refine gate_builtin (b := .append) (xs := #[.tmp 96, .tmp 97]) rfl ?_); at_builtin; refine Kd.R_append_rows (Kd.int .i8) (w0 := w) w.heap.size rfl (.tmp 96) (.tmp 97) 22 53 (.int .i8 0) 1 rfl Try.underlying22 info53 rfl (by decide) (by omega) u15 x15_4 t219 _ _ _ (fun k_ => (w.heap.size ≤ k_) ∧ some k_ ≠ (.slice Ao66 t219.length co66 : Value).ownBlock) (fun _ => False) rfl rfl ?aO ?aR (fun _ _ h => h) (fun _ h => h.elim) ?aF ?aB ?aS ?aL ?_; (case aR => repeat (first | exact (yM HO222.out).2.2 | (with_reducible refine yS ?_ _) | (with_reducible refine yT ?_ _) | (with_reducible refine yU ?_))); (case aB => exact (by repeat (first | (with_reducible first | exact HB.out | apply zJ | apply zD | apply zE | refine zI ?_ Z5.out | refine zI ?_ Z6.out) | exact HB.out))); (case aF => exact (fun k_ hk => ⟨(yl (yK (by repeat (first | (with_reducible first | exact HB.out | apply zJ | apply zD | apply zE | refine zI ?_ Z5.out | refine zI ?_ Z6.out) | exact HB.out))) hk), Kd.fresh' (Kd.R_lt (by (with_reducible repeat (first | apply zL | apply zM | apply zN)); exact HO222.out)) k_ hk⟩)); (case aO => exact (by (with_reducible repeat (first | apply zL | apply zM | apply zN)); exact HO_15.out)); (case aS => exact (yK (by repeat (first | (with_reducible first | exact HB.out | apply zJ | apply zD | apply zE | refine zI ?_ Z5.out | refine zI ?_ Z6.out) | exact HB.out)))); (case aL => have := LMc53.out; omega); intro v224 w65 ho hb hg hat; rw [← Ny223.out] at ho; have n0_ := zK (Kd.N_afterv (ok := (fun k_ => (P2_ k_ ∨ w.heap.size ≤ k_) ∧ some k_ ≠ (.slice Ao60 x11_2.length co60 : Value).ownBlock ∧ some k_ ≠ (.slice Ao62 t213.length co62 : Value).ownBlock ∧ some k_ ≠ (.slice Ao63 t216.length co63 : Value).ownBlock ∧ some k_ ≠ (.slice Ao66 t219.length co66 : Value).ownBlock ∧ k_ ≠ Z19 ∧ k_ ≠ Z20)) (by (with_reducible repeat (first | apply Kd.N_alloc | apply Kd.N_drewN | apply Kd.N_drew)); exact Kd.N_mono HO_10.out (fun _ hk => ⟨⟨hk.1.1.1.1, ⟨hk.1.1.1.2.1, ⟨hk.1.1.2, ⟨hk.1.2, ⟨hk.2, ⟨hk.1.1.1.2.2.2.1, hk.1.1.1.2.2.2.2⟩⟩⟩⟩⟩⟩, hk.1.1.1.2.2.1⟩)) hg hat); have n1_ := zK (Kd.N_afterv (ok := (fun k_ => (P2_ k_ ∨ w.heap.size ≤ k_) ∧ some k_ ≠ (.slice Ao58 x10_2.length co58 : Value).ownBlock ∧ some k_ ≠ (.slice Ao62 t213.length co62 : Value).ownBlock ∧ some k_ ≠ (.slice Ao63 t216.length co63 : Value).ownBlock ∧ some k_ ≠ (.slice Ao66 t219.length co66 : Value).ownBlock ∧ k_ ≠ Z19 ∧ k_ ≠ Z20)) (by (with_reducible repeat (first | apply Kd.N_alloc | apply Kd.N_drewN | apply Kd.N_drew)); exact Kd.N_mono HO_11.out (fun _ hk => ⟨⟨hk.1.1.1.1, ⟨hk.1.1.1.2.1, ⟨hk.1.1.2, ⟨hk.1.2, ⟨hk.2, ⟨hk.1.1.1.2.2.2.1, hk.1.1.1.2.2.2.2⟩⟩⟩⟩⟩⟩, hk.1.1.1.2.2.1⟩)) hg hat); have n2_ := zK (blk_grown (g := Z19) (o := .cells #[.int .i64 (wrap64 ((l0.length : Int) / a1))] 3 (0, 0)) (by (with_reducible repeat (first | refine zF ?_ _ | refine zH ?_ | refine zG ?_ _)); exact Z1.out) hg (Kd.R_ne HO_15.out Z1.out (by decide))); have n3_ := zK (blk_grown (g := Z20) (o := .cells #[.int .i64 x212000_4] 3 (0, 0)) (by (with_reducible repeat (first | refine zF ?_ _ | refine zH ?_ | refine zG ?_ _)); exact Z2.out) hg (Kd.R_ne HO_15.out Z2.out (by decide))); have n4_ := zK (Kd.N_afterv (ok := (fun k_ => (P2_ k_ ∨ w.heap.size ≤ k_) ∧ some k_ ≠ (.slice Ao60 x11_2.length co60 : Value).ownBlock ∧ some k_ ≠ (.slice Ao63 t216.length co63 : Value).ownBlock ∧ some k_ ≠ (.slice Ao66 t219.length co66 : Value).ownBlock ∧ k_ ≠ Z19 ∧ k_ ≠ Z20)) (by (with_reducible repeat (first | apply Kd.N_alloc | apply Kd.N_drewN | apply Kd.N_drew)); exact Kd.N_mono HO215.out (fun _ hk => ⟨⟨hk.1.1.1, ⟨hk.1.1.2.1, ⟨hk.1.2, ⟨hk.2, ⟨hk.1.1.2.2.2.1, hk.1.1.2.2.2.2⟩⟩⟩⟩⟩, hk.1.1.2.2.1⟩)) hg hat); have n5_ := zK (Kd.N_afterv (ok := (fun k_ => (P2_ k_ ∨ w.heap.size ≤ k_) ∧ some k_ ≠ (.slice Ao58 x10_2.length co58 : Value).ownBlock ∧ some k_ ≠ (.slice Ao62 t213.length co62 : Value).ownBlock ∧ some k_ ≠ (.slice Ao66 t219.length co66 : Value).ownBlock ∧ k_ ≠ Z19 ∧ k_ ≠ Z20)) (by (with_reducible repeat (first | apply Kd.N_alloc | apply Kd.N_drewN | apply Kd.N_drew)); exact Kd.N_mono HO218.out (fun _ hk => ⟨⟨hk.1.1, ⟨hk.1.2.1, ⟨hk.1.2.2.2.1, ⟨hk.2, ⟨hk.1.2.2.2.2.1, hk.1.2.2.2.2.2⟩⟩⟩⟩⟩, hk.1.2.2.1⟩)) hg hat); have n6_ := zK (Kd.R_after (ok := (fun k_ => (w.heap.size ≤ k_))) (by (with_reducible repeat (first | apply zL | apply zM | apply zN)); exact yd HO222.out (fun _ hk => ⟨hk.1.1, hk.2⟩)) hg hat); have n7_ := zK (hb); have n8_ := zK (ho); clear HO_10 HO_11 Z1 Z2 HO215 HO218 HO222 HB HO_15; have HO_10 := n0_; have HO_11 := n1_; have Z1 := n2_; have Z2 := n3_; have HO215 := n4_; have HO218 := n5_; have HO222 := n6_; have HB := n7_; have HO225 := n8_; clear n0_ n1_ n2_ n3_ n4_ n5_ n6_ n7_ n8_ ho hb hg hat; have hcz67_0 : w65.cell? ⟨Z20, 0, none⟩ = some (.int .i64 x212000_4) := (zO Z2.out 0).trans rfl; have hfz67_0 := yE Z2.out 0) | ((with_reducible refine gate_dst (N := 16) rfl ?_); refine box_event ?hg (N := 16) ?hd (cs := #[.int .i64 0]) (t := 3) ?hr ?_; (case hd => rfl); (case hg => rfl); (case hr => first | (go_simp; done) | (go_simp; rfl)); intro Z21 hg w68 hbox hb; have n0_ := zK (Kd.N_below (Kd.N_elderB (by (with_reducible repeat (first | apply Kd.N_alloc | apply Kd.N_drewN | apply Kd.N_drew)); exact HO_10.out) Z21 (Nat.le_of_eq hg.symm)) hb); have n1_ := zK (Kd.N_below (Kd.N_elderB (by (with_reducible repeat (first | apply Kd.N_alloc | apply Kd.N_drewN | apply Kd.N_drew)); exact HO_11.out) Z21 (Nat.le_of_eq hg.symm)) hb); have n2_ := zK (Kd.N_below (Kd.N_elderB (by (with_reducible repeat (first | apply Kd.N_alloc | apply Kd.N_drewN | apply Kd.N_drew)); exact HO215.out) Z21 (Nat.le_of_eq hg.symm)) hb); have n3_ := zK (Kd.N_below (Kd.N_elderB (by (with_reducible repeat (first | apply Kd.N_alloc | apply Kd.N_drewN | apply Kd.N_drew)); exact HO218.out) Z21 (Nat.le_of_eq hg.symm)) hb); have n4_ := zK (yb (by (with_reducible repeat (first | apply zL | apply zM | apply zN)); exact HO222.out) hb); have n5_ := zK (yb (by (with_reducible repeat (first | apply zL | apply zM | apply zN)); exact HO225.out) hb); have n6_ := zK (zP (g := Z19) (o := .cells #[.int .i64 (wrap64 ((l0.length : Int) / a1))] 3 (0, 0)) (by (with_reducible repeat (first | refine zF ?_ _ | refine zH ?_ | refine zG ?_ _)); exact Z1.out) hb); have n7_ := zK (zP (g := Z20) (o := .cells #[.int .i64 x212000_4] 3 (0, 0)) (by (with_reducible repeat (first | refine zF ?_ _ | refine zH ?_ | refine zG ?_ _)); exact Z2.out) hb); have n8_ := zK (yL (by repeat (first | (with_reducible first | exact HB.out | apply zJ | apply zD | apply zE | refine zI ?_ Z5.out | refine zI ?_ Z6.out) | exact HB.out)) hb); have n9_ := zK (hbox); have n10_ := zK ((by rw [hg]; exact (yK (by repeat (first | (with_reducible first | exact HB.out | apply zJ | apply zD | apply zE | refine zI ?_ Z5.out | refine zI ?_ Z6.out) | exact HB.out))) : w.heap.size ≤ Z21)); have n11_ := zK ((by rw [hg]; exact (yK (by repeat (first | (with_reducible first | exact HB.out | apply zJ | apply zD | apply zE | refine zI ?_ Z5.out | refine zI ?_ Z6.out) | exact HB.out))) : w.heap.size ≤ Z21)); have n12_ := zK ((by rw [hg]; exact ym (yo (g := Z19) (o := .cells #[.int .i64 (wrap64 ((l0.length : Int) / a1))] 3 (0, 0)) (by (with_reducible repeat (first | refine zF ?_ _ | refine zH ?_ | refine zG ?_ _)); exact Z1.out)) : Z19 ≠ Z21)); have n13_ := zK ((by rw [hg]; exact yn (yo (g := Z19) (o := .cells #[.int .i64 (wrap64 ((l0.length : Int) / a1))] 3 (0, 0)) (by (with_reducible repeat (first | refine zF ?_ _ | refine zH ?_ | refine zG ?_ _)); exact Z1.out)) : Z21 ≠ Z19)); have n14_ := zK ((by rw [hg]; exact ym (yo (g := Z20) (o := .cells #[.int .i64 x212000_4] 3 (0, 0)) (by (with_reducible repeat (first | refine zF ?_ _ | refine zH ?_ | refine zG ?_ _)); exact Z2.out)) : Z20 ≠ Z21)); have n15_ := zK ((by rw [hg]; exact yn (yo (g := Z20) (o := .cells #[.int .i64 x212000_4] 3 (0, 0)) (by (with_reducible repeat (first | refine zF ?_ _ | refine zH ?_ | refine zG ?_ _)); exact Z2.out)) : Z21 ≠ Z20)); clear HO_10 HO_11 HO215 HO218 HO222 HO225 Z1 Z2 HB; have HO_10 := n0_; have HO_11 := n1_; have HO215 := n2_; have HO218 := n3_; have HO222 := n4_; have HO225 := n5_; have Z1 := n6_; have Z2 := n7_; have HB := n8_; have Z3 := n9_; have Z11 := n10_; have Z7 := n11_; have Z13 := n12_; have Z16 := n13_; have Z15 := n14_; have Z17 := n15_; clear n0_ n1_ n2_ n3_ n4_ n5_ n6_ n7_ n8_ n9_ n10_ n11_ n12_ n13_ n14_ n15_ hb hbox hg; have hnb69 := Z16.out; have hnc69 := Z13.out; have hnb70 := Z17.out; have hnc70 := Z15.out; have hcz71_0 : w68.cell? ⟨Z21, 0, none⟩ = some (.int .i64 0) := (zO Z3.out 0).trans rfl; have hfz71_0 := yE Z3.out 0; have hcz72_0 : w68.cell? ⟨Z19, 0, none⟩ = some (.int .i64 (wrap64 ((l0.length : Int) / a1))) := (zO Z1.out 0).trans rfl; have hfz72_0 := yE Z1.out 0))
                     go_roundg k4
                     case measure => have := HJ4.out; have := HK2.out; have := HJ28.out; have := HK4.out; omega
                     case rel => exact ⟨(y223), (wrap64 (x212000_4 + (wrap64 ((l0.length : Int) / a1)))), Z21, rfl, H', ⟨by have := HJ4.out; have := HK2.out; have := HJ28.out; have := HK4.out; omega⟩, ⟨Z11.out⟩, ⟨Z7.out⟩, ⟨Z13.out⟩, ⟨Z16.out⟩, ⟨by (with_reducible repeat (first | apply Kd.N_alloc | apply Kd.N_drewN | apply Kd.N_drew)); exact Kd.N_mono (Kd.N_far (p := ⟨Z21, 0, none⟩) (Kd.N_far (p := ⟨Z21, 0, none⟩) (Kd.N_mono HO_10.out (fun k_ hk => (⟨hk, hk.2⟩ : _ ∧ k_ ≠ Z21))) (fun _ hk => hk.2) (.int .i64 x212000_4)) (fun _ hk => hk.2) (.int .i64 (wrap64 (x212000_4 + (wrap64 ((l0.length : Int) / a1)))))) (fun _ hk => ⟨hk.1.1.1.1, ⟨hk.1.1.1.2.1, ⟨hk.1.1.2, ⟨hk.1.1.1.2.2.2.2.2.1, hk.1.2⟩⟩⟩⟩)⟩, ⟨by (with_reducible repeat (first | apply Kd.N_alloc | apply Kd.N_drewN | apply Kd.N_drew)); exact Kd.N_mono (Kd.N_far (p := ⟨Z21, 0, none⟩) (Kd.N_far (p := ⟨Z21, 0, none⟩) (Kd.N_mono HO_11.out (fun k_ hk => (⟨hk, hk.2⟩ : _ ∧ k_ ≠ Z21))) (fun _ hk => hk.2) (.int .i64 x212000_4)) (fun _ hk => hk.2) (.int .i64 (wrap64 (x212000_4 + (wrap64 ((l0.length : Int) / a1)))))) (fun _ hk => ⟨hk.1.1.1.1, ⟨hk.1.1.1.2.1, ⟨hk.1.1.2, ⟨hk.1.1.1.2.2.2.2.2.1, hk.1.2⟩⟩⟩⟩)⟩, ⟨by (with_reducible repeat (first | apply zL | apply zM | apply zN)); exact yd (Kd.R_far (p := ⟨Z21, 0, none⟩) (Kd.R_far (p := ⟨Z21, 0, none⟩) (Kd.R_types HO225.out Z3.out (by decide)) (fun _ hk => hk.2) (.int .i64 x212000_4)) (fun _ hk => hk.2) (.int .i64 (wrap64 (x212000_4 + (wrap64 ((l0.length : Int) / a1)))))) (fun _ hk => hk.1.1)⟩, ⟨by (with_reducible repeat (first | refine zF ?_ _ | refine zH ?_ | refine zG ?_ _)); refine blk_far ?_ Z13.out _; (with_reducible repeat (first | refine zF ?_ _ | refine zH ?_ | refine zG ?_ _)); refine blk_far ?_ Z13.out _; (with_reducible repeat (first | refine zF ?_ _ | refine zH ?_ | refine zG ?_ _)); exact Z1.out⟩, ⟨by (with_reducible repeat (first | refine zF ?_ _ | refine zH ?_ | refine zG ?_ _)); refine blk_put (cs := #[.int .i64 x212000_4]) ?_ 0 _ rfl; (with_reducible repeat (first | refine zF ?_ _ | refine zH ?_ | refine zG ?_ _)); refine blk_put (cs := #[.int .i64 0]) ?_ 0 _ rfl; (with_reducible repeat (first | refine zF ?_ _ | refine zH ?_ | refine zG ?_ _)); exact Z3.out⟩, ⟨by repeat (first | (with_reducible first | exact HB.out | apply zJ | apply zD | apply zE | refine zI ?_ Z5.out | refine zI ?_ Z6.out | refine zI ?_ Z7.out) | exact HB.out)⟩⟩
                    ·rw [if_neg c53] at H
                     exact absurd H (by simp)
                   ·rw [if_neg c52] at H
                    have c52b0 : (t220 == 0) = false := beq_eq_false_iff_ne.mpr c52
                    have c52b1 : (t220 != 0) = true := bne_iff_ne.mpr c52
                    simp only [yZ, ya] at H
                    obtain ⟨rfl, rfl⟩ := H
                    have hnb73 := Z14.out
                    have hnc73 := Z12.out
                    have hcz74_0 : wr.cell? ⟨Z20, 0, none⟩ = some (.int .i64 x212000_4) := (zO Z2.out 0).trans rfl
                    have hfz74_0 := yE Z2.out 0
                    try go_wp2
                    have n0_ := zK (Kd.N_drew HO_10.out)
                    have n1_ := zK (Kd.N_drew HO_11.out)
                    have n2_ := zK (zN HO_15.out)
                    have n3_ := zK (zH Z1.out)
                    have n4_ := zK (zH Z2.out)
                    have n5_ := zK (zE HB.out)
                    clear HO_10 HO_11 HO_15 Z1 Z2 HB
                    have HO_10 := n0_; have HO_11 := n1_; have HO_15 := n2_; have Z1 := n3_; have Z2 := n4_; have HB := n5_
                    clear n0_ n1_ n2_ n3_ n4_ n5_
                    obtain ⟨i076, hi076, _, hsz76, _⟩ := yj info53
                    obtain ⟨A76, hcut76, hA76, hC76⟩ := print_mid_of (P := Try.prog) (Value.int .i8) 0 22 53 .i64 .i64 Try.underlying22 hi076 hsz76 A0 c0 l0 x212000_4 (wrap64 (x212000_4 + (wrap64 ((l0.length : Int) / a1)))) (yB (by first | (with_reducible assumption) | assumption)) (by first | omega | exact yB (by first | (with_reducible assumption) | assumption)) (yB (by first | (with_reducible assumption) | assumption)) HC0.out
                    have HR212 := zK (Kd.C_of_reads (h1 := fun _ => rfl) (hA76 _ (Kd.reads_of_C HR0.out)))
                    have HC212 := zK hC76
                    clear hA76 hC76 hi076 hsz76
                    obtain ⟨Ao77, co77, eo77⟩ := Kd.N_slice HO_10.out
                    (first | subst eo77 | (injection eo77 with f1_ f2_ f3_; have f4_ := f1_.symm; have f5_ := f3_.symm; clear f1_ f2_ f3_; subst f4_; subst f5_))
                    refine start_ (n := 19) (S := fun w' => w'.cell? ⟨Z20, 0, none⟩ = some (.int .i64 x212000_4) ∧ w'.cell? ⟨Z19, 0, none⟩ = some (.int .i64 (wrap64 ((l0.length : Int) / a1)))) (ds := []) #[false, false, false, false, false, false, false, false, false, false, false, false, false, false, false, false, false, false, false] (by kernel_rfl) rfl rfl ⟨(zO Z2.out 0).trans rfl, (zO Z1.out 0).trans rfl⟩ (fun hHeld => ?_); refine with_tabW attend_Look.tab19 attend_Look.bits19 (fun HT_ HW_ => ?_)
                    generalize wr.drew = w75 at HO_10 HO_11 HO_15 Z1 Z2 HB HR212 hHeld ⊢
                    refine pure_ (i := 0) (N := some 77) (v := ?_) (a' := ?_) #[true, false, false, false, false, false, false, false, false, false, false, false, false, false, false, false, false, false, false] rfl rfl (any_of HT_.out (by kernel_rfl)) (fun _ _ _ h => h) (Or.inl ⟨by rfl, ?_⟩) ?_ ?_
                    rotate_left
                    ·intro w'
                     go_simp
                     with_reducible rfl
                    rotate_left
                    ·simp only [Act.put, zA, zB, zC, i64_w, i32_w]
                     rfl
                    refine pure_ (i := 6) (N := some 83) (v := ?_) (a' := ?_) #[true, false, false, false, false, false, true, false, false, false, false, false, false, false, false, false, false, false, false] rfl rfl (any_of HT_.out (by kernel_rfl)) (fun _ _ _ h => h) (Or.inl ⟨by rfl, ?_⟩) ?_ ?_
                    rotate_left
                    ·intro w'
                     go_simp
                     with_reducible rfl
                    rotate_left
                    ·simp only [Act.put, zA, zB, zC, i64_w, i32_w]
                     rfl
                    refine pure_ (i := 7) (N := some 84) (v := ?_) (a' := ?_) #[true, false, false, false, false, false, true, true, false, false, false, false, false, false, false, false, false, false, false] rfl rfl (any_of HT_.out (by kernel_rfl)) (fun _ _ _ h => h) (Or.inl ⟨by rfl, ?_⟩) ?_ ?_
                    rotate_left
                    ·intro w'
                     go_simp
                     with_reducible rfl
                    rotate_left
                    ·simp only [Act.put, zA, zB, zC, i64_w, i32_w]
                     rfl
                    refine pure_ (i := 9) (N := some 86) (v := ?_) (a' := ?_) #[true, false, false, false, false, false, true, true, false, true, false, false, false, false, false, false, false, false, false] rfl rfl (any_of HT_.out (by kernel_rfl)) (fun _ _ _ h => h) (Or.inl ⟨by rfl, ?_⟩) ?_ ?_
                    rotate_left
                    ·intro w'
                     go_simp
                     with_reducible rfl
                    rotate_left
                    ·simp only [Act.put, zA, zB, zC, i64_w, i32_w]
                     rfl
                    refine pure_ (i := 10) (N := some 87) (v := ?_) (a' := ?_) #[true, false, false, false, false, false, true, true, false, true, true, false, false, false, false, false, false, false, false] rfl rfl (any_of HT_.out (by kernel_rfl)) (fun _ _ _ h => h) (Or.inl ⟨by rfl, ?_⟩) ?_ ?_
                    rotate_left
                    ·intro w'
                     go_simp
                     with_reducible rfl
                    rotate_left
                    ·simp only [Act.put, zA, zB, zC, i64_w, i32_w]
                     rfl
                    refine pure_ (i := 12) (N := some 89) (v := ?_) (a' := ?_) #[true, false, false, false, false, false, true, true, false, true, true, false, true, false, false, false, false, false, false] rfl rfl (any_of HT_.out (by kernel_rfl)) (fun _ _ _ h => h) (Or.inl ⟨by rfl, ?_⟩) ?_ ?_
                    rotate_left
                    ·intro w'
                     go_simp
                     with_reducible rfl
                    rotate_left
                    ·simp only [Act.put, zA, zB, zC, i64_w, i32_w]
                     rfl
                    refine take_ (i := 1) (N := some 78) (v := ?_) (a' := ?_) #[true, true, false, false, false, false, true, true, false, true, true, false, true, false, false, false, false, false, false] rfl rfl (take_ofW HT_.out HW_.out (by kernel_rfl)) (fun _ _ _ h => h) (Or.inl ⟨by rfl, ?_⟩) hHeld ?_ ?_
                    rotate_left
                    ·rintro w' ⟨s0, s1⟩
                     go_simp
                     with_reducible rfl
                    rotate_left
                    ·simp only [Act.put, zA, zB, zC, i64_w, i32_w]
                     rfl
                    refine take_ (i := 2) (N := some 79) (v := ?_) (a' := ?_) #[true, true, true, false, false, false, true, true, false, true, true, false, true, false, false, false, false, false, false] rfl rfl (take_ofW HT_.out HW_.out (by kernel_rfl)) (fun _ _ _ h => h) (Or.inl ⟨by rfl, ?_⟩) hHeld ?_ ?_
                    rotate_left
                    ·rintro w' ⟨s0, s1⟩
                     go_simp
                     with_reducible rfl
                    rotate_left
                    ·simp only [Act.put, zA, zB, zC, i64_w, i32_w]
                     rfl
                    refine take_ (i := 3) (N := some 80) (v := ?_) (a' := ?_) #[true, true, true, true, false, false, true, true, false, true, true, false, true, false, false, false, false, false, false] rfl rfl (take_ofW HT_.out HW_.out (by kernel_rfl)) (fun _ _ _ h => h) (Or.inl ⟨by rfl, ?_⟩) hHeld ?_ ?_
                    rotate_left
                    ·rintro w' ⟨s0, s1⟩
                     go_simp
                     with_reducible rfl
                    rotate_left
                    ·simp only [Act.put, zA, zB, zC, i64_w, i32_w]
                     rfl
                    refine pure_ (i := 4) (N := some 81) (v := ?_) (a' := ?_) #[true, true, true, true, true, false, true, true, false, true, true, false, true, false, false, false, false, false, false] rfl rfl (any_of HT_.out (by kernel_rfl)) (fun _ _ _ h => h) (Or.inl ⟨by rfl, ?_⟩) ?_ ?_
                    rotate_left
                    ·intro w'
                     go_simp
                     with_reducible rfl
                    rotate_left
                    ·simp only [Act.put, zA, zB, zC, i64_w, i32_w]
                     rfl
                    refine pure_ (i := 5) (N := some 82) (v := ?_) (a' := ?_) #[true, true, true, true, true, true, true, true, false, true, true, false, true, false, false, false, false, false, false] rfl rfl (any_of HT_.out (by kernel_rfl)) (fun _ _ _ h => h) (Or.inl ⟨by rfl, ?_⟩) ?_ ?_
                    rotate_left
                    ·intro w'
                     go_simp
                     with_reducible rfl
                    rotate_left
                    ·simp only [Act.put, zA, zB, zC, i64_w, i32_w]
                     rfl
                    refine one_ (i := 8) (N := some 85) #[true, true, true, true, true, true, true, true, true, true, true, false, true, false, false, false, false, false, false] rfl rfl (one_of HT_.out (by kernel_rfl)) (by decide) (fun K hK => ?_)
                    refine Go.Proofs.Ytmjepdhjginelaa.St.goesC_ Try.func37 (by kernel_rfl) rfl #[.slice Ao77 x10_2.length co77] #[.pointer (some ⟨Z20, 0, none⟩), .pointer (some ⟨Z19, 0, none⟩)] (by rfl) rfl rfl (by rfl) (by (try simp only [yH, yI, yJ]); first | done | rfl | (simp only [yG, yF]; rfl)) ?_; show Calls Try.prog 37 #[.slice Ao77 x10_2.length co77, .pointer (some ⟨Z20, 0, none⟩), .pointer (some ⟨Z19, 0, none⟩)] _ _
                    with_reducible refine (attend_Look_1.calls k4 (fun k_ => ((P2_ k_ ∨ w.heap.size ≤ k_) ∧ (some k_ ≠ (u11 : Value).ownBlock ∧ (some k_ ≠ (u15 : Value).ownBlock ∧ (k_ ≠ Z19 ∧ k_ ≠ Z20))))) _ _ x10_2 Z20 x212000_4 Z19 (wrap64 ((l0.length : Int) / a1)) t213 _ ?side1 ?side2 ?side3 A49.out).mono ?_
                    (case side1 => exact Kd.N_V (HO_10.out))
                    (case side2 => exact by (with_reducible repeat (first | refine zF ?_ _ | refine zH ?_ | refine zG ?_ _)); exact Z2.out)
                    (case side3 => exact by (with_reducible repeat (first | refine zF ?_ _ | refine zH ?_ | refine zG ?_ _)); exact Z1.out)
                    rintro e w78 ⟨v214, rfl, ho0, hb⟩
                    refine ⟨_, rfl, ?_⟩
                    have n0_ := zK (Kd.N_elder' (by (with_reducible repeat (first | apply Kd.N_alloc | apply Kd.N_drewN | apply Kd.N_drew)); exact HO_10.out) (Kd.N_base ho0) hb)
                    have n1_ := zK (Kd.N_elder' (by (with_reducible repeat (first | apply Kd.N_alloc | apply Kd.N_drewN | apply Kd.N_drew)); exact HO_11.out) (Kd.N_base ho0) hb)
                    have n2_ := zK (yb (by (with_reducible repeat (first | apply zL | apply zM | apply zN)); exact HO_15.out) hb)
                    have n3_ := zK (Kd.N_lower (Kd.N_mono (ok' := fun k_ => (P2_ k_ ∨ w.heap.size ≤ k_) ∧ some k_ ≠ (u11 : Value).ownBlock ∧ some k_ ≠ (u15 : Value).ownBlock ∧ k_ ≠ Z19 ∧ k_ ≠ Z20) ho0 (fun k_ hk_ => ⟨Or.elim hk_ (fun hs_ => hs_.1) (fun hn_ => (.inr (yl (yK (by repeat (first | (with_reducible first | exact HB.out | apply zJ | apply zD | apply zE | refine zI ?_ Z5.out | refine zI ?_ Z6.out) | exact HB.out))) hn_))), Or.elim hk_ (fun hs_ => hs_.2.1) (fun hn_ => (Kd.fresh' (Kd.N_lt (by (with_reducible repeat (first | apply Kd.N_alloc | apply Kd.N_drewN | apply Kd.N_drew)); exact HO_11.out)) k_ hn_)), Or.elim hk_ (fun hs_ => hs_.2.2.1) (fun hn_ => (Kd.fresh' (Kd.R_lt (by (with_reducible repeat (first | apply zL | apply zM | apply zN)); exact HO_15.out)) k_ hn_)), Or.elim hk_ (fun hs_ => hs_.2.2.2.1) (fun hn_ => (Kd.freshB (g := Z19) (o := .cells #[.int .i64 (wrap64 ((l0.length : Int) / a1))] 3 (0, 0)) (by (with_reducible repeat (first | refine zF ?_ _ | refine zH ?_ | refine zG ?_ _)); exact Z1.out) k_ hn_)), Or.elim hk_ (fun hs_ => hs_.2.2.2.2) (fun hn_ => (Kd.freshB (g := Z20) (o := .cells #[.int .i64 x212000_4] 3 (0, 0)) (by (with_reducible repeat (first | refine zF ?_ _ | refine zH ?_ | refine zG ?_ _)); exact Z2.out) k_ hn_))⟩)) (yK (by repeat (first | (with_reducible first | exact HB.out | apply zJ | apply zD | apply zE | refine zI ?_ Z5.out | refine zI ?_ Z6.out) | exact HB.out))))
                    have n4_ := zK (zP (g := Z19) (o := .cells #[.int .i64 (wrap64 ((l0.length : Int) / a1))] 3 (0, 0)) (by (with_reducible repeat (first | refine zF ?_ _ | refine zH ?_ | refine zG ?_ _)); exact Z1.out) hb)
                    have n5_ := zK (zP (g := Z20) (o := .cells #[.int .i64 x212000_4] 3 (0, 0)) (by (with_reducible repeat (first | refine zF ?_ _ | refine zH ?_ | refine zG ?_ _)); exact Z2.out) hb)
                    have n6_ := zK (yL (by repeat (first | (with_reducible first | exact HB.out | apply zJ | apply zD | apply zE | refine zI ?_ Z5.out | refine zI ?_ Z6.out) | exact HB.out)) hb)
                    clear HO_10 HO_11 HO_15 Z1 Z2 HB
                    have HO_10 := n0_; have HO_11 := n1_; have HO_15 := n2_; have HO215 := n3_; have Z1 := n4_; have Z2 := n5_; have HB := n6_
                    clear n0_ n1_ n2_ n3_ n4_ n5_ n6_
                    (try clear hb)
                    (try clear hb2)
                    (try clear hk)
                    (try clear hi)
                    (try clear ho0)
                    obtain ⟨Ao79, co79, eo79⟩ := Kd.N_slice HO_11.out
                    (first | subst eo79 | (injection eo79 with f1_ f2_ f3_; have f4_ := f1_.symm; have f5_ := f3_.symm; clear f1_ f2_ f3_; subst f4_; subst f5_))
                    refine hK.out _ _ ⟨(zO Z2.out 0).trans rfl, (zO Z1.out 0).trans rfl⟩ (fun hHeld => ?_)
                    clear hK K
                    refine norm_ (a' := ?_) ?_ ?_
                    rotate_left
                    ·show Act.put _ (some 85) _ = _
                     simp only [Act.put, zA, zB, zC, i64_w, i32_w]
                     rfl
                    refine one_ (i := 11) (N := some 88) #[true, true, true, true, true, true, true, true, true, true, true, true, true, false, false, false, false, false, false] rfl rfl (one_of HT_.out (by kernel_rfl)) (by decide) (fun K hK => ?_)
                    refine Go.Proofs.Ytmjepdhjginelaa.St.goesC_ Try.func37 (by kernel_rfl) rfl #[.slice Ao79 x11_2.length co79] #[.pointer (some ⟨Z20, 0, none⟩), .pointer (some ⟨Z19, 0, none⟩)] (by rfl) rfl rfl (by rfl) (by (try simp only [yH, yI, yJ]); first | done | rfl | (simp only [yG, yF]; rfl)) ?_; show Calls Try.prog 37 #[.slice Ao79 x11_2.length co79, .pointer (some ⟨Z20, 0, none⟩), .pointer (some ⟨Z19, 0, none⟩)] _ _
                    with_reducible refine (attend_Look_1.calls k4 (fun k_ => (((P2_ k_ ∨ w.heap.size ≤ k_) ∧ (some k_ ≠ (.slice Ao77 x10_2.length co77 : Value).ownBlock ∧ (some k_ ≠ (u15 : Value).ownBlock ∧ (k_ ≠ Z19 ∧ k_ ≠ Z20)))) ∧ some k_ ≠ (v214 : Value).ownBlock)) _ _ x11_2 Z20 x212000_4 Z19 (wrap64 ((l0.length : Int) / a1)) t216 _ ?side1 ?side2 ?side3 A50.out).mono ?_
                    (case side1 => exact Kd.N_V (HO_11.out))
                    (case side2 => exact by (with_reducible repeat (first | refine zF ?_ _ | refine zH ?_ | refine zG ?_ _)); exact Z2.out)
                    (case side3 => exact by (with_reducible repeat (first | refine zF ?_ _ | refine zH ?_ | refine zG ?_ _)); exact Z1.out)
                    rintro e w80 ⟨v217, rfl, ho0, hb⟩
                    refine ⟨_, rfl, ?_⟩
                    have n0_ := zK (Kd.N_elder' (by (with_reducible repeat (first | apply Kd.N_alloc | apply Kd.N_drewN | apply Kd.N_drew)); exact HO_10.out) (Kd.N_base ho0) hb)
                    have n1_ := zK (Kd.N_elder' (by (with_reducible repeat (first | apply Kd.N_alloc | apply Kd.N_drewN | apply Kd.N_drew)); exact HO_11.out) (Kd.N_base ho0) hb)
                    have n2_ := zK (yb (by (with_reducible repeat (first | apply zL | apply zM | apply zN)); exact HO_15.out) hb)
                    have n3_ := zK (Kd.N_elder' (by (with_reducible repeat (first | apply Kd.N_alloc | apply Kd.N_drewN | apply Kd.N_drew)); exact HO215.out) (Kd.N_base ho0) hb)
                    have n4_ := zK (Kd.N_lower (Kd.N_mono (ok' := fun k_ => (P2_ k_ ∨ w.heap.size ≤ k_) ∧ some k_ ≠ (.slice Ao77 x10_2.length co77 : Value).ownBlock ∧ some k_ ≠ (u15 : Value).ownBlock ∧ some k_ ≠ (v214 : Value).ownBlock ∧ k_ ≠ Z19 ∧ k_ ≠ Z20) ho0 (fun k_ hk_ => ⟨Or.elim hk_ (fun hs_ => hs_.1.1) (fun hn_ => (.inr (yl (yK (by repeat (first | (with_reducible first | exact HB.out | apply zJ | apply zD | apply zE | refine zI ?_ Z5.out | refine zI ?_ Z6.out) | exact HB.out))) hn_))), Or.elim hk_ (fun hs_ => hs_.1.2.1) (fun hn_ => (Kd.fresh' (Kd.N_lt (by (with_reducible repeat (first | apply Kd.N_alloc | apply Kd.N_drewN | apply Kd.N_drew)); exact HO_10.out)) k_ hn_)), Or.elim hk_ (fun hs_ => hs_.1.2.2.1) (fun hn_ => (Kd.fresh' (Kd.R_lt (by (with_reducible repeat (first | apply zL | apply zM | apply zN)); exact HO_15.out)) k_ hn_)), Or.elim hk_ (fun hs_ => hs_.2) (fun hn_ => (Kd.fresh' (Kd.N_lt (by (with_reducible repeat (first | apply Kd.N_alloc | apply Kd.N_drewN | apply Kd.N_drew)); exact HO215.out)) k_ hn_)), Or.elim hk_ (fun hs_ => hs_.1.2.2.2.1) (fun hn_ => (Kd.freshB (g := Z19) (o := .cells #[.int .i64 (wrap64 ((l0.length : Int) / a1))] 3 (0, 0)) (by (with_reducible repeat (first | refine zF ?_ _ | refine zH ?_ | refine zG ?_ _)); exact Z1.out) k_ hn_)), Or.elim hk_ (fun hs_ => hs_.1.2.2.2.2) (fun hn_ => (Kd.freshB (g := Z20) (o := .cells #[.int .i64 x212000_4] 3 (0, 0)) (by (with_reducible repeat (first | refine zF ?_ _ | refine zH ?_ | refine zG ?_ _)); exact Z2.out) k_ hn_))⟩)) (yK (by repeat (first | (with_reducible first | exact HB.out | apply zJ | apply zD | apply zE | refine zI ?_ Z5.out | refine zI ?_ Z6.out) | exact HB.out))))
                    have n5_ := zK (zP (g := Z19) (o := .cells #[.int .i64 (wrap64 ((l0.length : Int) / a1))] 3 (0, 0)) (by (with_reducible repeat (first | refine zF ?_ _ | refine zH ?_ | refine zG ?_ _)); exact Z1.out) hb)
                    have n6_ := zK (zP (g := Z20) (o := .cells #[.int .i64 x212000_4] 3 (0, 0)) (by (with_reducible repeat (first | refine zF ?_ _ | refine zH ?_ | refine zG ?_ _)); exact Z2.out) hb)
                    have n7_ := zK (yL (by repeat (first | (with_reducible first | exact HB.out | apply zJ | apply zD | apply zE | refine zI ?_ Z5.out | refine zI ?_ Z6.out) | exact HB.out)) hb)
                    clear HO_10 HO_11 HO_15 HO215 Z1 Z2 HB
                    have HO_10 := n0_; have HO_11 := n1_; have HO_15 := n2_; have HO215 := n3_; have HO218 := n4_; have Z1 := n5_; have Z2 := n6_; have HB := n7_
                    clear n0_ n1_ n2_ n3_ n4_ n5_ n6_ n7_
                    (try clear hb)
                    (try clear hb2)
                    (try clear hk)
                    (try clear hi)
                    (try clear ho0)
                    obtain ⟨Ao81, co81, eo81⟩ := Kd.N_slice HO215.out
                    (first | subst eo81 | (injection eo81 with f1_ f2_ f3_; have f4_ := f1_.symm; have f5_ := f3_.symm; clear f1_ f2_ f3_; subst f4_; subst f5_))
                    obtain ⟨Ao82, co82, eo82⟩ := Kd.N_slice HO218.out
                    (first | subst eo82 | (injection eo82 with f1_ f2_ f3_; have f4_ := f1_.symm; have f5_ := f3_.symm; clear f1_ f2_ f3_; subst f4_; subst f5_))
                    refine hK.out _ _ ⟨(zO Z2.out 0).trans rfl, (zO Z1.out 0).trans rfl⟩ (fun hHeld => ?_)
                    clear hK K
                    refine norm_ (a' := ?_) ?_ ?_
                    rotate_left
                    ·show Act.put _ (some 88) _ = _
                     simp only [Act.put, zA, zB, zC, i64_w, i32_w]
                     rfl
                    refine one_ (i := 13) (N := some 90) #[true, true, true, true, true, true, true, true, true, true, true, true, true, true, false, false, false, false, false] rfl rfl (one_of HT_.out (by kernel_rfl)) (by decide) (fun K hK => ?_)
                    refine goes_ Try.func15 (by kernel_rfl) rfl #[.slice A76 ((l0.take ((wrap64 (x212000_4 + (wrap64 ((l0.length : Int) / a1)))) : Int).toNat).drop (x212000_4 : Int).toNat).length (c0 - x212000_4.toNat), .slice Ao81 t213.length co81, .slice Ao82 t216.length co82, .int .i64 a3] (by rfl) rfl rfl (by (try simp only [yH, yI, yJ]); first | done | (rw [show ((l0.take ((wrap64 (x212000_4 + (wrap64 ((l0.length : Int) / a1)))) : Int).toNat).drop (x212000_4 : Int).toNat).length = ((wrap64 (x212000_4 + (wrap64 ((l0.length : Int) / a1)))).toNat - x212000_4.toNat) from (by rw [yG, yF]; have h_ : ((wrap64 (x212000_4 + (wrap64 ((l0.length : Int) / a1)))) : Int) ≤ (l0.length : Int) := yB (by first | (with_reducible assumption) | assumption); omega)] <;> rfl) | rfl | (simp only [yG, yF]; rfl)) ?_
                    with_reducible refine (attend_Head.calls k4 _ _ ((l0.take ((wrap64 (x212000_4 + (wrap64 ((l0.length : Int) / a1)))) : Int).toNat).drop (x212000_4 : Int).toNat) _ _ t213 _ _ t216 a3 t219 t220 _ ?side1 ?side2 ?side3 ?side4 ?side5 ?side6 A51.out).mono ?_
                    (case side1 => repeat (first | exact (yc HR212.out HB.out) | (with_reducible refine yS ?_ _) | (with_reducible refine yT ?_ _) | (with_reducible refine yU ?_)))
                    (case side2 => exact HC212.out)
                    (case side3 => repeat (first | exact (Kd.N_reads' HO215.out).2.2 | (with_reducible refine yS ?_ _) | (with_reducible refine yT ?_ _) | (with_reducible refine yU ?_)))
                    (case side4 => exact (Kd.N_reads' HO215.out).2.1)
                    (case side5 => repeat (first | exact (Kd.N_reads' HO218.out).2.2 | (with_reducible refine yS ?_ _) | (with_reducible refine yT ?_ _) | (with_reducible refine yU ?_)))
                    (case side6 => exact (Kd.N_reads' HO218.out).2.1)
                    rintro e w83 ⟨v221, rfl, ho0, hb⟩
                    refine ⟨_, rfl, ?_⟩
                    have n0_ := zK (Kd.N_elder' (by (with_reducible repeat (first | apply Kd.N_alloc | apply Kd.N_drewN | apply Kd.N_drew)); exact HO_10.out) (Kd.R_base ho0) hb)
                    have n1_ := zK (Kd.N_elder' (by (with_reducible repeat (first | apply Kd.N_alloc | apply Kd.N_drewN | apply Kd.N_drew)); exact HO_11.out) (Kd.R_base ho0) hb)
                    have n2_ := zK (Kd.R_elder' (by (with_reducible repeat (first | apply zL | apply zM | apply zN)); exact HO_15.out) (Kd.R_base ho0) hb)
                    have n3_ := zK (Kd.N_elder' (by (with_reducible repeat (first | apply Kd.N_alloc | apply Kd.N_drewN | apply Kd.N_drew)); exact HO215.out) (Kd.R_base ho0) hb)
                    have n4_ := zK (Kd.N_elder' (by (with_reducible repeat (first | apply Kd.N_alloc | apply Kd.N_drewN | apply Kd.N_drew)); exact HO218.out) (Kd.R_base ho0) hb)
                    have n5_ := zK (Kd.R_lower (Kd.R_new' (Kd.R_newM (M := fun k_ => (w.heap.size ≤ k_)) ho0 (yK (by repeat (first | (with_reducible first | exact HB.out | apply zJ | apply zD | apply zE | refine zI ?_ Z5.out | refine zI ?_ Z6.out) | exact HB.out))) (fun k_ h_ => h_)) (Kd.R_lt (by (with_reducible repeat (first | apply zL | apply zM | apply zN)); exact HO_15.out))) (yK (by repeat (first | (with_reducible first | exact HB.out | apply zJ | apply zD | apply zE | refine zI ?_ Z5.out | refine zI ?_ Z6.out) | exact HB.out))))
                    have n6_ := zK (zP (g := Z19) (o := .cells #[.int .i64 (wrap64 ((l0.length : Int) / a1))] 3 (0, 0)) (by (with_reducible repeat (first | refine zF ?_ _ | refine zH ?_ | refine zG ?_ _)); exact Z1.out) hb)
                    have n7_ := zK (zP (g := Z20) (o := .cells #[.int .i64 x212000_4] 3 (0, 0)) (by (with_reducible repeat (first | refine zF ?_ _ | refine zH ?_ | refine zG ?_ _)); exact Z2.out) hb)
                    have n8_ := zK (yL (by repeat (first | (with_reducible first | exact HB.out | apply zJ | apply zD | apply zE | refine zI ?_ Z5.out | refine zI ?_ Z6.out) | exact HB.out)) hb)
                    clear HO_10 HO_11 HO_15 HO215 HO218 Z1 Z2 HB
                    have HO_10 := n0_; have HO_11 := n1_; have HO_15 := n2_; have HO215 := n3_; have HO218 := n4_; have HO222 := n5_; have Z1 := n6_; have Z2 := n7_; have HB := n8_
                    clear n0_ n1_ n2_ n3_ n4_ n5_ n6_ n7_ n8_
                    (try clear hb)
                    (try clear hb2)
                    (try clear hk)
                    (try clear hi)
                    (try clear ho0)
                    refine hK.out _ _ ⟨(zO Z2.out 0).trans rfl, (zO Z1.out 0).trans rfl⟩ (fun hHeld => ?_)
                    clear hK K
                    refine norm_ (a' := ?_) ?_ ?_
                    rotate_left
                    ·show Act.put _ (some 90) _ = _
                     simp only [Act.put, zA, zB, zC, i64_w, i32_w]
                     rfl
                    refine pure_ (i := 14) (N := some 76) (v := ?_) (a' := ?_) #[true, true, true, true, true, true, true, true, true, true, true, true, true, true, true, false, false, false, false] rfl rfl (any_of HT_.out (by kernel_rfl)) (fun _ _ _ h => h) (Or.inl ⟨by rfl, ?_⟩) ?_ ?_
                    rotate_left
                    ·intro w'
                     go_simp
                     with_reducible rfl
                    rotate_left
                    ·simp only [Act.put, zA, zB, zC, i64_w, i32_w]
                     rfl
                    refine pure_ (i := 15) (N := some 91) (v := ?_) (a' := ?_) #[true, true, true, true, true, true, true, true, true, true, true, true, true, true, true, true, false, false, false] rfl rfl (any_of HT_.out (by kernel_rfl)) (fun _ _ _ h => h) (Or.inl ⟨by rfl, ?_⟩) ?_ ?_
                    rotate_left
                    ·intro w'
                     go_simp
                     with_reducible rfl
                    rotate_left
                    ·simp only [Act.put, zA, zB, zC, i64_w, i32_w]
                     rfl
                    refine pure_ (i := 16) (N := some 92) (v := ?_) (a' := ?_) #[true, true, true, true, true, true, true, true, true, true, true, true, true, true, true, true, true, false, false] rfl rfl (any_of HT_.out (by kernel_rfl)) (fun _ _ _ h => h) (Or.inl ⟨by rfl, ?_⟩) ?_ ?_
                    rotate_left
                    ·intro w'
                     go_simp
                     with_reducible rfl
                    rotate_left
                    ·simp only [Act.put, zA, zB, zC, i64_w, i32_w]
                     rfl
                    refine pure_ (i := 17) (N := some 18) (v := ?_) (a' := ?_) #[true, true, true, true, true, true, true, true, true, true, true, true, true, true, true, true, true, true, false] rfl rfl (any_of HT_.out (by kernel_rfl)) (fun _ _ _ h => h) (Or.inl ⟨by rfl, ?_⟩) ?_ ?_
                    rotate_left
                    ·intro w'
                     go_simp
                     with_reducible rfl
                    rotate_left
                    ·simp only [Act.put, zA, zB, zC, i64_w, i32_w]
                     rfl
                    refine pure_ (i := 18) (N := some 19) (v := ?_) (a' := ?_) #[true, true, true, true, true, true, true, true, true, true, true, true, true, true, true, true, true, true, true] rfl rfl (any_of HT_.out (by kernel_rfl)) (fun _ _ _ h => h) (Or.inl ⟨by rfl, ?_⟩) ?_ ?_
                    rotate_left
                    ·intro w'
                     go_simp
                     with_reducible rfl
                    rotate_left
                    ·simp only [Act.put, zA, zB, zC, i64_w, i32_w]
                     rfl
                    refine done_ (done_of HT_.out (by kernel_rfl)) ?_
                    try go_wp2
                    go_ret2
                    exact ⟨_, by first | rfl | (simp [errW_none, errW_some] <;> rfl) | (simp [*, errW_none, errW_some] <;> rfl), by first | exact Kd.R_nil _ _ _ _ _ | exact Kd.N_nil _ _ _ _ _ | exact Kd.V_nil _ _ _ _ _ | exact Kd.Q_nil _ _ _ _ _ | exact Kd.S_nil _ _ _ _ _, by repeat (first | (with_reducible first | exact HB.out | apply zJ | apply zD | apply zE | refine zI ?_ Z5.out | refine zI ?_ Z6.out) | exact HB.out)⟩
                  ·rw [if_neg c48] at H
                   exact absurd H (by simp)
                 ·rw [if_neg c47] at H
                  exact absurd H (by simp)
                ·rw [if_neg c46] at H
                 exact absurd H (by simp)
               ·rw [if_neg c45] at H
                have c45b0 : decide (x212000_4 < (l0.length : Int)) = false := yD c45
                clear c45
                simp only [yZ, ya] at H
                obtain ⟨rfl, rfl⟩ := H
                have hnb84 := Z14.out
                have hnc84 := Z12.out
                have hcz85_0 : wr.cell? ⟨Z20, 0, none⟩ = some (.int .i64 x212000_4) := (zO Z2.out 0).trans rfl
                have hfz85_0 := yE Z2.out 0
                go_wp2
                go_ret2
                exact ⟨_, by first | rfl | (simp [errW_none, errW_some] <;> rfl) | (simp [*, errW_none, errW_some] <;> rfl), by (with_reducible repeat (first | apply zL | apply zM | apply zN)); exact HO_15.out, by repeat (first | (with_reducible first | exact HB.out | apply zJ | apply zD | apply zE | refine zI ?_ Z5.out | refine zI ?_ Z6.out) | exact HB.out)⟩

end Go.Proofs.Ytmjepdhjginelaa.B
