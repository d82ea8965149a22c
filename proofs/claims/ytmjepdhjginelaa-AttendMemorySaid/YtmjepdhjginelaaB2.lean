-- Printed by this session's own driver (wip/tools/xprint.py) over the kit's printer; given functions are this session's own.
import Derived.Test.YtmjepdhjginelaaB0
import Derived.Test.YtmjepdhjginelaaB1
namespace Go.Proofs.Ytmjepdhjginelaa.B
open Go.RowKit Go.Proofs.YtmjepdhjginelaaW.PrintWords Go.Proofs.YtmjepdhjginelaaW.PrintLast Go.Proofs.YtmjepdhjginelaaW.PrintMore
attribute [local go_sem] max2_int min2_int max_two min_two max_three min_three max_four min_four   -- for this text's walks alone
set_option linter.unusedVariables false
set_option linter.unusedSimpArgs false

/-! ### attend_Scores: function 11 -/
def attend_Scores.l0 : Nat → List Int → Int → List Int → List (List Int) → Int → Int → Option (List Int × Int)
 | 0, _, _, _, _, _, _ => none
 | k + 1, x0, x2, x8, x25, x26, x27 => if x27 < x26 then (if 0 ≤ x27 then (if x27 < (x25.length : Int) then ((vec_Dot.f k x0 (rd_L1 x25 x27)).bind fun bt119 => ((fixed_Round.f bt119.1 x2).bind fun bt121 => (if x8.length < 17592186044416 then (attend_Scores.l0 k x0 x2 (x8 ++ [bt121.1]) x25 x26 (wrap64 (x27 + 1))) else (none)))) else (none)) else (none)) else (some (x8, 0))
def attend_Scores.f (k : Nat) (l0 : List Int) (l1 : List (List Int)) (a2 : Int) : Option (List Int × Int) := (attend_fit.f k l0 l1).bind fun t117 => (if t117 = true then (if a2 < 0 then (some (([] : List Int), 20)) else (if a2 > 31 then (some (([] : List Int), 20)) else (attend_Scores.l0 k l0 a2 ([] : List Int) l1 (l1.length : Int) 0))) else (some (([] : List Int), 191)))
theorem attend_Scores.mono_l : ∀ k, (∀ y0 y1 y2 y3 y4 y5, LeO (attend_Scores.l0 k y0 y1 y2 y3 y4 y5) (attend_Scores.l0 (k + 1) y0 y1 y2 y3 y4 y5))
 | 0 => fun _ _ _ _ _ _ r h => by simp [attend_Scores.l0] at h
 | k + 1 => by
  have ih0 := attend_Scores.mono_l k
  intros
  unfold attend_Scores.l0
  all_goals repeat' first
   | (with_reducible exact ih0 _ _ _ _ _ _)
   | (with_reducible exact attend_fit.mono _ _ _)
   | (with_reducible exact vec_Dot.mono _ _ _)
   | (with_reducible exact yR _)
   | (with_reducible exact yO _)
   | (with_reducible refine yQ ?_ ?_)
   | (with_reducible refine yP ?_ (fun _ => ?_))
   | exact ih0 _ _ _ _ _ _
   | exact attend_fit.mono _ _ _
   | exact vec_Dot.mono _ _ _
   | exact yO _
   | refine yQ ?_ ?_
   | refine yP ?_ (fun _ => ?_)
theorem attend_Scores.mono : ∀ a0 a1 a2 k, LeO (attend_Scores.f k a0 a1 a2) (attend_Scores.f (k + 1) a0 a1 a2) := by
 intro a0 a1 a2 k
 have ih0 := attend_Scores.mono_l k
 unfold attend_Scores.f
 repeat' first
   | (with_reducible exact ih0 _ _ _ _ _ _)
   | (with_reducible exact attend_fit.mono _ _ _)
   | (with_reducible exact vec_Dot.mono _ _ _)
   | (with_reducible exact yR _)
   | (with_reducible exact yO _)
   | (with_reducible refine yQ ?_ ?_)
   | (with_reducible refine yP ?_ (fun _ => ?_))
   | exact ih0 _ _ _ _ _ _
   | exact attend_fit.mono _ _ _
   | exact vec_Dot.mono _ _ _
   | exact yO _
   | refine yQ ?_ ?_
   | refine yP ?_ (fun _ => ?_)
set_option maxHeartbeats 8000000 in
set_option maxRecDepth 100000 in
theorem attend_Scores.calls (k : Nat) (A0 : Option Addr) (c0 : Nat) (l0 : List Int) (A1 : Option Addr) (c1 : Nat) (l1 : List (List Int)) (a2 : Int) (r1 : List Int) (r2 : Int) (w : World) (hr0 : Kd.C (Kd.int .i8) w A0 l0.length l0) (hc0 : l0.length ≤ c0) (hr1 : Kd.C (Kd.slice 53 (Kd.int .i8)) w A1 l1.length l1) (hc1 : l1.length ≤ c1) (h : attend_Scores.f k l0 l1 a2 = some (r1, r2)) :
  Calls Try.prog 11 #[.slice A0 l0.length c0, .slice A1 l1.length c1, .int .i64 a2] w fun e w' => ∃ v0_ : Value, e = .returned (.tuple #[v0_, .int .i64 r2]) ∧ Kd.R (Kd.int .i64) 2 w' w.heap.size (fun _ => True) v0_ r1 ∧ Below w.heap.size w w' := by
 have HR0 := zK hr0
 have HC0 := zK hc0
 clear hr0 hc0
 have HR1 := zK hr1
 have HC1 := zK hc1
 clear hr1 hc1
 have HB := zK (Below.refl w.heap.size w)
 have H : ((attend_fit.f k l0 l1).bind fun t117 => (if t117 = true then (if a2 < 0 then (some (([] : List Int), 20)) else (if a2 > 31 then (some (([] : List Int), 20)) else (attend_Scores.l0 k l0 a2 ([] : List Int) l1 (l1.length : Int) 0))) else (some (([] : List Int), 191)))) = some (r1, r2) := h
 clear h
 replace H := yA.mp H
 obtain ⟨t117, A40, H⟩ := H
 replace H : (if t117 = true then (if a2 < 0 then (some (([] : List Int), 20)) else (if a2 > 31 then (some (([] : List Int), 20)) else (attend_Scores.l0 k l0 a2 ([] : List Int) l1 (l1.length : Int) 0))) else (some (([] : List Int), 191))) = some (r1, r2) := H
 have A4 := zK A40
 clear A40
 by_cases c5 : t117 = true
 ·subst c5
  have H1 : (if a2 < 0 then (some (([] : List Int), 20)) else (if a2 > 31 then (some (([] : List Int), 20)) else (attend_Scores.l0 k l0 a2 ([] : List Int) l1 (l1.length : Int) 0))) = some (r1, r2) := by rw [if_pos rfl] at H; exact H
  clear H
  have H := H1
  clear H1
  by_cases c6 : a2 < 0
  ·rw [if_pos c6] at H
   have c6b0 : decide (a2 < 0) = true := yC c6
   clear c6
   simp only [yZ, ya] at H
   obtain ⟨rfl, rfl⟩ := H
   go_enter Try.func11, Try.ntmps11
   go_wp2_with (first | ((with_reducible refine gate_callee (f := 27) rfl ?_); refine goesL_ (some 16) rfl rfl Try.func27 (by kernel_rfl) rfl #[.slice A0 l0.length c0, .slice A1 l1.length c1] rfl (by (try simp only [yH, yI, yJ]); first | done | rfl | (simp only [yG, yF]; rfl)) ?_; (with_reducible refine (attend_fit.calls k _ _ l0 _ _ l1 true _ ?side1 ?side2 ?side3 ?side4 A4.out).mono ?_); (case side1 => repeat (first | exact HR0.out | (with_reducible refine yS ?_ _) | (with_reducible refine yT ?_ _) | (with_reducible refine yU ?_))); (case side2 => exact HC0.out); (case side3 => repeat (first | exact HR1.out | (with_reducible refine yS ?_ _) | (with_reducible refine yT ?_ _) | (with_reducible refine yU ?_))); (case side4 => exact HC1.out); rintro e w' ⟨rfl, ⟨nd, rfl⟩⟩; refine ⟨_, rfl, ?_⟩))
   go_ret2
   exact ⟨_, by first | rfl | (simp [errW_none, errW_some] <;> rfl) | (simp [*, errW_none, errW_some] <;> rfl), by first | exact Kd.R_nil _ _ _ _ _ | exact Kd.N_nil _ _ _ _ _ | exact Kd.V_nil _ _ _ _ _ | exact Kd.Q_nil _ _ _ _ _ | exact Kd.S_nil _ _ _ _ _, by repeat (first | (with_reducible first | exact HB.out | apply zJ | apply zD | apply zE) | exact HB.out)⟩
  ·rw [if_neg c6] at H
   have c6b0 : decide (a2 < 0) = false := yD c6
   clear c6
   by_cases c7 : a2 > 31
   ·rw [if_pos c7] at H
    have c7b0 : decide (31 < a2) = true := yC c7
    clear c7
    simp only [yZ, ya] at H
    obtain ⟨rfl, rfl⟩ := H
    go_enter Try.func11, Try.ntmps11
    go_wp2_with (first | ((with_reducible refine gate_callee (f := 27) rfl ?_); refine goesL_ (some 16) rfl rfl Try.func27 (by kernel_rfl) rfl #[.slice A0 l0.length c0, .slice A1 l1.length c1] rfl (by (try simp only [yH, yI, yJ]); first | done | rfl | (simp only [yG, yF]; rfl)) ?_; (with_reducible refine (attend_fit.calls k _ _ l0 _ _ l1 true _ ?side1 ?side2 ?side3 ?side4 A4.out).mono ?_); (case side1 => repeat (first | exact HR0.out | (with_reducible refine yS ?_ _) | (with_reducible refine yT ?_ _) | (with_reducible refine yU ?_))); (case side2 => exact HC0.out); (case side3 => repeat (first | exact HR1.out | (with_reducible refine yS ?_ _) | (with_reducible refine yT ?_ _) | (with_reducible refine yU ?_))); (case side4 => exact HC1.out); rintro e w' ⟨rfl, ⟨nd, rfl⟩⟩; refine ⟨_, rfl, ?_⟩))
    go_ret2
    exact ⟨_, by first | rfl | (simp [errW_none, errW_some] <;> rfl) | (simp [*, errW_none, errW_some] <;> rfl), by first | exact Kd.R_nil _ _ _ _ _ | exact Kd.N_nil _ _ _ _ _ | exact Kd.V_nil _ _ _ _ _ | exact Kd.Q_nil _ _ _ _ _ | exact Kd.S_nil _ _ _ _ _, by repeat (first | (with_reducible first | exact HB.out | apply zJ | apply zD | apply zE) | exact HB.out)⟩
   ·rw [if_neg c7] at H
    have c7b0 : decide (31 < a2) = false := yD c7
    clear c7
    have H' := zK H
    clear H
    go_enter Try.func11, Try.ntmps11
    go_wp2_with (first | ((with_reducible refine gate_callee (f := 27) rfl ?_); refine goesL_ (some 16) rfl rfl Try.func27 (by kernel_rfl) rfl #[.slice A0 l0.length c0, .slice A1 l1.length c1] rfl (by (try simp only [yH, yI, yJ]); first | done | rfl | (simp only [yG, yF]; rfl)) ?_; (with_reducible refine (attend_fit.calls k _ _ l0 _ _ l1 true _ ?side1 ?side2 ?side3 ?side4 A4.out).mono ?_); (case side1 => repeat (first | exact HR0.out | (with_reducible refine yS ?_ _) | (with_reducible refine yT ?_ _) | (with_reducible refine yU ?_))); (case side2 => exact HC0.out); (case side3 => repeat (first | exact HR1.out | (with_reducible refine yS ?_ _) | (with_reducible refine yT ?_ _) | (with_reducible refine yU ?_))); (case side4 => exact HC1.out); rintro e w' ⟨rfl, ⟨nd, rfl⟩⟩; refine ⟨_, rfl, ?_⟩))
    go_loopg [8, 27] k (fun kq v8 v27 w' => ∃ (x8_1 : List Int) (x27_1 : Int), v27 = .int .i64 x27_1 ∧ Aside0 (attend_Scores.l0 kq l0 a2 x8_1 l1 (l1.length : Int) x27_1 = some (r1, r2)) ∧ Aside0 (kq ≤ k) ∧ Aside0 (Kd.R (Kd.int .i64) 2 w' w.heap.size (fun _ => True) v8 x8_1) ∧ Aside0 (Below w.heap.size w w'))
    case atStart => exact ⟨(([] : List Int)), (0), (by first | rfl | (simp; done) | (simp [*]; done)), H', ⟨yN _⟩, ⟨by first | exact Kd.R_nil _ _ _ _ _ | exact Kd.N_nil _ _ _ _ _ | exact Kd.V_nil _ _ _ _ _ | exact Kd.Q_nil _ _ _ _ _ | exact Kd.S_nil _ _ _ _ _⟩, ⟨by repeat (first | (with_reducible first | exact HB.out | apply zJ | apply zD | apply zE) | exact HB.out)⟩⟩
    case round =>
     clear H'
     try clear c1
     try clear c2
     try clear p2
     try clear c5
     try clear c6
     try clear c6b0
     try clear c7
     try clear c7b0
     obtain ⟨x8_1, x27_1, rfl, HA, HK1, HO_8, HB⟩ := hrel
     cases gk with
     | zero => exact absurd HA.out (by simp [attend_Scores.l0])
     | succ k1 =>
      have H := HA.out
      clear HA
      simp only [attend_Scores.l0] at H
      by_cases c8 : x27_1 < (l1.length : Int)
      ·rw [if_pos c8] at H
       have c8b0 : decide (x27_1 < (l1.length : Int)) = true := yC c8
       clear c8
       by_cases c9 : 0 ≤ x27_1
       ·rw [if_pos c9] at H
        have c9b0 : decide (0 ≤ x27_1) = true := yC c9
        clear c9
        by_cases c10 : x27_1 < (l1.length : Int)
        ·rw [if_pos c10] at H
         have c10b0 : decide (x27_1 < (l1.length : Int)) = true := yC c10
         clear c10
         replace H := yA.mp H
         obtain ⟨⟨t119, t120⟩, A110, H⟩ := H
         replace H : ((fixed_Round.f t119 a2).bind fun bt121 => (if x8_1.length < 17592186044416 then (attend_Scores.l0 k1 l0 a2 (x8_1 ++ [bt121.1]) l1 (l1.length : Int) (wrap64 (x27_1 + 1))) else (none))) = some (r1, r2) := H
         have A11 := zK A110
         clear A110
         replace H := yA.mp H
         obtain ⟨⟨t121, t122⟩, A120, H⟩ := H
         replace H : (if x8_1.length < 17592186044416 then (attend_Scores.l0 k1 l0 a2 (x8_1 ++ [t121]) l1 (l1.length : Int) (wrap64 (x27_1 + 1))) else (none)) = some (r1, r2) := H
         have A12 := zK A120
         clear A120
         by_cases c13 : x8_1.length < 17592186044416
         ·rw [if_pos c13] at H
          have LMc13 := zK c13
          clear c13
          obtain ⟨y123, hy123⟩ : ∃ y_ : List Int, y_ = (x8_1 ++ [t121]) := ⟨_, rfl⟩
          replace H : (attend_Scores.l0 k1 l0 a2 y123 l1 (l1.length : Int) (wrap64 (x27_1 + 1))) = some (r1, r2) := by first | (rw [hy123]; with_reducible exact H) | (have H2_ := (yV _ _).symm.trans H; rw [hy123]; with_reducible exact H2_) | (have H2_ := (yV _ _).symm.trans H; with_reducible exact H2_) | with_reducible exact H | (rw [hy123]; exact H) | exact H
          have Ny123 := zK hy123
          clear hy123
          have H' := zK H
          clear H
          have p118 : 0 ≤ (x27_1 : Int) := yB (by first | (with_reducible assumption) | assumption)
          have q118 : x27_1 < (l1.length : Int) := yB (by first | (with_reducible assumption) | assumption)
          obtain ⟨ad118, A118_0, c118_0, e118, hx118_0, hl118_0, hi118_0⟩ := at_L1 HR1.out x27_1 p118 q118
          cases e118
          replace hx118_0 := (HB.out.cell (World.block_lt_of_cell? w _ hx118_0)).trans hx118_0
          have HR118_0 := zK hi118_0
          have HC118_0 := zK hl118_0
          clear hi118_0 hl118_0
          replace p118 := yg p118
          replace q118 := yg q118
          go_wp2_with (first | ((with_reducible refine gate_callee (f := 28) rfl ?_); refine goesL_ (some 34) rfl rfl Try.func28 (by kernel_rfl) rfl #[.slice A0 l0.length c0, .slice A118_0 (rd_L1 l1 x27_1).length c118_0] rfl (by (try simp only [yH, yI, yJ]); first | done | rfl | (simp only [yG, yF]; rfl)) ?_; (with_reducible refine (vec_Dot.calls k1 (fun k_ => k_ < w.heap.size) _ _ l0 (fun k_ => k_ < w.heap.size) _ _ (rd_L1 l1 x27_1) t119 t120 _ ?side1 ?side2 A11.out).mono ?_); (case side1 => exact Kd.V_mk HC0.out (Kd.F_below (Kd.C_F (Kd.heap_int .i8) HR0.out) (by repeat (first | (with_reducible first | exact HB.out | apply zJ | apply zD | apply zE) | exact HB.out)))); (case side2 => exact Kd.V_mk HC118_0.out (Kd.F_below (Kd.C_F (Kd.heap_int .i8) HR118_0.out) (by repeat (first | (with_reducible first | exact HB.out | apply zJ | apply zD | apply zE) | exact HB.out)))); rintro e w14 ⟨rfl, hb⟩; refine ⟨_, rfl, ?_⟩; have n0_ := zK (yb (by (with_reducible repeat (first | apply zL | apply zM | apply zN)); exact HO_8.out) hb); have n1_ := zK (yL (by repeat (first | (with_reducible first | exact HB.out | apply zJ | apply zD | apply zE) | exact HB.out)) hb); clear HO_8 HB; have HO_8 := n0_; have HB := n1_; clear n0_ n1_; (try clear hb); (try clear hb2); (try clear hk); (try clear hi)) | ((with_reducible refine gate_callee (f := 29) rfl ?_); refine goesL_ (some 40) rfl rfl Try.func29 (by kernel_rfl) rfl #[.int .i64 t119, .int .i64 a2] rfl (by (try simp only [yH, yI, yJ]); first | done | rfl | (simp only [yG, yF]; rfl)) ?_; (with_reducible refine (fixed_Round.calls t119 a2 t121 t122 _ A12.out).mono ?_); rintro e w' ⟨rfl, ⟨nd, rfl⟩⟩; refine ⟨_, rfl, ?_⟩) | ((with_reducible refine gate_builtin (b := .append) (xs := #[.tmp 43, .tmp 45]) rfl ?_); at_builtin; refine Kd.R_append (Kd.int .i64) (w0 := w) w.heap.size rfl (.tmp 43) (.tmp 45) 24 2 (.int .i64 0) 8 rfl Try.underlying24 info2 rfl (by decide) (by omega) u8 x8_1 t121 [.int .i64 t121] (fun _ => True) (fun _ => False) rfl rfl ?aP (fun _ hk => hk.elim) ?aF ?aO ?aB ?aS ?aL ?_; (case aP => exact rfl); (case aB => exact (by repeat (first | (with_reducible first | exact HB.out | apply zJ | apply zD | apply zE) | exact HB.out))); (case aF => exact (fun _ _ => trivial)); (case aO => exact (by (with_reducible repeat (first | apply zL | apply zM | apply zN)); exact HO_8.out)); (case aS => exact (yK (by repeat (first | (with_reducible first | exact HB.out | apply zJ | apply zD | apply zE) | exact HB.out)))); (case aL => have := LMc13.out; omega); intro v124 w15 ho hb hg hat; rw [← Ny123.out] at ho; have n0_ := zK (hb); have n1_ := zK (ho); clear HB HO_8; have HB := n0_; have HO125 := n1_; clear n0_ n1_ ho hb hg hat))
          go_roundg k1
          case measure => have := HK1.out; omega
          case rel => exact ⟨(y123), (wrap64 (x27_1 + 1)), (by first | rfl | (simp; done) | (simp [*]; done)), H', ⟨by have := HK1.out; omega⟩, ⟨by (with_reducible repeat (first | apply zL | apply zM | apply zN)); exact HO125.out⟩, ⟨by repeat (first | (with_reducible first | exact HB.out | apply zJ | apply zD | apply zE) | exact HB.out)⟩⟩
         ·rw [if_neg c13] at H
          exact absurd H (by simp)
        ·rw [if_neg c10] at H
         exact absurd H (by simp)
       ·rw [if_neg c9] at H
        exact absurd H (by simp)
      ·rw [if_neg c8] at H
       have c8b0 : decide (x27_1 < (l1.length : Int)) = false := yD c8
       clear c8
       simp only [yZ, ya] at H
       obtain ⟨rfl, rfl⟩ := H
       go_wp2
       go_ret2
       exact ⟨_, by first | rfl | (simp [errW_none, errW_some] <;> rfl) | (simp [*, errW_none, errW_some] <;> rfl), by (with_reducible repeat (first | apply zL | apply zM | apply zN)); exact HO_8.out, by repeat (first | (with_reducible first | exact HB.out | apply zJ | apply zD | apply zE) | exact HB.out)⟩
 ·replace c5 := yh.mpr c5
  subst c5
  have H1 : (some (([] : List Int), 191)) = some (r1, r2) := by rw [if_neg (show ¬ (false = true) by decide)] at H; exact H
  clear H
  have H := H1
  clear H1
  simp only [yZ, ya] at H
  obtain ⟨rfl, rfl⟩ := H
  go_enter Try.func11, Try.ntmps11
  go_wp2_with (first | ((with_reducible refine gate_callee (f := 27) rfl ?_); refine goesL_ (some 16) rfl rfl Try.func27 (by kernel_rfl) rfl #[.slice A0 l0.length c0, .slice A1 l1.length c1] rfl (by (try simp only [yH, yI, yJ]); first | done | rfl | (simp only [yG, yF]; rfl)) ?_; (with_reducible refine (attend_fit.calls k _ _ l0 _ _ l1 false _ ?side1 ?side2 ?side3 ?side4 A4.out).mono ?_); (case side1 => repeat (first | exact HR0.out | (with_reducible refine yS ?_ _) | (with_reducible refine yT ?_ _) | (with_reducible refine yU ?_))); (case side2 => exact HC0.out); (case side3 => repeat (first | exact HR1.out | (with_reducible refine yS ?_ _) | (with_reducible refine yT ?_ _) | (with_reducible refine yU ?_))); (case side4 => exact HC1.out); rintro e w' ⟨rfl, ⟨nd, rfl⟩⟩; refine ⟨_, rfl, ?_⟩))
  go_ret2
  exact ⟨_, by first | rfl | (simp [errW_none, errW_some] <;> rfl) | (simp [*, errW_none, errW_some] <;> rfl), by first | exact Kd.R_nil _ _ _ _ _ | exact Kd.N_nil _ _ _ _ _ | exact Kd.V_nil _ _ _ _ _ | exact Kd.Q_nil _ _ _ _ _ | exact Kd.S_nil _ _ _ _ _, by repeat (first | (with_reducible first | exact HB.out | apply zJ | apply zD | apply zE) | exact HB.out)⟩

/-! ### r19_wrong: function 30 -/
mutual
def r19_wrong.j0 : Nat → List Int → List (List Int) → Bool → Option (Bool)
 | 0, _, _, _ => none
 | k + 1, x0, x1, x23 => if x23 = true then (some true) else (r19_wrong.l0 k x0 x1 0)
def r19_wrong.l0 : Nat → List Int → List (List Int) → Int → Option (Bool)
 | 0, _, _, _ => none
 | k + 1, x0, x1, x5 => if x5 < (x1.length : Int) then (if 0 ≤ x5 then (if ((rd_L1 x1 x5).length : Int) = (x0.length : Int) then (r19_wrong.l0 k x0 x1 (wrap64 (x5 + 1))) else (some true)) else (none)) else (some false)
end
def r19_wrong.f (k : Nat) (l0 : List Int) (l1 : List (List Int)) : Option (Bool) := if (l1.length : Int) < 1 then (r19_wrong.j0 k l0 l1 true) else (if (l1.length : Int) > 512 then (r19_wrong.j0 k l0 l1 true) else (if (l0.length : Int) < 1 then (r19_wrong.j0 k l0 l1 true) else (r19_wrong.j0 k l0 l1 (decide ((l0.length : Int) > 64)))))
theorem r19_wrong.mono_l : ∀ k, (∀ y0 y1 y2, LeO (r19_wrong.j0 k y0 y1 y2) (r19_wrong.j0 (k + 1) y0 y1 y2)) ∧ (∀ y0 y1 y2, LeO (r19_wrong.l0 k y0 y1 y2) (r19_wrong.l0 (k + 1) y0 y1 y2))
 | 0 => ⟨fun _ _ _ r h => by simp [r19_wrong.j0] at h, fun _ _ _ r h => by simp [r19_wrong.l0] at h⟩
 | k + 1 => by
  obtain ⟨ih0, ih1⟩ := r19_wrong.mono_l k
  refine ⟨?_, ?_⟩ <;> (intros; first | unfold r19_wrong.j0 | unfold r19_wrong.l0)
  all_goals repeat' first
   | (with_reducible exact ih0 _ _ _)
   | (with_reducible exact ih1 _ _ _)
   | (with_reducible exact yR _)
   | (with_reducible exact yO _)
   | (with_reducible refine yQ ?_ ?_)
   | (with_reducible refine yP ?_ (fun _ => ?_))
   | exact ih0 _ _ _
   | exact ih1 _ _ _
   | exact yO _
   | refine yQ ?_ ?_
   | refine yP ?_ (fun _ => ?_)
theorem r19_wrong.mono : ∀ a0 a1 k, LeO (r19_wrong.f k a0 a1) (r19_wrong.f (k + 1) a0 a1) := by
 intro a0 a1 k
 obtain ⟨ih0, ih1⟩ := r19_wrong.mono_l k
 unfold r19_wrong.f
 repeat' first
   | (with_reducible exact ih0 _ _ _)
   | (with_reducible exact ih1 _ _ _)
   | (with_reducible exact yR _)
   | (with_reducible exact yO _)
   | (with_reducible refine yQ ?_ ?_)
   | (with_reducible refine yP ?_ (fun _ => ?_))
   | exact ih0 _ _ _
   | exact ih1 _ _ _
   | exact yO _
   | refine yQ ?_ ?_
   | refine yP ?_ (fun _ => ?_)
set_option maxHeartbeats 8000000 in
set_option maxRecDepth 100000 in
theorem r19_wrong.calls (k : Nat) (A0 : Option Addr) (c0 : Nat) (l0 : List Int) (A1 : Option Addr) (c1 : Nat) (l1 : List (List Int)) (r : Bool) (w : World) (hr0 : Kd.C (Kd.int .i8) w A0 l0.length l0) (hc0 : l0.length ≤ c0) (hr1 : Kd.C (Kd.slice 53 (Kd.int .i8)) w A1 l1.length l1) (hc1 : l1.length ≤ c1) (h : r19_wrong.f k l0 l1 = some r) :
  Calls Try.prog 30 #[.slice A0 l0.length c0, .slice A1 l1.length c1] w fun e w' => e = .returned (.bool r) ∧ Drawn0 w w' := by
 have HR0 := zK hr0
 have HC0 := zK hc0
 clear hr0 hc0
 have HR1 := zK hr1
 have HC1 := zK hc1
 clear hr1 hc1
 have H : (if (l1.length : Int) < 1 then (r19_wrong.j0 k l0 l1 true) else (if (l1.length : Int) > 512 then (r19_wrong.j0 k l0 l1 true) else (if (l0.length : Int) < 1 then (r19_wrong.j0 k l0 l1 true) else (r19_wrong.j0 k l0 l1 (decide ((l0.length : Int) > 64)))))) = some r := h
 clear h
 have HC3 := zK H
 clear H
 go_enter Try.func30, Try.ntmps30
 go_upto_region 1 with (fail)
 go_cut [23] (fun v23 wc => ∃ (kq : Nat) (x23_2 : Bool), v23 = .bool x23_2 ∧ Aside0 (r19_wrong.j0 kq l0 l1 x23_2 = some r) ∧ Aside0 (kq ≤ k) ∧ Drawn0 w wc)
 case first =>
  have H := HC3.out
  clear HC3
  by_cases c4 : (l1.length : Int) < 1
  ·rw [if_pos c4] at H
   have c4b0 : decide ((l1.length : Int) < 1) = true := yC c4
   have c4b1 : decide (l1.length < 1) = true := yC (by omega)
   clear c4
   (first | rw [c4b0] | (simp only [i64_w, i32_w]; rw [c4b0]) | skip)
   have H' := zK H
   clear H
   go_wp2
   go_meet
   case rel => exact ⟨_, (true), (by first | rfl | (simp; done) | (simp [*]; done)), H', ⟨by first | omega | exact yN _⟩, by repeat (first | exact Drawn0.refl _ | apply Drawn0.step)⟩
  ·rw [if_neg c4] at H
   have c4b0 : decide ((l1.length : Int) < 1) = false := yD c4
   have c4b1 : decide (l1.length < 1) = false := yD (by omega)
   clear c4
   (first | rw [c4b0] | (simp only [i64_w, i32_w]; rw [c4b0]) | skip)
   by_cases c5 : (l1.length : Int) > 512
   ·rw [if_pos c5] at H
    have c5b0 : decide (512 < (l1.length : Int)) = true := yC c5
    have c5b1 : decide (512 < l1.length) = true := yC (by omega)
    clear c5
    have H' := zK H
    clear H
    go_wp2
    go_meet
    case rel => exact ⟨_, (true), (by first | rfl | (simp; done) | (simp [*]; done)), H', ⟨by first | omega | exact yN _⟩, by repeat (first | exact Drawn0.refl _ | apply Drawn0.step)⟩
   ·rw [if_neg c5] at H
    have c5b0 : decide (512 < (l1.length : Int)) = false := yD c5
    have c5b1 : decide (512 < l1.length) = false := yD (by omega)
    clear c5
    by_cases c6 : (l0.length : Int) < 1
    ·rw [if_pos c6] at H
     have c6b0 : decide ((l0.length : Int) < 1) = true := yC c6
     have c6b1 : decide (l0.length < 1) = true := yC (by omega)
     clear c6
     have H' := zK H
     clear H
     go_wp2
     go_meet
     case rel => exact ⟨_, (true), (by first | rfl | (simp; done) | (simp [*]; done)), H', ⟨by first | omega | exact yN _⟩, by repeat (first | exact Drawn0.refl _ | apply Drawn0.step)⟩
    ·rw [if_neg c6] at H
     have c6b0 : decide ((l0.length : Int) < 1) = false := yD c6
     have c6b1 : decide (l0.length < 1) = false := yD (by omega)
     clear c6
     have H' := zK H
     clear H
     go_wp2
     go_meet
     case rel => exact ⟨_, (decide ((l0.length : Int) > 64)), (by first | rfl | (simp; done) | (simp [*]; done)), H', ⟨by first | omega | exact yN _⟩, by repeat (first | exact Drawn0.refl _ | apply Drawn0.step)⟩
 case rest =>
  clear HC3
  try clear c1
  try clear p2
  try clear c3
  try clear c4
  try clear c4b0
  try clear c4b1
  try clear c5
  try clear c5b0
  try clear c5b1
  try clear c6
  try clear c6b0
  try clear c6b1
  obtain ⟨kq, x23_2, rfl, HA, HJ2, ⟨mc2, rfl⟩⟩ := hcut
  cases kq with
  | zero => exact absurd HA.out (by simp [r19_wrong.j0])
  | succ kj2 =>
   have H := HA.out
   clear HA
   simp only [r19_wrong.j0] at H
   by_cases c7 : x23_2 = true
   ·subst c7
    have H1 : (some true) = some r := by rw [if_pos rfl] at H; exact H
    clear H
    have H := H1
    clear H1
    obtain rfl := yY H
    go_wp2
    go_ret
    exact ⟨by first | rfl | (simp; done) | (simp [*]; done), by repeat (first | exact Drawn0.refl _ | apply Drawn0.step)⟩
   ·replace c7 := yh.mpr c7
    subst c7
    have H1 : (r19_wrong.l0 kj2 l0 l1 0) = some r := by rw [if_neg (show ¬ (false = true) by decide)] at H; exact H
    clear H
    have H := H1
    clear H1
    have H' := zK H
    clear H
    go_wp2
    go_loopg [5] kj2 (fun kq v5 w' => ∃ (x5_2 : Int), v5 = .int .i64 x5_2 ∧ Aside0 (r19_wrong.l0 kq l0 l1 x5_2 = some r) ∧ Aside0 (kq ≤ kj2) ∧ Drawn0 w w')
    case atStart => exact ⟨(0), (by first | rfl | (simp; done) | (simp [*]; done)), H', ⟨yN _⟩, by repeat (first | exact Drawn0.refl _ | apply Drawn0.step)⟩
    case round =>
     clear H'
     try clear c1
     try clear c2
     try clear p2
     try clear c3
     try clear c4
     try clear c4b0
     try clear c4b1
     try clear c5
     try clear c5b0
     try clear c5b1
     try clear c6
     try clear c6b0
     try clear c6b1
     try clear c7
     try clear p2
     obtain ⟨x5_2, rfl, HA, HK2, ⟨m2, rfl⟩⟩ := hrel
     cases gk with
     | zero => exact absurd HA.out (by simp [r19_wrong.l0])
     | succ k2 =>
      have H := HA.out
      clear HA
      simp only [r19_wrong.l0] at H
      by_cases c8 : x5_2 < (l1.length : Int)
      ·rw [if_pos c8] at H
       have c8b0 : decide (x5_2 < (l1.length : Int)) = true := yC c8
       clear c8
       by_cases c9 : 0 ≤ x5_2
       ·rw [if_pos c9] at H
        have c9b0 : decide (0 ≤ x5_2) = true := yC c9
        clear c9
        by_cases c10 : ((rd_L1 l1 x5_2).length : Int) = (l0.length : Int)
        ·rw [if_pos c10] at H
         have c10b0 : (((rd_L1 l1 x5_2).length : Int) == (l0.length : Int)) = true := beq_iff_eq.mpr c10
         have c10b1 : (((rd_L1 l1 x5_2).length : Int) != (l0.length : Int)) = false := bne_eq_false_iff_eq.mpr c10
         have c10b2 : ((rd_L1 l1 x5_2).length == l0.length) = true := by first | simpa using c10 | (simp at c10 ⊢; omega)
         clear c10
         have H' := zK H
         clear H
         have p126 : 0 ≤ (x5_2 : Int) := yB (by first | (with_reducible assumption) | assumption)
         have q126 : x5_2 < (l1.length : Int) := yB (by first | (with_reducible assumption) | assumption)
         obtain ⟨ad126, A126_0, c126_0, e126, hx126_0, hl126_0, hi126_0⟩ := at_L1 HR1.out x5_2 p126 q126
         cases e126
         have HR126_0 := zK hi126_0
         have HC126_0 := zK hl126_0
         clear hi126_0 hl126_0
         replace p126 := yg p126
         replace q126 := yg q126
         go_wp2
         go_roundg k2
         case measure => have := HJ2.out; have := HK2.out; omega
         case rel => exact ⟨(wrap64 (x5_2 + 1)), (by first | rfl | (simp; done) | (simp [*]; done)), H', ⟨by have := HJ2.out; have := HK2.out; omega⟩, by repeat (first | exact Drawn0.refl _ | apply Drawn0.step)⟩
        ·rw [if_neg c10] at H
         have c10b0 : (((rd_L1 l1 x5_2).length : Int) == (l0.length : Int)) = false := beq_eq_false_iff_ne.mpr c10
         have c10b1 : (((rd_L1 l1 x5_2).length : Int) != (l0.length : Int)) = true := bne_iff_ne.mpr c10
         have c10b2 : ((rd_L1 l1 x5_2).length == l0.length) = false := by first | simpa using c10 | (simp at c10 ⊢; omega)
         obtain rfl := yY H
         have p126 : 0 ≤ (x5_2 : Int) := yB (by first | (with_reducible assumption) | assumption)
         have q126 : x5_2 < (l1.length : Int) := yB (by first | (with_reducible assumption) | assumption)
         obtain ⟨ad126, A126_0, c126_0, e126, hx126_0, hl126_0, hi126_0⟩ := at_L1 HR1.out x5_2 p126 q126
         cases e126
         have HR126_0 := zK hi126_0
         have HC126_0 := zK hl126_0
         clear hi126_0 hl126_0
         replace p126 := yg p126
         replace q126 := yg q126
         go_wp2
         go_ret
         exact ⟨by first | rfl | (simp; done) | (simp [*]; done), by repeat (first | exact Drawn0.refl _ | apply Drawn0.step)⟩
       ·rw [if_neg c9] at H
        exact absurd H (by simp)
      ·rw [if_neg c8] at H
       have c8b0 : decide (x5_2 < (l1.length : Int)) = false := yD c8
       clear c8
       obtain rfl := yY H
       go_wp2
       go_ret
       exact ⟨by first | rfl | (simp; done) | (simp [*]; done), by repeat (first | exact Drawn0.refl _ | apply Drawn0.step)⟩

/-! ### r08_Dot: function 31 -/
mutual
def r08_Dot.j0 : Nat → List Int → List Int → Bool → Option (Int × Int)
 | 0, _, _, _ => none
 | k + 1, x0, x1, x15 => if x15 = true then (some (0, 81)) else (if (x0.length : Int) = (x1.length : Int) then (r08_Dot.l0 k x0 x1 0 (x0.length : Int) 0) else (some (0, 80)))
def r08_Dot.l0 : Nat → List Int → List Int → Int → Int → Int → Option (Int × Int)
 | 0, _, _, _, _, _ => none
 | k + 1, x0, x1, x6, x22, x23 => if x23 < x22 then (if 0 ≤ x23 then (if x23 < (x0.length : Int) then (if x23 < (x1.length : Int) then (r08_Dot.l0 k x0 x1 (wrap64 (x6 + (wrap64 ((wrap64 (rd x0 x23)) * (wrap64 (rd x1 x23)))))) x22 (wrap64 (x23 + 1))) else (none)) else (none)) else (none)) else (some (x6, 0))
end
def r08_Dot.f (k : Nat) (l0 : List Int) (l1 : List Int) : Option (Int × Int) := if (l0.length : Int) > 1048576 then (r08_Dot.j0 k l0 l1 true) else (r08_Dot.j0 k l0 l1 (decide ((l1.length : Int) > 1048576)))
theorem r08_Dot.mono_l : ∀ k, (∀ y0 y1 y2, LeO (r08_Dot.j0 k y0 y1 y2) (r08_Dot.j0 (k + 1) y0 y1 y2)) ∧ (∀ y0 y1 y2 y3 y4, LeO (r08_Dot.l0 k y0 y1 y2 y3 y4) (r08_Dot.l0 (k + 1) y0 y1 y2 y3 y4))
 | 0 => ⟨fun _ _ _ r h => by simp [r08_Dot.j0] at h, fun _ _ _ _ _ r h => by simp [r08_Dot.l0] at h⟩
 | k + 1 => by
  obtain ⟨ih0, ih1⟩ := r08_Dot.mono_l k
  refine ⟨?_, ?_⟩ <;> (intros; first | unfold r08_Dot.j0 | unfold r08_Dot.l0)
  all_goals repeat' first
   | (with_reducible exact ih0 _ _ _)
   | (with_reducible exact ih1 _ _ _ _ _)
   | (with_reducible exact yR _)
   | (with_reducible exact yO _)
   | (with_reducible refine yQ ?_ ?_)
   | (with_reducible refine yP ?_ (fun _ => ?_))
   | exact ih0 _ _ _
   | exact ih1 _ _ _ _ _
   | exact yO _
   | refine yQ ?_ ?_
   | refine yP ?_ (fun _ => ?_)
theorem r08_Dot.mono : ∀ a0 a1 k, LeO (r08_Dot.f k a0 a1) (r08_Dot.f (k + 1) a0 a1) := by
 intro a0 a1 k
 obtain ⟨ih0, ih1⟩ := r08_Dot.mono_l k
 unfold r08_Dot.f
 repeat' first
   | (with_reducible exact ih0 _ _ _)
   | (with_reducible exact ih1 _ _ _ _ _)
   | (with_reducible exact yR _)
   | (with_reducible exact yO _)
   | (with_reducible refine yQ ?_ ?_)
   | (with_reducible refine yP ?_ (fun _ => ?_))
   | exact ih0 _ _ _
   | exact ih1 _ _ _ _ _
   | exact yO _
   | refine yQ ?_ ?_
   | refine yP ?_ (fun _ => ?_)
set_option maxHeartbeats 8000000 in
set_option maxRecDepth 100000 in
theorem r08_Dot.calls (k : Nat) (A0 : Option Addr) (c0 : Nat) (l0 : List Int) (A1 : Option Addr) (c1 : Nat) (l1 : List Int) (r1 : Int) (r2 : Int) (w : World) (hr0 : Kd.C (Kd.int .i8) w A0 l0.length l0) (hc0 : l0.length ≤ c0) (hr1 : Kd.C (Kd.int .i8) w A1 l1.length l1) (hc1 : l1.length ≤ c1) (h : r08_Dot.f k l0 l1 = some (r1, r2)) :
  Calls Try.prog 31 #[.slice A0 l0.length c0, .slice A1 l1.length c1] w fun e w' => e = .returned (.tuple #[.int .i64 r1, .int .i64 r2]) ∧ Drawn0 w w' := by
 have HR0 := zK hr0
 have HC0 := zK hc0
 clear hr0 hc0
 have HR1 := zK hr1
 have HC1 := zK hc1
 clear hr1 hc1
 have H : (if (l0.length : Int) > 1048576 then (r08_Dot.j0 k l0 l1 true) else (r08_Dot.j0 k l0 l1 (decide ((l1.length : Int) > 1048576)))) = some (r1, r2) := h
 clear h
 have HC3 := zK H
 clear H
 go_enter Try.func31, Try.ntmps31
 go_upto_region 1 with (fail)
 repeat (go_quiet (fail); go_upto_region 1 with (fail))
 go_cut [15] (fun v15 wc => ∃ (kq : Nat) (x15_2 : Bool), v15 = .bool x15_2 ∧ Aside0 (r08_Dot.j0 kq l0 l1 x15_2 = some (r1, r2)) ∧ Aside0 (kq ≤ k) ∧ Drawn0 w wc)
 case first =>
  have H := HC3.out
  clear HC3
  by_cases c4 : (l0.length : Int) > 1048576
  ·rw [if_pos c4] at H
   have c4b0 : decide (1048576 < (l0.length : Int)) = true := yC c4
   have c4b1 : decide (1048576 < l0.length) = true := yC (by omega)
   clear c4
   (first | rw [c4b0] | (simp only [i64_w, i32_w]; rw [c4b0]) | skip)
   have H' := zK H
   clear H
   go_wp2
   repeat (go_quiet (fail); try go_wp2)
   go_meet
   case rel => exact ⟨_, (true), (by first | rfl | (simp; done) | (simp [*]; done)), H', ⟨by first | omega | exact yN _⟩, by repeat (first | exact Drawn0.refl _ | apply Drawn0.step)⟩
  ·rw [if_neg c4] at H
   have c4b0 : decide (1048576 < (l0.length : Int)) = false := yD c4
   have c4b1 : decide (1048576 < l0.length) = false := yD (by omega)
   clear c4
   (first | rw [c4b0] | (simp only [i64_w, i32_w]; rw [c4b0]) | skip)
   have H' := zK H
   clear H
   go_wp2
   repeat (go_quiet (fail); try go_wp2)
   go_meet
   case rel => exact ⟨_, (decide ((l1.length : Int) > 1048576)), (by first | rfl | (simp; done) | (simp [*]; done)), H', ⟨by first | omega | exact yN _⟩, by repeat (first | exact Drawn0.refl _ | apply Drawn0.step)⟩
 case rest =>
  clear HC3
  try clear c1
  try clear p2
  try clear c3
  try clear c4
  try clear c4b0
  try clear c4b1
  obtain ⟨kq, x15_2, rfl, HA, HJ2, ⟨mc2, rfl⟩⟩ := hcut
  cases kq with
  | zero => exact absurd HA.out (by simp [r08_Dot.j0])
  | succ kj2 =>
   have H := HA.out
   clear HA
   simp only [r08_Dot.j0] at H
   by_cases c5 : x15_2 = true
   ·subst c5
    have H1 : (some (0, 81)) = some (r1, r2) := by rw [if_pos rfl] at H; exact H
    clear H
    have H := H1
    clear H1
    simp only [yZ, ya] at H
    obtain ⟨rfl, rfl⟩ := H
    go_wp2
    repeat (go_quiet (fail); try go_wp2)
    go_ret2
    exact ⟨by first | rfl | (simp; done) | (simp [*]; done), by repeat (first | exact Drawn0.refl _ | apply Drawn0.step)⟩
   ·replace c5 := yh.mpr c5
    subst c5
    have H1 : (if (l0.length : Int) = (l1.length : Int) then (r08_Dot.l0 kj2 l0 l1 0 (l0.length : Int) 0) else (some (0, 80))) = some (r1, r2) := by rw [if_neg (show ¬ (false = true) by decide)] at H; exact H
    clear H
    have H := H1
    clear H1
    by_cases c6 : (l0.length : Int) = (l1.length : Int)
    ·rw [if_pos c6] at H
     have c6b0 : ((l0.length : Int) == (l1.length : Int)) = true := beq_iff_eq.mpr c6
     have c6b1 : ((l0.length : Int) != (l1.length : Int)) = false := bne_eq_false_iff_eq.mpr c6
     have c6b2 : (l0.length == l1.length) = true := by first | simpa using c6 | (simp at c6 ⊢; omega)
     clear c6
     have H' := zK H
     clear H
     go_wp2
     repeat (go_quiet (fail); try go_wp2)
     go_loopg [6, 23] kj2 (fun kq v6 v23 w' => ∃ (x6_2 : Int) (x23_2 : Int), v6 = .int .i64 x6_2 ∧ v23 = .int .i64 x23_2 ∧ Aside0 (r08_Dot.l0 kq l0 l1 x6_2 (l0.length : Int) x23_2 = some (r1, r2)) ∧ Aside0 (kq ≤ kj2) ∧ Drawn0 w w')
     case atStart => exact ⟨(0), (0), (by first | rfl | (simp; done) | (simp [*]; done)), (by first | rfl | (simp; done) | (simp [*]; done)), H', ⟨yN _⟩, by repeat (first | exact Drawn0.refl _ | apply Drawn0.step)⟩
     case round =>
      clear H'
      try clear c1
      try clear c2
      try clear p2
      try clear c3
      try clear c4
      try clear c4b0
      try clear c4b1
      try clear c5
      try clear c6
      try clear c6b0
      try clear c6b1
      try clear c6b2
      try clear p2
      obtain ⟨x6_2, x23_2, rfl, rfl, HA, HK2, ⟨m2, rfl⟩⟩ := hrel
      cases gk with
      | zero => exact absurd HA.out (by simp [r08_Dot.l0])
      | succ k2 =>
       have H := HA.out
       clear HA
       simp only [r08_Dot.l0] at H
       by_cases c7 : x23_2 < (l0.length : Int)
       ·rw [if_pos c7] at H
        have c7b0 : decide (x23_2 < (l0.length : Int)) = true := yC c7
        clear c7
        by_cases c8 : 0 ≤ x23_2
        ·rw [if_pos c8] at H
         have c8b0 : decide (0 ≤ x23_2) = true := yC c8
         clear c8
         by_cases c9 : x23_2 < (l0.length : Int)
         ·rw [if_pos c9] at H
          have c9b0 : decide (x23_2 < (l0.length : Int)) = true := yC c9
          clear c9
          by_cases c10 : x23_2 < (l1.length : Int)
          ·rw [if_pos c10] at H
           have c10b0 : decide (x23_2 < (l1.length : Int)) = true := yC c10
           clear c10
           have H' := zK H
           clear H
           have p127 : 0 ≤ (x23_2 : Int) := yB (by first | (with_reducible assumption) | assumption)
           have q127 : x23_2 < (l0.length : Int) := yB (by first | (with_reducible assumption) | assumption)
           obtain ⟨ad127, e127, hx127_0⟩ := Kd.at_int HR0.out x23_2 p127 q127
           cases e127
           replace p127 := yg p127
           replace q127 := yg q127
           have p128 : 0 ≤ (x23_2 : Int) := yB (by first | (with_reducible assumption) | assumption)
           have q128 : x23_2 < (l1.length : Int) := yB (by first | (with_reducible assumption) | assumption)
           obtain ⟨ad128, e128, hx128_0⟩ := Kd.at_int HR1.out x23_2 p128 q128
           cases e128
           replace p128 := yg p128
           replace q128 := yg q128
           go_wp2
           repeat (go_quiet (fail); try go_wp2)
           go_roundg k2
           case measure => have := HJ2.out; have := HK2.out; omega
           case rel => exact ⟨(wrap64 (x6_2 + (wrap64 ((wrap64 (rd l0 x23_2)) * (wrap64 (rd l1 x23_2)))))), (wrap64 (x23_2 + 1)), (by first | rfl | (simp; done) | (simp [*]; done)), (by first | rfl | (simp; done) | (simp [*]; done)), H', ⟨by have := HJ2.out; have := HK2.out; omega⟩, by repeat (first | exact Drawn0.refl _ | apply Drawn0.step)⟩
          ·rw [if_neg c10] at H
           exact absurd H (by simp)
         ·rw [if_neg c9] at H
          exact absurd H (by simp)
        ·rw [if_neg c8] at H
         exact absurd H (by simp)
       ·rw [if_neg c7] at H
        have c7b0 : decide (x23_2 < (l0.length : Int)) = false := yD c7
        clear c7
        simp only [yZ, ya] at H
        obtain ⟨rfl, rfl⟩ := H
        go_wp2
        repeat (go_quiet (fail); try go_wp2)
        go_ret2
        exact ⟨by first | rfl | (simp; done) | (simp [*]; done), by repeat (first | exact Drawn0.refl _ | apply Drawn0.step)⟩
    ·rw [if_neg c6] at H
     have c6b0 : ((l0.length : Int) == (l1.length : Int)) = false := beq_eq_false_iff_ne.mpr c6
     have c6b1 : ((l0.length : Int) != (l1.length : Int)) = true := bne_iff_ne.mpr c6
     have c6b2 : (l0.length == l1.length) = false := by first | simpa using c6 | (simp at c6 ⊢; omega)
     simp only [yZ, ya] at H
     obtain ⟨rfl, rfl⟩ := H
     go_wp2
     repeat (go_quiet (fail); try go_wp2)
     go_ret2
     exact ⟨by first | rfl | (simp; done) | (simp [*]; done), by repeat (first | exact Drawn0.refl _ | apply Drawn0.step)⟩

/-! ### r02_Floor: function 58 -/
def r02_Floor.f (a0 : Int) (a1 : Int) : Option (Int × Int × Int) := if a1 < 1 then (some (0, 0, 21)) else (if a1 = 0 then (none) else (if (Int.tmod a0 a1) < 0 then (some (wrap64 ((wrap64 (Int.tdiv a0 a1)) - 1), wrap64 ((Int.tmod a0 a1) + a1), 0)) else (some (wrap64 (Int.tdiv a0 a1), Int.tmod a0 a1, 0))))
set_option maxHeartbeats 8000000 in
set_option maxRecDepth 100000 in
theorem r02_Floor.calls (a0 : Int) (a1 : Int) (r1 : Int) (r2 : Int) (r3 : Int) (w : World) (h : r02_Floor.f a0 a1 = some (r1, r2, r3)) :
  Calls Try.prog 58 #[.int .i64 a0, .int .i64 a1] w fun e w' => e = .returned (.tuple #[.int .i64 r1, .int .i64 r2, .int .i64 r3]) ∧ Drawn0 w w' := by
 have H : (if a1 < 1 then (some (0, 0, 21)) else (if a1 = 0 then (none) else (if (Int.tmod a0 a1) < 0 then (some (wrap64 ((wrap64 (Int.tdiv a0 a1)) - 1), wrap64 ((Int.tmod a0 a1) + a1), 0)) else (some (wrap64 (Int.tdiv a0 a1), Int.tmod a0 a1, 0))))) = some (r1, r2, r3) := h
 clear h
 by_cases c3 : a1 < 1
 ·rw [if_pos c3] at H
  have c3b0 : decide (a1 < 1) = true := yC c3
  clear c3
  simp only [yZ, ya] at H
  obtain ⟨rfl, rfl, rfl⟩ := H
  go_enter Try.func58, Try.ntmps58
  go_wp2
  go_ret3
  exact ⟨by first | rfl | (simp; done) | (simp [*]; done), by repeat (first | exact Drawn0.refl _ | apply Drawn0.step)⟩
 ·rw [if_neg c3] at H
  have c3b0 : decide (a1 < 1) = false := yD c3
  clear c3
  by_cases c4 : a1 = 0
  ·rw [if_pos c4] at H
   exact absurd H (by simp)
  ·rw [if_neg c4] at H
   have c4b0 : (a1 == 0) = false := beq_eq_false_iff_ne.mpr c4
   have c4b1 : (a1 != 0) = true := bne_iff_ne.mpr c4
   by_cases c5 : (Int.tmod a0 a1) < 0
   ·rw [if_pos c5] at H
    have c5b0 : decide ((Int.tmod a0 a1) < 0) = true := yC c5
    clear c5
    simp only [yZ, ya] at H
    obtain ⟨rfl, rfl, rfl⟩ := H
    go_enter Try.func58, Try.ntmps58
    go_wp2
    go_ret3
    exact ⟨by first | rfl | (simp; done) | (simp [*]; done), by repeat (first | exact Drawn0.refl _ | apply Drawn0.step)⟩
   ·rw [if_neg c5] at H
    have c5b0 : decide ((Int.tmod a0 a1) < 0) = false := yD c5
    clear c5
    simp only [yZ, ya] at H
    obtain ⟨rfl, rfl, rfl⟩ := H
    go_enter Try.func58, Try.ntmps58
    go_wp2
    go_ret3
    exact ⟨by first | rfl | (simp; done) | (simp [*]; done), by repeat (first | exact Drawn0.refl _ | apply Drawn0.step)⟩

/-! ### r02_Near: function 45 -/
def r02_Near.f (a0 : Int) (a1 : Int) : Option (Int × Int) := (r02_Floor.f a0 a1).bind fun bt129 => (if bt129.2.2 = 0 then (if bt129.2.1 > (wrap64 (a1 - bt129.2.1)) then (some (wrap64 (bt129.1 + 1), 0)) else (if bt129.2.1 = (wrap64 (a1 - bt129.2.1)) then (if (Int.tmod bt129.1 2) = 0 then (some (bt129.1, 0)) else (some (wrap64 (bt129.1 + 1), 0))) else (some (bt129.1, 0)))) else (some (0, bt129.2.2)))
set_option maxHeartbeats 8000000 in
set_option maxRecDepth 100000 in
theorem r02_Near.calls (a0 : Int) (a1 : Int) (r1 : Int) (r2 : Int) (w : World) (h : r02_Near.f a0 a1 = some (r1, r2)) :
  Calls Try.prog 45 #[.int .i64 a0, .int .i64 a1] w fun e w' => e = .returned (.tuple #[.int .i64 r1, .int .i64 r2]) ∧ Drawn0 w w' := by
 have H : ((r02_Floor.f a0 a1).bind fun bt129 => (if bt129.2.2 = 0 then (if bt129.2.1 > (wrap64 (a1 - bt129.2.1)) then (some (wrap64 (bt129.1 + 1), 0)) else (if bt129.2.1 = (wrap64 (a1 - bt129.2.1)) then (if (Int.tmod bt129.1 2) = 0 then (some (bt129.1, 0)) else (some (wrap64 (bt129.1 + 1), 0))) else (some (bt129.1, 0)))) else (some (0, bt129.2.2)))) = some (r1, r2) := h
 clear h
 replace H := yA.mp H
 obtain ⟨⟨t129, t130, t131⟩, A30, H⟩ := H
 replace H : (if t131 = 0 then (if t130 > (wrap64 (a1 - t130)) then (some (wrap64 (t129 + 1), 0)) else (if t130 = (wrap64 (a1 - t130)) then (if (Int.tmod t129 2) = 0 then (some (t129, 0)) else (some (wrap64 (t129 + 1), 0))) else (some (t129, 0)))) else (some (0, t131))) = some (r1, r2) := H
 have A3 := zK A30
 clear A30
 by_cases c4 : t131 = 0
 ·rw [if_pos c4] at H
  have c4b0 : (t131 == 0) = true := beq_iff_eq.mpr c4
  have c4b1 : (t131 != 0) = false := bne_eq_false_iff_eq.mpr c4
  clear c4
  by_cases c5 : t130 > (wrap64 (a1 - t130))
  ·rw [if_pos c5] at H
   have c5b0 : decide ((wrap64 (a1 - t130)) < t130) = true := yC c5
   clear c5
   simp only [yZ, ya] at H
   obtain ⟨rfl, rfl⟩ := H
   go_enter Try.func45, Try.ntmps45
   go_wp2_with (first | ((with_reducible refine gate_callee (f := 58) rfl ?_); refine goesL_ (some 12) rfl rfl Try.func58 (by kernel_rfl) rfl #[.int .i64 a0, .int .i64 a1] rfl (by (try simp only [yH, yI, yJ]); first | done | rfl | (simp only [yG, yF]; rfl)) ?_; (with_reducible refine (r02_Floor.calls a0 a1 t129 t130 t131 _ A3.out).mono ?_); rintro e w' ⟨rfl, ⟨nd, rfl⟩⟩; refine ⟨_, rfl, ?_⟩))
   go_ret2
   exact ⟨by first | rfl | (simp; done) | (simp [*]; done), by repeat (first | exact Drawn0.refl _ | apply Drawn0.step)⟩
  ·rw [if_neg c5] at H
   have c5b0 : decide ((wrap64 (a1 - t130)) < t130) = false := yD c5
   clear c5
   by_cases c6 : t130 = (wrap64 (a1 - t130))
   ·rw [if_pos c6] at H
    have c6b0 : (t130 == (wrap64 (a1 - t130))) = true := beq_iff_eq.mpr c6
    have c6b1 : (t130 != (wrap64 (a1 - t130))) = false := bne_eq_false_iff_eq.mpr c6
    clear c6
    by_cases c7 : (Int.tmod t129 2) = 0
    ·rw [if_pos c7] at H
     have c7b0 : ((Int.tmod t129 2) == 0) = true := beq_iff_eq.mpr c7
     have c7b1 : ((Int.tmod t129 2) != 0) = false := bne_eq_false_iff_eq.mpr c7
     clear c7
     simp only [yZ, ya] at H
     obtain ⟨rfl, rfl⟩ := H
     go_enter Try.func45, Try.ntmps45
     go_wp2_with (first | ((with_reducible refine gate_callee (f := 58) rfl ?_); refine goesL_ (some 12) rfl rfl Try.func58 (by kernel_rfl) rfl #[.int .i64 a0, .int .i64 a1] rfl (by (try simp only [yH, yI, yJ]); first | done | rfl | (simp only [yG, yF]; rfl)) ?_; (with_reducible refine (r02_Floor.calls a0 a1 t129 t130 t131 _ A3.out).mono ?_); rintro e w' ⟨rfl, ⟨nd, rfl⟩⟩; refine ⟨_, rfl, ?_⟩))
     go_ret2
     exact ⟨by first | rfl | (simp; done) | (simp [*]; done), by repeat (first | exact Drawn0.refl _ | apply Drawn0.step)⟩
    ·rw [if_neg c7] at H
     have c7b0 : ((Int.tmod t129 2) == 0) = false := beq_eq_false_iff_ne.mpr c7
     have c7b1 : ((Int.tmod t129 2) != 0) = true := bne_iff_ne.mpr c7
     simp only [yZ, ya] at H
     obtain ⟨rfl, rfl⟩ := H
     go_enter Try.func45, Try.ntmps45
     go_wp2_with (first | ((with_reducible refine gate_callee (f := 58) rfl ?_); refine goesL_ (some 12) rfl rfl Try.func58 (by kernel_rfl) rfl #[.int .i64 a0, .int .i64 a1] rfl (by (try simp only [yH, yI, yJ]); first | done | rfl | (simp only [yG, yF]; rfl)) ?_; (with_reducible refine (r02_Floor.calls a0 a1 t129 t130 t131 _ A3.out).mono ?_); rintro e w' ⟨rfl, ⟨nd, rfl⟩⟩; refine ⟨_, rfl, ?_⟩))
     go_ret2
     exact ⟨by first | rfl | (simp; done) | (simp [*]; done), by repeat (first | exact Drawn0.refl _ | apply Drawn0.step)⟩
   ·rw [if_neg c6] at H
    have c6b0 : (t130 == (wrap64 (a1 - t130))) = false := beq_eq_false_iff_ne.mpr c6
    have c6b1 : (t130 != (wrap64 (a1 - t130))) = true := bne_iff_ne.mpr c6
    simp only [yZ, ya] at H
    obtain ⟨rfl, rfl⟩ := H
    go_enter Try.func45, Try.ntmps45
    go_wp2_with (first | ((with_reducible refine gate_callee (f := 58) rfl ?_); refine goesL_ (some 12) rfl rfl Try.func58 (by kernel_rfl) rfl #[.int .i64 a0, .int .i64 a1] rfl (by (try simp only [yH, yI, yJ]); first | done | rfl | (simp only [yG, yF]; rfl)) ?_; (with_reducible refine (r02_Floor.calls a0 a1 t129 t130 t131 _ A3.out).mono ?_); rintro e w' ⟨rfl, ⟨nd, rfl⟩⟩; refine ⟨_, rfl, ?_⟩))
    go_ret2
    exact ⟨by first | rfl | (simp; done) | (simp [*]; done), by repeat (first | exact Drawn0.refl _ | apply Drawn0.step)⟩
 ·rw [if_neg c4] at H
  have c4b0 : (t131 == 0) = false := beq_eq_false_iff_ne.mpr c4
  have c4b1 : (t131 != 0) = true := bne_iff_ne.mpr c4
  simp only [yZ, ya] at H
  obtain ⟨rfl, rfl⟩ := H
  go_enter Try.func45, Try.ntmps45
  go_wp2_with (first | ((with_reducible refine gate_callee (f := 58) rfl ?_); refine goesL_ (some 12) rfl rfl Try.func58 (by kernel_rfl) rfl #[.int .i64 a0, .int .i64 a1] rfl (by (try simp only [yH, yI, yJ]); first | done | rfl | (simp only [yG, yF]; rfl)) ?_; (with_reducible refine (r02_Floor.calls a0 a1 t129 t130 t131 _ A3.out).mono ?_); rintro e w' ⟨rfl, ⟨nd, rfl⟩⟩; refine ⟨_, rfl, ?_⟩))
  go_ret2
  exact ⟨by first | rfl | (simp; done) | (simp [*]; done), by repeat (first | exact Drawn0.refl _ | apply Drawn0.step)⟩

end Go.Proofs.Ytmjepdhjginelaa.B
