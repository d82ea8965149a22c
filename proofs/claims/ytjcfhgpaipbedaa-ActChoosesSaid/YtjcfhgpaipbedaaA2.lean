-- Printed by this session's own driver (wip/tools/xprint.py) over the kit's printer; given functions are this session's own.
import Derived.Test.YtjcfhgpaipbedaaA0
import Derived.Test.YtjcfhgpaipbedaaA1
import Derived.Test.YtjcfhgpaipbedaaTimes
namespace Go.Proofs.Ytjcfhgpaipbedaa.A
open Go.RowKit Go.Proofs.YtjcfhgpaipbedaaW.PrintWords Go.Proofs.YtjcfhgpaipbedaaW.PrintLast Go.Proofs.YtjcfhgpaipbedaaW.PrintMore
attribute [local go_sem] max2_int min2_int max_two min_two max_three min_three max_four min_four   -- for this text's walks alone
set_option linter.unusedVariables false
set_option linter.unusedSimpArgs false

/-! ### act_Gate: function 14 -/
mutual
def act_Gate.j0 : Nat → List Int → List Int → List Int → Bool → Option (List Int × Int)
 | 0, _, _, _, _ => none
 | k + 1, x0, x1, x2, x15 => if x15 = true then (some (([] : List Int), 81)) else (if (x1.length : Int) = (x2.length : Int) then (if 0 ≤ (x1.length : Int) then (if ((x1.length : Int) : Int).toNat ≤ 281474976710656 then (act_Gate.l0 k x0 x2 (List.replicate ((x1.length : Int) : Int).toNat 0) x1 (x1.length : Int) 0) else (none)) else (none)) else (some (([] : List Int), 80)))
def act_Gate.l0 : Nat → List Int → List Int → List Int → List Int → Int → Int → Option (List Int × Int)
 | 0, _, _, _, _, _, _ => none
 | k + 1, x0, x2, x8, x33, x34, x35 => if x35 < x34 then (if 0 ≤ x35 then (if x35 < (x33.length : Int) then (if 0 ≤ ((rd x33 x35) % 256) then (if ((rd x33 x35) % 256) < (x0.length : Int) then (if x35 < (x2.length : Int) then ((act_narrow.f (wrap64 ((wrap64 (rd x0 ((rd x33 x35) % 256))) * (wrap64 (rd x2 x35)))) 6).bind fun t124 => (if x35 < (x8.length : Int) then (act_Gate.l0 k x0 x2 (x8.set (x35 : Int).toNat t124) x33 x34 (wrap64 (x35 + 1))) else (none))) else (none)) else (none)) else (none)) else (none)) else (none)) else (some (x8, 0))
end
def act_Gate.f (k : Nat) (l0 : List Int) (l1 : List Int) (l2 : List Int) : Option (List Int × Int) := if (l0.length : Int) = 256 then (if (l1.length : Int) > 1048576 then (act_Gate.j0 k l0 l1 l2 true) else (act_Gate.j0 k l0 l1 l2 (decide ((l2.length : Int) > 1048576)))) else (some (([] : List Int), 120))
theorem act_Gate.mono_l : ∀ k, (∀ y0 y1 y2 y3, LeO (act_Gate.j0 k y0 y1 y2 y3) (act_Gate.j0 (k + 1) y0 y1 y2 y3)) ∧ (∀ y0 y1 y2 y3 y4 y5, LeO (act_Gate.l0 k y0 y1 y2 y3 y4 y5) (act_Gate.l0 (k + 1) y0 y1 y2 y3 y4 y5))
 | 0 => ⟨fun _ _ _ _ r h => by simp [act_Gate.j0] at h, fun _ _ _ _ _ _ r h => by simp [act_Gate.l0] at h⟩
 | k + 1 => by
  obtain ⟨ih0, ih1⟩ := act_Gate.mono_l k
  refine ⟨?_, ?_⟩ <;> (intros; first | unfold act_Gate.j0 | unfold act_Gate.l0)
  all_goals repeat' first
   | (with_reducible exact ih0 _ _ _ _)
   | (with_reducible exact ih1 _ _ _ _ _ _)
   | (with_reducible exact yR _)
   | (with_reducible exact yO _)
   | (with_reducible refine yQ ?_ ?_)
   | (with_reducible refine yP ?_ (fun _ => ?_))
   | exact ih0 _ _ _ _
   | exact ih1 _ _ _ _ _ _
   | exact yO _
   | refine yQ ?_ ?_
   | refine yP ?_ (fun _ => ?_)
theorem act_Gate.mono : ∀ a0 a1 a2 k, LeO (act_Gate.f k a0 a1 a2) (act_Gate.f (k + 1) a0 a1 a2) := by
 intro a0 a1 a2 k
 obtain ⟨ih0, ih1⟩ := act_Gate.mono_l k
 unfold act_Gate.f
 repeat' first
   | (with_reducible exact ih0 _ _ _ _)
   | (with_reducible exact ih1 _ _ _ _ _ _)
   | (with_reducible exact yR _)
   | (with_reducible exact yO _)
   | (with_reducible refine yQ ?_ ?_)
   | (with_reducible refine yP ?_ (fun _ => ?_))
   | exact ih0 _ _ _ _
   | exact ih1 _ _ _ _ _ _
   | exact yO _
   | refine yQ ?_ ?_
   | refine yP ?_ (fun _ => ?_)
def act_Gate.T11 : Bool × List (List Nat × List Nat) := (true, [([], []), ([], []), ([], []), ([], []), ([3], [3]), ([2, 4], [2, 4]), ([5], [5]), ([6], [6]), ([], []), ([], []), ([8, 9], [8, 9]), ([10], [10]), ([11], [11]), ([7, 12], [7, 12]), ([13], [13]), ([0, 1, 0, 1, 2, 3, 4, 5, 6, 7, 8, 9, 10, 11, 12, 13, 14], [0, 1]), ([15, 14, 14, 0, 1, 2, 3, 4, 5, 6, 7, 8, 9, 10, 11, 12, 13, 14], [14, 15])])
def act_Gate.B11 : List Nat := [0, 0, 0, 0, 8, 28, 60, 124, 0, 0, 768, 1792, 3840, 8188, 16380, 32767, 65535]
theorem act_Gate.tab11 : rtab .any (opsOf Try.f14 11) = act_Gate.T11 := by kernel_rfl
theorem act_Gate.bits11 : waitsOk act_Gate.T11.2 act_Gate.B11 = true := by kernel_rfl
set_option maxHeartbeats 8000000 in
set_option maxRecDepth 100000 in
theorem act_Gate.calls (k : Nat) (A0 : Option Addr) (c0 : Nat) (l0 : List Int) (A1 : Option Addr) (c1 : Nat) (l1 : List Int) (A2 : Option Addr) (c2 : Nat) (l2 : List Int) (r1 : List Int) (r2 : Int) (w : World) (hr0 : Kd.C (Kd.int .i8) w A0 l0.length l0) (hc0 : l0.length ≤ c0) (hr1 : Kd.C (Kd.int .i8) w A1 l1.length l1) (hc1 : l1.length ≤ c1) (hr2 : Kd.C (Kd.int .i8) w A2 l2.length l2) (hc2 : l2.length ≤ c2) (h : act_Gate.f k l0 l1 l2 = some (r1, r2)) :
  Calls Try.prog 14 #[.slice A0 l0.length c0, .slice A1 l1.length c1, .slice A2 l2.length c2] w fun e w' => ∃ v0_ : Value, e = .returned (.tuple #[v0_, .int .i64 r2]) ∧ Kd.R (Kd.int .i8) 30 w' w.heap.size (fun _ => True) v0_ r1 ∧ Below w.heap.size w w' := by
 have HR0 := zK hr0
 have HC0 := zK hc0
 clear hr0 hc0
 have HR1 := zK hr1
 have HC1 := zK hc1
 clear hr1 hc1
 have HR2 := zK hr2
 have HC2 := zK hc2
 clear hr2 hc2
 have HB := zK (Below.refl w.heap.size w)
 have H : (if (l0.length : Int) = 256 then (if (l1.length : Int) > 1048576 then (act_Gate.j0 k l0 l1 l2 true) else (act_Gate.j0 k l0 l1 l2 (decide ((l2.length : Int) > 1048576)))) else (some (([] : List Int), 120))) = some (r1, r2) := h
 clear h
 by_cases c4 : (l0.length : Int) = 256
 ·rw [if_pos c4] at H
  have c4b0 : ((l0.length : Int) == 256) = true := beq_iff_eq.mpr c4
  have c4b1 : ((l0.length : Int) != 256) = false := bne_eq_false_iff_eq.mpr c4
  clear c4
  have HC5 := zK H
  clear H
  go_enter Try.func14, Try.ntmps14
  go_upto_region 3 with (fail)
  go_cut [15] (fun v15 wc => ∃ (kq : Nat) (x15_4 : Bool), v15 = .bool x15_4 ∧ Aside0 (act_Gate.j0 kq l0 l1 l2 x15_4 = some (r1, r2)) ∧ Aside0 (kq ≤ k) ∧ Aside0 (Below w.heap.size w wc))
  case first =>
   have H := HC5.out
   clear HC5
   by_cases c6 : (l1.length : Int) > 1048576
   ·rw [if_pos c6] at H
    have c6b0 : decide (1048576 < (l1.length : Int)) = true := yC c6
    have c6b1 : decide (1048576 < l1.length) = true := yC (by omega)
    clear c6
    (first | rw [c6b0] | (simp only [i64_w, i32_w]; rw [c6b0]) | skip)
    have H' := zK H
    clear H
    go_wp2
    go_meet
    case rel => exact ⟨_, (true), (by first | rfl | (simp; done) | (simp [*]; done)), H', ⟨by first | omega | exact yN _⟩, ⟨by repeat (first | (with_reducible first | exact HB.out | apply zJ | apply zD | apply zE) | exact HB.out)⟩⟩
   ·rw [if_neg c6] at H
    have c6b0 : decide (1048576 < (l1.length : Int)) = false := yD c6
    have c6b1 : decide (1048576 < l1.length) = false := yD (by omega)
    clear c6
    (first | rw [c6b0] | (simp only [i64_w, i32_w]; rw [c6b0]) | skip)
    have H' := zK H
    clear H
    go_wp2
    go_meet
    case rel => exact ⟨_, (decide ((l2.length : Int) > 1048576)), (by first | rfl | (simp; done) | (simp [*]; done)), H', ⟨by first | omega | exact yN _⟩, ⟨by repeat (first | (with_reducible first | exact HB.out | apply zJ | apply zD | apply zE) | exact HB.out)⟩⟩
  case rest =>
   clear HC5
   try clear c1
   try clear c2
   try clear p2
   try clear c4
   try clear c4b0
   try clear c4b1
   try clear c6
   try clear c6b0
   try clear c6b1
   obtain ⟨kq, x15_4, rfl, HA, HJ4, HB⟩ := hcut
   cases kq with
   | zero => exact absurd HA.out (by simp [act_Gate.j0])
   | succ kj4 =>
    have H := HA.out
    clear HA
    simp only [act_Gate.j0] at H
    by_cases c7 : x15_4 = true
    ·subst c7
     have H1 : (some (([] : List Int), 81)) = some (r1, r2) := by rw [if_pos rfl] at H; exact H
     clear H
     have H := H1
     clear H1
     simp only [yZ, ya] at H
     obtain ⟨rfl, rfl⟩ := H
     go_wp2
     go_ret2
     exact ⟨_, by first | rfl | (simp [errW_none, errW_some] <;> rfl) | (simp [*, errW_none, errW_some] <;> rfl), by first | exact Kd.R_nil _ _ _ _ _ | exact Kd.N_nil _ _ _ _ _ | exact Kd.V_nil _ _ _ _ _ | exact Kd.Q_nil _ _ _ _ _ | exact Kd.S_nil _ _ _ _ _, by repeat (first | (with_reducible first | exact HB.out | apply zJ | apply zD | apply zE) | exact HB.out)⟩
    ·replace c7 := yh.mpr c7
     subst c7
     have H1 : (if (l1.length : Int) = (l2.length : Int) then (if 0 ≤ (l1.length : Int) then (if ((l1.length : Int) : Int).toNat ≤ 281474976710656 then (act_Gate.l0 kj4 l0 l2 (List.replicate ((l1.length : Int) : Int).toNat 0) l1 (l1.length : Int) 0) else (none)) else (none)) else (some (([] : List Int), 80))) = some (r1, r2) := by rw [if_neg (show ¬ (false = true) by decide)] at H; exact H
     clear H
     have H := H1
     clear H1
     by_cases c8 : (l1.length : Int) = (l2.length : Int)
     ·rw [if_pos c8] at H
      have c8b0 : ((l1.length : Int) == (l2.length : Int)) = true := beq_iff_eq.mpr c8
      have c8b1 : ((l1.length : Int) != (l2.length : Int)) = false := bne_eq_false_iff_eq.mpr c8
      have c8b2 : (l1.length == l2.length) = true := by first | simpa using c8 | (simp at c8 ⊢; omega)
      clear c8
      by_cases c9 : 0 ≤ (l1.length : Int)
      ·rw [if_pos c9] at H
       have c9b0 := yg c9
       have c9b1 : decide (0 ≤ (l1.length : Int)) = true := yC c9
       clear c9
       by_cases c10 : ((l1.length : Int) : Int).toNat ≤ 281474976710656
       ·rw [if_pos c10] at H
        have c10b0 := yg c10
        have c10b1 : decide (((l1.length : Int) : Int).toNat ≤ 281474976710656) = true := yC c10
        clear c10
        obtain ⟨y118, hy118⟩ : ∃ y_ : List Int, y_ = (List.replicate ((l1.length : Int) : Int).toNat 0) := ⟨_, rfl⟩
        replace H : (act_Gate.l0 kj4 l0 l2 y118 l1 (l1.length : Int) 0) = some (r1, r2) := by first | (rw [hy118]; with_reducible exact H) | (have H2_ := (yV _ _).symm.trans H; rw [hy118]; with_reducible exact H2_) | (have H2_ := (yV _ _).symm.trans H; with_reducible exact H2_) | with_reducible exact H | (rw [hy118]; exact H) | exact H
        have Ny118 := zK hy118
        clear hy118
        have H' := zK H
        clear H
        go_wp2_with (first | ((with_reducible refine gate_dst (N := 32) rfl ?_); refine Kd.R_make (Kd.int .i8) _ 30 rfl (N := 32) rfl 23 _ _ rfl (l1.length : Int) rfl rfl Try.underlying23 (.int .i8 0) 1 info30 rfl (by decide) (by omega) 0 (ok := fun _ => True) (okp := fun _ => True) rfl (fun _ hk => hk) trivial (yB (by first | (with_reducible assumption) | assumption)) (yl (Nat.mul_le_mul_right _ (yB (by first | (with_reducible assumption) | assumption) : (l1.length : Int).toNat ≤ 281474976710656)) (by omega)) (Below.refl _ _) (yN _) ?_; intro v119 w11 ho12 hb hg_ hnew_; clear hg_ hnew_; (first | rw [← Ny118.out] at ho12 | (simp only [Int.reduceToNat] at ho12; rw [← Ny118.out] at ho12)); have n0_ := zK (Kd.R_lower ho12 (yK (by repeat (first | (with_reducible first | exact HB.out | apply zJ | apply zD | apply zE) | exact HB.out)))); have n1_ := zK (yL (by repeat (first | (with_reducible first | exact HB.out | apply zJ | apply zD | apply zE) | exact HB.out)) hb); clear HB; have HO120 := n0_; have HB := n1_; clear n0_ n1_ hb ho12))
        go_loopg [35] kj4 (fun kq v35 w' => ∃ (x8_2 : List Int) (x35_2 : Int), v35 = .int .i64 x35_2 ∧ Aside0 (act_Gate.l0 kq l0 l2 x8_2 l1 (l1.length : Int) x35_2 = some (r1, r2)) ∧ Aside0 (kq ≤ kj4) ∧ Aside0 (Kd.R (Kd.int .i8) 30 w' w.heap.size (fun _ => True) v119 x8_2) ∧ Aside0 (Below w.heap.size w w'))
        case atStart => exact ⟨(y118), (0), (by first | rfl | (simp; done) | (simp [*]; done)), H', ⟨yN _⟩, ⟨by (with_reducible repeat (first | apply zL | apply zM | apply zN)); exact HO120.out⟩, ⟨by repeat (first | (with_reducible first | exact HB.out | apply zJ | apply zD | apply zE) | exact HB.out)⟩⟩
        case round =>
         clear H'
         try clear c1
         try clear c2
         try clear p2
         try clear c4
         try clear c4b0
         try clear c4b1
         try clear c6
         try clear c6b0
         try clear c6b1
         try clear c7
         try clear c8
         try clear c8b0
         try clear c8b1
         try clear c8b2
         try clear c9
         try clear c9b0
         try clear c9b1
         try clear c10
         try clear c10b0
         try clear c10b1
         try clear p2
         obtain ⟨x8_2, x35_2, rfl, HA, HK2, HO_8, HB⟩ := hrel
         cases gk with
         | zero => exact absurd HA.out (by simp [act_Gate.l0])
         | succ k2 =>
          have H := HA.out
          clear HA
          simp only [act_Gate.l0] at H
          by_cases c13 : x35_2 < (l1.length : Int)
          ·rw [if_pos c13] at H
           have c13b0 : decide (x35_2 < (l1.length : Int)) = true := yC c13
           clear c13
           by_cases c14 : 0 ≤ x35_2
           ·rw [if_pos c14] at H
            have c14b0 : decide (0 ≤ x35_2) = true := yC c14
            clear c14
            by_cases c15 : x35_2 < (l1.length : Int)
            ·rw [if_pos c15] at H
             have c15b0 : decide (x35_2 < (l1.length : Int)) = true := yC c15
             clear c15
             obtain ⟨ji16, hji16⟩ : ∃ j_ : Int, ((rd l1 x35_2) % 256) = j_ := ⟨_, rfl⟩
             replace H : (if 0 ≤ (ji16) then (if (ji16) < (l0.length : Int) then (if x35_2 < (l2.length : Int) then ((act_narrow.f (wrap64 ((wrap64 (rd l0 (ji16))) * (wrap64 (rd l2 x35_2)))) 6).bind fun t124 => (if x35_2 < (x8_2.length : Int) then (act_Gate.l0 k2 l0 l2 (x8_2.set (x35_2 : Int).toNat t124) l1 (l1.length : Int) (wrap64 (x35_2 + 1))) else (none))) else (none)) else (none)) else (none)) = some (r1, r2) := by first | (rw [hji16] at H; exact H) | (simp only [hji16] at H ⊢; exact H)
             by_cases c17 : 0 ≤ (ji16)
             ·rw [if_pos c17] at H
              have c17b0 : decide (0 ≤ (ji16)) = true := yC c17
              clear c17
              by_cases c18 : (ji16) < (l0.length : Int)
              ·rw [if_pos c18] at H
               have c18b0 : decide ((ji16) < (l0.length : Int)) = true := yC c18
               clear c18
               by_cases c19 : x35_2 < (l2.length : Int)
               ·rw [if_pos c19] at H
                have c19b0 : decide (x35_2 < (l2.length : Int)) = true := yC c19
                clear c19
                replace H := yA.mp H
                obtain ⟨t124, A200, H⟩ := H
                replace H : (if x35_2 < (x8_2.length : Int) then (act_Gate.l0 k2 l0 l2 (x8_2.set (x35_2 : Int).toNat t124) l1 (l1.length : Int) (wrap64 (x35_2 + 1))) else (none)) = some (r1, r2) := H
                have A20 := zK A200
                clear A200
                by_cases c21 : x35_2 < (x8_2.length : Int)
                ·rw [if_pos c21] at H
                 have c21b0 : decide (x35_2 < (x8_2.length : Int)) = true := yC c21
                 clear c21
                 obtain ⟨y125, hy125⟩ : ∃ y_ : List Int, y_ = (x8_2.set (x35_2 : Int).toNat t124) := ⟨_, rfl⟩
                 replace H : (act_Gate.l0 k2 l0 l2 y125 l1 (l1.length : Int) (wrap64 (x35_2 + 1))) = some (r1, r2) := by first | (rw [hy125]; with_reducible exact H) | (have H2_ := (yV _ _).symm.trans H; rw [hy125]; with_reducible exact H2_) | (have H2_ := (yV _ _).symm.trans H; with_reducible exact H2_) | with_reducible exact H | (rw [hy125]; exact H) | exact H
                 have Ny125 := zK hy125
                 clear hy125
                 have H' := zK H
                 clear H
                 have p121 : 0 ≤ (x35_2 : Int) := yB (by first | (with_reducible assumption) | assumption)
                 have q121 : x35_2 < (l1.length : Int) := yB (by first | (with_reducible assumption) | assumption)
                 obtain ⟨ad121, e121, hx121_0⟩ := Kd.at_int HR1.out x35_2 p121 q121
                 cases e121
                 replace hx121_0 := (HB.out.cell (World.block_lt_of_cell? w _ hx121_0)).trans hx121_0
                 replace p121 := yg p121
                 replace q121 := yg q121
                 try go_wp2
                 have n0_ := zK (zN HO_8.out)
                 have n1_ := zK (zE HB.out)
                 clear HO_8 HB
                 have HO_8 := n0_; have HB := n1_
                 clear n0_ n1_
                 have p122 : 0 ≤ ((ji16) : Int) := yB (by first | (with_reducible assumption) | assumption)
                 have q122 : (ji16) < (l0.length : Int) := yB (by first | (with_reducible assumption) | assumption)
                 obtain ⟨ad122, e122, hx122_0⟩ := Kd.at_int HR0.out (ji16) p122 q122
                 have hw122_0 := hx122_0
                 cases e122
                 replace hx122_0 := (HB.out.cell (World.block_lt_of_cell? w _ hx122_0)).trans hx122_0
                 replace p122 := yg p122
                 replace q122 := yg q122
                 have p123 : 0 ≤ (x35_2 : Int) := yB (by first | (with_reducible assumption) | assumption)
                 have q123 : x35_2 < (l2.length : Int) := yB (by first | (with_reducible assumption) | assumption)
                 obtain ⟨ad123, e123, hx123_0⟩ := Kd.at_int HR2.out x35_2 p123 q123
                 have hw123_0 := hx123_0
                 cases e123
                 replace hx123_0 := (HB.out.cell (World.block_lt_of_cell? w _ hx123_0)).trans hx123_0
                 replace p123 := yg p123
                 replace q123 := yg q123
                 have hu8_ := IntKind.wrap_u8 (rd l1 x35_2)
                 refine start_ (n := 17) (S := fun w' => w'.cell? (ad122.add ((ji16)).toNat) = some (.int .i8 (rd l0 (ji16))) ∧ w'.cell? (ad123.add (x35_2).toNat) = some (.int .i8 (rd l2 x35_2))) (ds := [16]) #[false, false, false, false, false, false, false, false, false, false, false, false, false, false, false, false, false] (by kernel_rfl) rfl rfl ⟨((HB.out.cell (World.block_lt_of_cell? w _ hw122_0)).trans hw122_0), ((HB.out.cell (World.block_lt_of_cell? w _ hw123_0)).trans hw123_0)⟩ (fun hHeld => ?_); refine with_tabW act_Gate.tab11 act_Gate.bits11 (fun HT_ HW_ => ?_)
                 generalize wr.drew = w23 at HO_8 HB hx122_0 hx123_0 hHeld ⊢
                 refine pure_ (i := 0) (N := some 40) (v := ?_) (a' := ?_) #[true, false, false, false, false, false, false, false, false, false, false, false, false, false, false, false, false] rfl rfl (any_of HT_.out (by kernel_rfl)) (fun _ _ _ h => h) (Or.inl ⟨by rfl, ?_⟩) ?_ ?_
                 rotate_left
                 ·intro w'
                  go_simp
                  with_reducible rfl
                 rotate_left
                 ·simp only [Act.put, zA, zB, zC, i64_w, i32_w]
                  rfl
                 refine pure_ (i := 1) (N := some 41) (v := ?_) (a' := ?_) #[true, true, false, false, false, false, false, false, false, false, false, false, false, false, false, false, false] rfl rfl (any_of HT_.out (by kernel_rfl)) (fun _ _ _ h => h) (Or.inl ⟨by rfl, ?_⟩) ?_ ?_
                 rotate_left
                 ·intro w'
                  go_simp
                  with_reducible rfl
                 rotate_left
                 ·simp only [Act.put, zA, zB, zC, i64_w, i32_w]
                  rfl
                 refine pure_ (i := 2) (N := some 42) (v := ?_) (a' := ?_) #[true, true, true, false, false, false, false, false, false, false, false, false, false, false, false, false, false] rfl rfl (any_of HT_.out (by kernel_rfl)) (fun _ _ _ h => h) (Or.inl ⟨by rfl, ?_⟩) ?_ ?_
                 rotate_left
                 ·intro w'
                  go_simp
                  with_reducible rfl
                 rotate_left
                 ·simp only [Act.put, zA, zB, zC, i64_w, i32_w]
                  rfl
                 refine pure_ (i := 3) (N := some 43) (v := ?_) (a' := ?_) #[true, true, true, true, false, false, false, false, false, false, false, false, false, false, false, false, false] rfl rfl (any_of HT_.out (by kernel_rfl)) (fun _ _ _ h => h) (Or.inl ⟨by rfl, ?_⟩) ?_ ?_
                 rotate_left
                 ·intro w'
                  go_simp
                  with_reducible rfl
                 rotate_left
                 ·simp only [Act.put, zA, zB, zC, i64_w, i32_w]
                  rfl
                 refine pure_ (i := 4) (N := some 44) (v := ?_) (a' := ?_) #[true, true, true, true, true, false, false, false, false, false, false, false, false, false, false, false, false] rfl rfl (any_of HT_.out (by kernel_rfl)) (fun _ _ _ h => h) (Or.inl ⟨by rfl, ?_⟩) ?_ ?_
                 rotate_left
                 ·intro w'
                  go_simp
                  with_reducible rfl
                 rotate_left
                 ·simp only [Act.put, zA, zB, zC, i64_w, i32_w]
                  rfl
                 refine pure_ (i := 5) (N := some 45) (v := ?_) (a' := ?_) #[true, true, true, true, true, true, false, false, false, false, false, false, false, false, false, false, false] rfl rfl (any_of HT_.out (by kernel_rfl)) (fun _ _ _ h => h) (Or.inl ⟨by rfl, ?_⟩) ?_ ?_
                 rotate_left
                 ·intro w'
                  go_simp
                  with_reducible rfl
                 rotate_left
                 ·simp only [Act.put, zA, zB, zC, i64_w, i32_w]
                  rfl
                 refine pure_ (i := 8) (N := some 48) (v := ?_) (a' := ?_) #[true, true, true, true, true, true, false, false, true, false, false, false, false, false, false, false, false] rfl rfl (any_of HT_.out (by kernel_rfl)) (fun _ _ _ h => h) (Or.inl ⟨by rfl, ?_⟩) ?_ ?_
                 rotate_left
                 ·intro w'
                  go_simp
                  with_reducible rfl
                 rotate_left
                 ·simp only [Act.put, zA, zB, zC, i64_w, i32_w]
                  rfl
                 refine pure_ (i := 9) (N := some 49) (v := ?_) (a' := ?_) #[true, true, true, true, true, true, false, false, true, true, false, false, false, false, false, false, false] rfl rfl (any_of HT_.out (by kernel_rfl)) (fun _ _ _ h => h) (Or.inl ⟨by rfl, ?_⟩) ?_ ?_
                 rotate_left
                 ·intro w'
                  go_simp
                  with_reducible rfl
                 rotate_left
                 ·simp only [Act.put, zA, zB, zC, i64_w, i32_w]
                  rfl
                 refine pure_ (i := 10) (N := some 50) (v := ?_) (a' := ?_) #[true, true, true, true, true, true, false, false, true, true, true, false, false, false, false, false, false] rfl rfl (any_of HT_.out (by kernel_rfl)) (fun _ _ _ h => h) (Or.inl ⟨by rfl, ?_⟩) ?_ ?_
                 rotate_left
                 ·intro w'
                  go_simp
                  with_reducible rfl
                 rotate_left
                 ·simp only [Act.put, zA, zB, zC, i64_w, i32_w]
                  rfl
                 refine take_ (i := 6) (N := some 46) (v := ?_) (a' := ?_) #[true, true, true, true, true, true, true, false, true, true, true, false, false, false, false, false, false] rfl rfl (take_ofW HT_.out HW_.out (by kernel_rfl)) (fun _ _ _ h => h) (Or.inl ⟨by rfl, ?_⟩) hHeld ?_ ?_
                 rotate_left
                 ·rintro w' ⟨s0, s1⟩
                  go_simp
                  with_reducible rfl
                 rotate_left
                 ·simp only [Act.put, zA, zB, zC, i64_w, i32_w]
                  rfl
                 refine pure_ (i := 7) (N := some 47) (v := ?_) (a' := ?_) #[true, true, true, true, true, true, true, true, true, true, true, false, false, false, false, false, false] rfl rfl (any_of HT_.out (by kernel_rfl)) (fun _ _ _ h => h) (Or.inl ⟨by rfl, ?_⟩) ?_ ?_
                 rotate_left
                 ·intro w'
                  go_simp
                  with_reducible rfl
                 rotate_left
                 ·simp only [Act.put, zA, zB, zC, i64_w, i32_w]
                  rfl
                 refine take_ (i := 11) (N := some 51) (v := ?_) (a' := ?_) #[true, true, true, true, true, true, true, true, true, true, true, true, false, false, false, false, false] rfl rfl (take_ofW HT_.out HW_.out (by kernel_rfl)) (fun _ _ _ h => h) (Or.inl ⟨by rfl, ?_⟩) hHeld ?_ ?_
                 rotate_left
                 ·rintro w' ⟨s0, s1⟩
                  go_simp
                  with_reducible rfl
                 rotate_left
                 ·simp only [Act.put, zA, zB, zC, i64_w, i32_w]
                  rfl
                 refine pure_ (i := 12) (N := some 52) (v := ?_) (a' := ?_) #[true, true, true, true, true, true, true, true, true, true, true, true, true, false, false, false, false] rfl rfl (any_of HT_.out (by kernel_rfl)) (fun _ _ _ h => h) (Or.inl ⟨by rfl, ?_⟩) ?_ ?_
                 rotate_left
                 ·intro w'
                  go_simp
                  with_reducible rfl
                 rotate_left
                 ·simp only [Act.put, zA, zB, zC, i64_w, i32_w]
                  rfl
                 refine pure_ (i := 13) (N := some 53) (v := ?_) (a' := ?_) #[true, true, true, true, true, true, true, true, true, true, true, true, true, true, false, false, false] rfl rfl (any_of HT_.out (by kernel_rfl)) (fun _ _ _ h => h) (Or.inl ⟨by rfl, ?_⟩) ?_ ?_
                 rotate_left
                 ·intro w'
                  go_simp
                  with_reducible rfl
                 rotate_left
                 ·simp only [Act.put, zA, zB, zC, i64_w, i32_w]
                  rfl
                 refine one_ (i := 14) (N := some 54) #[true, true, true, true, true, true, true, true, true, true, true, true, true, true, true, false, false] rfl rfl (one_of HT_.out (by kernel_rfl)) (by decide) (fun K hK => ?_)
                 refine goes_ Try.func27 (by kernel_rfl) rfl #[.int .i64 (wrap64 ((wrap64 (rd l0 (ji16))) * (wrap64 (rd l2 x35_2)))), .int .i64 6] (by rfl) rfl rfl (by (try simp only [yH, yI, yJ]); first | done | (simp only [hji16]; rfl) | rfl | (simp only [yG, yF]; rfl)) ?_
                 with_reducible refine (act_narrow.calls (wrap64 ((wrap64 (rd l0 (ji16))) * (wrap64 (rd l2 x35_2)))) 6 t124 _ A20.out).mono ?_
                 rintro e w' ⟨rfl, ⟨nd, rfl⟩⟩
                 refine ⟨_, rfl, ?_⟩
                 have p22 : 0 ≤ (x35_2 : Int) := yB (by first | (with_reducible assumption) | assumption)
                 have q22 : (x35_2 : Int) < ((x8_2.length : Int) : Int) := yB (by first | (with_reducible assumption) | assumption)
                 obtain ⟨go22, co22, eo22, Z0, gl22, cl22, HG22⟩ := Kd.R_form HO_8.out (by omega)
                 (first | cases eo22 | (injection eo22 with ea_ en_ ec_; (first | subst ea_ | (injection ea_ with ea_; subst ea_)); subst ec_; clear en_))
                 have GB22 := zK Z0
                 have GG22 := zK HG22
                 clear Z0 gl22 HG22
                 obtain ⟨hx22_0, hf22_0⟩ := Kd.R_celln 0 HO_8.out (x35_2 : Int) p22 q22
                 replace p22 := yg p22
                 replace q22 := yg q22
                 have HP24 := Kd.R_putn HO_8.out (x35_2 : Int) t124
                 rw [← Ny125.out] at HP24
                 have HQ24 := zK HP24
                 clear HP24
                 refine hK.out _ _ ⟨((HB.out.cell (World.block_lt_of_cell? w _ hw122_0)).trans hw122_0), ((HB.out.cell (World.block_lt_of_cell? w _ hw123_0)).trans hw123_0)⟩ (fun hHeld => ?_)
                 clear hK K
                 refine norm_ (a' := ?_) ?_ ?_
                 rotate_left
                 ·show Act.put _ (some 54) _ = _
                  simp only [Act.put, zA, zB, zC, i64_w, i32_w]
                  rfl
                 refine pure_ (i := 15) (N := some 55) (v := ?_) (a' := ?_) #[true, true, true, true, true, true, true, true, true, true, true, true, true, true, true, true, false] rfl rfl (any_of HT_.out (by kernel_rfl)) (fun _ _ _ h => h) (Or.inl ⟨by rfl, ?_⟩) ?_ ?_
                 rotate_left
                 ·intro w'
                  go_simp
                  with_reducible rfl
                 rotate_left
                 ·simp only [Act.put, zA, zB, zC, i64_w, i32_w]
                  rfl
                 refine last_ (i := 16) (N := none) #[true, true, true, true, true, true, true, true, true, true, true, true, true, true, true, true, true] rfl rfl (one_of HT_.out (by kernel_rfl)) (by decide) (fun K hK => ?_)
                 refine skip_ (w1 := ?_) (by rfl) rfl ?_ ?_
                 rotate_left
                 ·go_simp
                  rfl
                 refine hK.out _ _ ?_
                 clear hK K
                 refine done_ (done_of HT_.out (by kernel_rfl)) ?_
                 try go_wp2
                 go_roundg k2
                 case measure => have := HJ4.out; have := HK2.out; omega
                 case rel => exact ⟨(y125), (wrap64 (x35_2 + 1)), (by first | rfl | (simp; done) | (simp [*]; done)), H', ⟨by have := HJ4.out; have := HK2.out; omega⟩, ⟨by (with_reducible repeat (first | apply zL | apply zM | apply zN)); exact HQ24.out⟩, ⟨by repeat (first | (with_reducible first | exact HB.out | apply zJ | apply zD | apply zE | refine zI ?_ GB22.out) | exact HB.out)⟩⟩
                ·rw [if_neg c21] at H
                 exact absurd H (by simp)
               ·rw [if_neg c19] at H
                exact absurd H (by simp)
              ·rw [if_neg c18] at H
               exact absurd H (by simp)
             ·rw [if_neg c17] at H
              exact absurd H (by simp)
            ·rw [if_neg c15] at H
             exact absurd H (by simp)
           ·rw [if_neg c14] at H
            exact absurd H (by simp)
          ·rw [if_neg c13] at H
           have c13b0 : decide (x35_2 < (l1.length : Int)) = false := yD c13
           clear c13
           simp only [yZ, ya] at H
           obtain ⟨rfl, rfl⟩ := H
           go_wp2
           go_ret2
           exact ⟨_, by first | rfl | (simp [errW_none, errW_some] <;> rfl) | (simp [*, errW_none, errW_some] <;> rfl), by (with_reducible repeat (first | apply zL | apply zM | apply zN)); exact HO_8.out, by repeat (first | (with_reducible first | exact HB.out | apply zJ | apply zD | apply zE) | exact HB.out)⟩
       ·rw [if_neg c10] at H
        exact absurd H (by simp)
      ·rw [if_neg c9] at H
       exact absurd H (by simp)
     ·rw [if_neg c8] at H
      have c8b0 : ((l1.length : Int) == (l2.length : Int)) = false := beq_eq_false_iff_ne.mpr c8
      have c8b1 : ((l1.length : Int) != (l2.length : Int)) = true := bne_iff_ne.mpr c8
      have c8b2 : (l1.length == l2.length) = false := by first | simpa using c8 | (simp at c8 ⊢; omega)
      simp only [yZ, ya] at H
      obtain ⟨rfl, rfl⟩ := H
      go_wp2
      go_ret2
      exact ⟨_, by first | rfl | (simp [errW_none, errW_some] <;> rfl) | (simp [*, errW_none, errW_some] <;> rfl), by first | exact Kd.R_nil _ _ _ _ _ | exact Kd.N_nil _ _ _ _ _ | exact Kd.V_nil _ _ _ _ _ | exact Kd.Q_nil _ _ _ _ _ | exact Kd.S_nil _ _ _ _ _, by repeat (first | (with_reducible first | exact HB.out | apply zJ | apply zD | apply zE) | exact HB.out)⟩
 ·rw [if_neg c4] at H
  have c4b0 : ((l0.length : Int) == 256) = false := beq_eq_false_iff_ne.mpr c4
  have c4b1 : ((l0.length : Int) != 256) = true := bne_iff_ne.mpr c4
  simp only [yZ, ya] at H
  obtain ⟨rfl, rfl⟩ := H
  go_enter Try.func14, Try.ntmps14
  go_wp2
  go_ret2
  exact ⟨_, by first | rfl | (simp [errW_none, errW_some] <;> rfl) | (simp [*, errW_none, errW_some] <;> rfl), by first | exact Kd.R_nil _ _ _ _ _ | exact Kd.N_nil _ _ _ _ _ | exact Kd.V_nil _ _ _ _ _ | exact Kd.Q_nil _ _ _ _ _ | exact Kd.S_nil _ _ _ _ _, by repeat (first | (with_reducible first | exact HB.out | apply zJ | apply zD | apply zE) | exact HB.out)⟩

/-! ### vec_matrix: function 51 -/
def vec_matrix.f (l0 : List Int) (a1 : Int) : Option (Int) := if (l0.length : Int) > 1048576 then (some 81) else (if a1 < 1 then (some 80) else (if a1 = 0 then (none) else (if ((l0.length : Int) % a1) = 0 then (some 0) else (some 80))))
set_option maxHeartbeats 8000000 in
set_option maxRecDepth 100000 in
theorem vec_matrix.calls (A0 : Option Addr) (c0 : Nat) (l0 : List Int) (a1 : Int) (r : Int) (w : World) (hr0 : Kd.C (Kd.int .i8) w A0 l0.length l0) (hc0 : l0.length ≤ c0) (h : vec_matrix.f l0 a1 = some r) :
  Calls Try.prog 51 #[.slice A0 l0.length c0, .int .i64 a1] w fun e w' => e = .returned (.int .i64 r) ∧ Drawn0 w w' := by
 have HR0 := zK hr0
 have HC0 := zK hc0
 clear hr0 hc0
 have H : (if (l0.length : Int) > 1048576 then (some 81) else (if a1 < 1 then (some 80) else (if a1 = 0 then (none) else (if ((l0.length : Int) % a1) = 0 then (some 0) else (some 80))))) = some r := h
 clear h
 by_cases c3 : (l0.length : Int) > 1048576
 ·rw [if_pos c3] at H
  have c3b0 : decide (1048576 < (l0.length : Int)) = true := yC c3
  have c3b1 : decide (1048576 < l0.length) = true := yC (by omega)
  clear c3
  obtain rfl := yY H
  go_enter Try.func51, Try.ntmps51
  go_wp2
  go_ret
  exact ⟨by first | rfl | (simp; done) | (simp [*]; done), by repeat (first | exact Drawn0.refl _ | apply Drawn0.step)⟩
 ·rw [if_neg c3] at H
  have c3b0 : decide (1048576 < (l0.length : Int)) = false := yD c3
  have c3b1 : decide (1048576 < l0.length) = false := yD (by omega)
  clear c3
  by_cases c4 : a1 < 1
  ·rw [if_pos c4] at H
   have c4b0 : decide (a1 < 1) = true := yC c4
   clear c4
   obtain rfl := yY H
   go_enter Try.func51, Try.ntmps51
   go_wp2
   go_ret
   exact ⟨by first | rfl | (simp; done) | (simp [*]; done), by repeat (first | exact Drawn0.refl _ | apply Drawn0.step)⟩
  ·rw [if_neg c4] at H
   have c4b0 : decide (a1 < 1) = false := yD c4
   clear c4
   by_cases c5 : a1 = 0
   ·rw [if_pos c5] at H
    exact absurd H (by simp)
   ·rw [if_neg c5] at H
    have c5b0 : (a1 == 0) = false := beq_eq_false_iff_ne.mpr c5
    have c5b1 : (a1 != 0) = true := bne_iff_ne.mpr c5
    by_cases c6 : ((l0.length : Int) % a1) = 0
    ·rw [if_pos c6] at H
     have c6b0 : (((l0.length : Int) % a1) == 0) = true := beq_iff_eq.mpr c6
     have c6b1 : (((l0.length : Int) % a1) != 0) = false := bne_eq_false_iff_eq.mpr c6
     clear c6
     obtain rfl := yY H
     go_enter Try.func51, Try.ntmps51
     go_wp2
     go_ret
     exact ⟨by first | rfl | (simp; done) | (simp [*]; done), by repeat (first | exact Drawn0.refl _ | apply Drawn0.step)⟩
    ·rw [if_neg c6] at H
     have c6b0 : (((l0.length : Int) % a1) == 0) = false := beq_eq_false_iff_ne.mpr c6
     have c6b1 : (((l0.length : Int) % a1) != 0) = true := bne_iff_ne.mpr c6
     obtain rfl := yY H
     go_enter Try.func51, Try.ntmps51
     go_wp2
     go_ret
     exact ⟨by first | rfl | (simp; done) | (simp [*]; done), by repeat (first | exact Drawn0.refl _ | apply Drawn0.step)⟩

/-! ### vec_dot: function 53 -/
def vec_dot.l0 : Nat → List Int → Int → List Int → Int → Int → Option (Int)
 | 0, _, _, _, _, _ => none
 | k + 1, x1, x5, x8, x9, x10 => if x10 < x9 then (if 0 ≤ x10 then (if x10 < (x8.length : Int) then (if x10 < (x1.length : Int) then (vec_dot.l0 k x1 (wrap64 (x5 + (wrap64 ((wrap64 (rd x8 x10)) * (wrap64 (rd x1 x10)))))) x8 x9 (wrap64 (x10 + 1))) else (none)) else (none)) else (none)) else (some x5)
def vec_dot.f (k : Nat) (l0 : List Int) (l1 : List Int) : Option (Int) := vec_dot.l0 k l1 0 l0 (l0.length : Int) 0
theorem vec_dot.mono_l : ∀ k, (∀ y0 y1 y2 y3 y4, LeO (vec_dot.l0 k y0 y1 y2 y3 y4) (vec_dot.l0 (k + 1) y0 y1 y2 y3 y4))
 | 0 => fun _ _ _ _ _ r h => by simp [vec_dot.l0] at h
 | k + 1 => by
  have ih0 := vec_dot.mono_l k
  intros
  unfold vec_dot.l0
  all_goals repeat' first
   | (with_reducible exact ih0 _ _ _ _ _)
   | (with_reducible exact yR _)
   | (with_reducible exact yO _)
   | (with_reducible refine yQ ?_ ?_)
   | (with_reducible refine yP ?_ (fun _ => ?_))
   | exact ih0 _ _ _ _ _
   | exact yO _
   | refine yQ ?_ ?_
   | refine yP ?_ (fun _ => ?_)
theorem vec_dot.mono : ∀ a0 a1 k, LeO (vec_dot.f k a0 a1) (vec_dot.f (k + 1) a0 a1) := by
 intro a0 a1 k
 have ih0 := vec_dot.mono_l k
 unfold vec_dot.f
 repeat' first
   | (with_reducible exact ih0 _ _ _ _ _)
   | (with_reducible exact yR _)
   | (with_reducible exact yO _)
   | (with_reducible refine yQ ?_ ?_)
   | (with_reducible refine yP ?_ (fun _ => ?_))
   | exact ih0 _ _ _ _ _
   | exact yO _
   | refine yQ ?_ ?_
   | refine yP ?_ (fun _ => ?_)
set_option maxHeartbeats 8000000 in
set_option maxRecDepth 100000 in
theorem vec_dot.calls (k : Nat) (A0 : Option Addr) (c0 : Nat) (l0 : List Int) (A1 : Option Addr) (c1 : Nat) (l1 : List Int) (r : Int) (w : World) (hr0 : Kd.C (Kd.int .i8) w A0 l0.length l0) (hc0 : l0.length ≤ c0) (hr1 : Kd.C (Kd.int .i8) w A1 l1.length l1) (hc1 : l1.length ≤ c1) (h : vec_dot.f k l0 l1 = some r) :
  Calls Try.prog 53 #[.slice A0 l0.length c0, .slice A1 l1.length c1] w fun e w' => e = .returned (.int .i64 r) ∧ Drawn0 w w' := by
 have HR0 := zK hr0
 have HC0 := zK hc0
 clear hr0 hc0
 have HR1 := zK hr1
 have HC1 := zK hc1
 clear hr1 hc1
 have H : (vec_dot.l0 k l1 0 l0 (l0.length : Int) 0) = some r := h
 clear h
 have H' := zK H
 clear H
 go_enter Try.func53, Try.ntmps53
 go_wp2
 go_loopg [5, 10] k (fun kq v5 v10 w' => ∃ (x5_1 : Int) (x10_1 : Int), v5 = .int .i64 x5_1 ∧ v10 = .int .i64 x10_1 ∧ Aside0 (vec_dot.l0 kq l1 x5_1 l0 (l0.length : Int) x10_1 = some r) ∧ Aside0 (kq ≤ k) ∧ Drawn0 w w')
 case atStart => exact ⟨(0), (0), (by first | rfl | (simp; done) | (simp [*]; done)), (by first | rfl | (simp; done) | (simp [*]; done)), H', ⟨yN _⟩, by repeat (first | exact Drawn0.refl _ | apply Drawn0.step)⟩
 case round =>
  clear H'
  try clear c1
  try clear p2
  obtain ⟨x5_1, x10_1, rfl, rfl, HA, HK1, ⟨m1, rfl⟩⟩ := hrel
  cases gk with
  | zero => exact absurd HA.out (by simp [vec_dot.l0])
  | succ k1 =>
   have H := HA.out
   clear HA
   simp only [vec_dot.l0] at H
   by_cases c3 : x10_1 < (l0.length : Int)
   ·rw [if_pos c3] at H
    have c3b0 : decide (x10_1 < (l0.length : Int)) = true := yC c3
    clear c3
    by_cases c4 : 0 ≤ x10_1
    ·rw [if_pos c4] at H
     have c4b0 : decide (0 ≤ x10_1) = true := yC c4
     clear c4
     by_cases c5 : x10_1 < (l0.length : Int)
     ·rw [if_pos c5] at H
      have c5b0 : decide (x10_1 < (l0.length : Int)) = true := yC c5
      clear c5
      by_cases c6 : x10_1 < (l1.length : Int)
      ·rw [if_pos c6] at H
       have c6b0 : decide (x10_1 < (l1.length : Int)) = true := yC c6
       clear c6
       have H' := zK H
       clear H
       have p126 : 0 ≤ (x10_1 : Int) := yB (by first | (with_reducible assumption) | assumption)
       have q126 : x10_1 < (l0.length : Int) := yB (by first | (with_reducible assumption) | assumption)
       obtain ⟨ad126, e126, hx126_0⟩ := Kd.at_int HR0.out x10_1 p126 q126
       cases e126
       replace p126 := yg p126
       replace q126 := yg q126
       have p127 : 0 ≤ (x10_1 : Int) := yB (by first | (with_reducible assumption) | assumption)
       have q127 : x10_1 < (l1.length : Int) := yB (by first | (with_reducible assumption) | assumption)
       obtain ⟨ad127, e127, hx127_0⟩ := Kd.at_int HR1.out x10_1 p127 q127
       cases e127
       replace p127 := yg p127
       replace q127 := yg q127
       go_wp2
       go_roundg k1
       case measure => have := HK1.out; omega
       case rel => exact ⟨(wrap64 (x5_1 + (wrap64 ((wrap64 (rd l0 x10_1)) * (wrap64 (rd l1 x10_1)))))), (wrap64 (x10_1 + 1)), (by first | rfl | (simp; done) | (simp [*]; done)), (by first | rfl | (simp; done) | (simp [*]; done)), H', ⟨by have := HK1.out; omega⟩, by repeat (first | exact Drawn0.refl _ | apply Drawn0.step)⟩
      ·rw [if_neg c6] at H
       exact absurd H (by simp)
     ·rw [if_neg c5] at H
      exact absurd H (by simp)
    ·rw [if_neg c4] at H
     exact absurd H (by simp)
   ·rw [if_neg c3] at H
    have c3b0 : decide (x10_1 < (l0.length : Int)) = false := yD c3
    clear c3
    obtain rfl := yY H
    go_wp2
    go_ret
    exact ⟨by first | rfl | (simp; done) | (simp [*]; done), by repeat (first | exact Drawn0.refl _ | apply Drawn0.step)⟩

/-! ### vec_Times: function 31 -/
def dotA (a : Int) : List Int → List Int → Int
 | x :: q, y :: k => dotA (wrap64 (a + wrap64 (wrap64 x * wrap64 y))) q k
 | _, _ => a
def vec_Times.f (l0 : List Int) (a1 : Int) (l2 : List Int) : Option (List Int × Int) :=
 (vec_matrix.f l0 a1).bind fun e => some (if e = 0 then if (l2.length : Int) = a1 then ((List.range (l0.length / l2.length)).map fun j => dotA 0 ((l0.take (j * l2.length + l2.length)).drop (j * l2.length)) l2, 0) else ([], 80) else ([], e))
theorem dot_rounds (q y : List Int) (hl : q.length = y.length) (hs : q.length ≤ 1048576) : ∀ (d i : Nat) (a : Int), q.length - i = d → i ≤ q.length → vec_dot.l0 (d + 1) y a q (q.length : Int) (i : Int) = some (dotA a (q.drop i) (y.drop i))
 | d, i, a, hd, hi => by
  have w1 : wrap64 ((i : Int) + 1) = ((i + 1 : Nat) : Int) := by unfold wrap64; omega
  have rdn : ∀ (l : List Int) (i : Nat), rd l (i : Int) = l.getD i 0 := fun l i => by unfold rd; rw [Int.toNat_natCast]
  have dg : ∀ (l : List Int) (i : Nat), i < l.length → l.drop i = l.getD i 0 :: l.drop (i + 1) := fun l i h => by
   rw [List.drop_eq_getElem_cons h, List.getD_eq_getElem?_getD, List.getElem?_eq_getElem h]
   rfl
  rw [vec_dot.l0]
  by_cases c : i < q.length
  ·obtain ⟨d, rfl⟩ : ∃ e, d = e + 1 := ⟨d - 1, by omega⟩
   rw [if_pos (by omega), if_pos (by omega), if_pos (by omega), if_pos (by omega), dg q i c, dg y i (by omega), dotA, rdn, rdn, w1]
   exact dot_rounds q y hl hs d (i + 1) _ (by omega) (by omega)
  ·rw [if_neg (by omega), List.drop_eq_nil_of_le (by omega), dotA]
   intro _ _ _ _ h
   cases h
theorem dot_some (q y : List Int) (hl : q.length = y.length) (hs : q.length ≤ 1048576) : vec_dot.f (q.length + 1) q y = some (dotA 0 q y) := by
 unfold vec_dot.f
 exact dot_rounds q y hl hs _ 0 0 rfl (Nat.zero_le _)
theorem matrix_0 {l0 : List Int} {a1 : Int} (h : vec_matrix.f l0 a1 = some 0) : l0.length ≤ 1048576 ∧ 1 ≤ a1 ∧ (l0.length : Int) % a1 = 0 := by
 unfold vec_matrix.f at h
 split at h
 ·cases h
 split at h
 ·cases h
 split at h
 ·cases h
 split at h
 ·refine ⟨by omega, by omega, by assumption⟩
 ·cases h
set_option maxHeartbeats 1000000 in
theorem vec_Times.calls (A0 : Option Addr) (c0 : Nat) (l0 : List Int) (a1 : Int) (A2 : Option Addr) (c2 : Nat) (l2 : List Int) (r1 : List Int) (r2 : Int) (w : World) (hr0 : Kd.C (Kd.int .i8) w A0 l0.length l0) (hc0 : l0.length ≤ c0) (hr2 : Kd.C (Kd.int .i8) w A2 l2.length l2) (hc2 : l2.length ≤ c2) (h : vec_Times.f l0 a1 l2 = some (r1, r2)) :
  Calls Try.prog 31 #[.slice A0 l0.length c0, .int .i64 a1, .slice A2 l2.length c2] w fun e w' => ∃ v0_ : Value, e = .returned (.tuple #[v0_, .int .i64 r2]) ∧ Kd.R (Kd.int .i64) 2 w' w.heap.size (fun _ => True) v0_ r1 ∧ Below w.heap.size w w' := by
 obtain ⟨m, hm, h⟩ := yA.1 h
 injection h with h
 have hba : Below w.heap.size w (w.alloc (.cells #[.slice A2 l2.length c2] 23)) := zJ (Below.refl _ w) _
 have hmat : Calls Try.prog 51 #[.slice A0 l0.length c0, .int .i64 a1] (w.alloc (.cells #[.slice A2 l2.length c2] 23)) fun e w' => e = .returned (.int .i64 m) ∧ ∃ j, w' = (w.alloc (.cells #[.slice A2 l2.length c2] 23)).drewN j :=
  (vec_matrix.calls A0 c0 l0 a1 m _ (yc hr0 hba) hc0 hm).mono fun _ _ ⟨h1, h2⟩ => ⟨h1, h2.out⟩
 by_cases c1 : m = 0
 ·subst c1
  rw [if_pos rfl] at h
  by_cases c2_ : (l2.length : Int) = a1
  ·rw [if_pos c2_] at h
   injection h with h1 h2
   subst h1 h2
   obtain ⟨g1, g2, g3⟩ := matrix_0 hm
   subst c2_
   have hn : 1 ≤ l2.length := by omega
   have hmul : l0.length = (l0.length / l2.length) * l2.length := by
    rw [← Int.natCast_emod] at g3
    have := Nat.div_add_mod l0.length l2.length
    rw [Nat.mul_comm] at this
    omega
   have hA : 0 < l0.length → ∃ ad, A0 = some ad := by
    intro hp
    obtain ⟨ad, c, e, _⟩ := Kd.C_get hr0 0 0 (by omega) (by omega)
    exact ⟨ad, e⟩
   refine (callsIn_wide.1 (Go.Proofs.Ytjcfhgpaipbedaa.St.times_in (fun x => dotA 0 ((l0.take (x + l2.length)).drop x) l2) A0 l0.length c0 (l0.length / l2.length) l2.length A2 c2 w hmul hn hc0 g1 hA hmat ?_)).mono ?_
   ·intro W ad x hA0 hx hB
    subst hA0
    have hlen : ((l0.take (x + l2.length)).drop x).length = l2.length := by rw [yG, yF]; omega
    have hrW := yc hr0 hB
    have hrx : Kd.C (Kd.int .i8) W (some (ad.add x)) l2.length ((l0.take (x + l2.length)).drop x) := by
     have hd := (ReadsOf.take_ (d := (0 : Int)) (Kd.reads_of_C hrW) (x + l2.length) (by omega)).drop_ (c := c0) x (by omega) (by omega)
     rw [if_neg (by omega)] at hd
     have e : x + l2.length - x = l2.length := by omega
     rw [e] at hd
     exact Kd.C_of_reads (h1 := fun _ => rfl) hd
    have hcall := vec_dot.calls (((l0.take (x + l2.length)).drop x).length + 1) (some (ad.add x)) l2.length ((l0.take (x + l2.length)).drop x) A2 c2 l2 _ W (by rw [hlen]; exact hrx) (by omega) (yc hr2 hB) hc2 (dot_some _ l2 hlen (by omega))
    rw [hlen] at hcall
    exact hcall.mono fun _ _ ⟨h1, h2⟩ => ⟨h1, h2.out⟩
   ·rintro e w' ⟨v, rfl, hown, hb⟩
    refine ⟨v, rfl, Kd.R_of_own (enc := Value.int .i64) ?_ (fun _ _ => trivial), hb⟩
    have e1 : ((List.range (l0.length / l2.length)).map fun j => dotA 0 ((l0.take (j * l2.length + l2.length)).drop (j * l2.length)) l2).length = l0.length / l2.length := by rw [List.length_map, List.length_range]
    rw [e1]
    unfold Go.Proofs.Ytjcfhgpaipbedaa.St.upto at hown
    have e2 : encs (Value.int .i64) ((List.range (l0.length / l2.length)).map fun j => dotA 0 ((l0.take (j * l2.length + l2.length)).drop (j * l2.length)) l2) = (List.range (l0.length / l2.length)).map fun j => Value.int .i64 (dotA 0 ((l0.take (j * l2.length + l2.length)).drop (j * l2.length)) l2) := by
     show ((List.range (l0.length / l2.length)).map _).map _ = _
     rw [List.map_map]
     rfl
    rw [e2]
    exact hown
  ·rw [if_neg c2_] at h
   injection h with h1 h2
   subst h1 h2
   refine (Go.Proofs.Ytjcfhgpaipbedaa.St.times_long A0 l0.length c0 a1 A2 l2.length c2 w c2_ hmat).mono ?_
   rintro e w' ⟨rfl, hb⟩
   exact ⟨_, rfl, Kd.R_nil _ _ _ _ _, hb⟩
 ·rw [if_neg c1] at h
  injection h with h1 h2
  subst h1 h2
  refine (Go.Proofs.Ytjcfhgpaipbedaa.St.times_wrong A0 l0.length c0 a1 m A2 l2.length c2 w c1 hmat).mono ?_
  rintro e w' ⟨rfl, hb⟩
  exact ⟨_, rfl, Kd.R_nil _ _ _ _ _, hb⟩

end Go.Proofs.Ytjcfhgpaipbedaa.A
