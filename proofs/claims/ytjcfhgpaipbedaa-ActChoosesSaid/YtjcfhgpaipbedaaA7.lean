-- Printed by this session's own driver (wip/tools/xprint.py) over the kit's printer; given functions are this session's own.
import Derived.Test.YtjcfhgpaipbedaaA0
import Derived.Test.YtjcfhgpaipbedaaA4
namespace Go.Proofs.Ytjcfhgpaipbedaa.A
open Go.RowKit Go.Proofs.YtjcfhgpaipbedaaW.PrintWords Go.Proofs.YtjcfhgpaipbedaaW.PrintLast Go.Proofs.YtjcfhgpaipbedaaW.PrintMore
attribute [local go_sem] max2_int min2_int max_two min_two max_three min_three max_four min_four   -- for this text's walks alone
set_option linter.unusedVariables false
set_option linter.unusedSimpArgs false

/-! ### r12_Gate: function 15 -/
mutual
def r12_Gate.j0 : Nat → List Int → List Int → List Int → Bool → Option (List Int × Int)
 | 0, _, _, _, _ => none
 | k + 1, x0, x1, x2, x24 => if x24 = true then (some (([] : List Int), 81)) else (if (x1.length : Int) = (x2.length : Int) then (r12_Gate.l0 k x0 x2 (([] : List Int)) x1 (x1.length : Int) 0) else (some (([] : List Int), 80)))
def r12_Gate.l0 : Nat → List Int → List Int → List Int → List Int → Int → Int → Option (List Int × Int)
 | 0, _, _, _, _, _, _ => none
 | k + 1, x0, x2, x8, x31, x32, x33 => if x33 < x32 then (if 0 ≤ x33 then (if x33 < (x31.length : Int) then (if (wrap64 (rd x31 x33)) < 0 then (if 0 ≤ (wrap64 ((wrap64 (rd x31 x33)) + 256)) then (if (wrap64 ((wrap64 (rd x31 x33)) + 256)) < (x0.length : Int) then (if x33 < (x2.length : Int) then ((r02_Round.f k (wrap64 ((wrap64 (rd x0 (wrap64 ((wrap64 (rd x31 x33)) + 256)))) * (wrap64 (rd x2 x33)))) 6).bind fun bt258 => ((r02_Narrow.f bt258.1).bind fun t260 => (if x8.length < 140737488355328 then (r12_Gate.l0 k x0 x2 (x8 ++ [t260]) x31 x32 (wrap64 (x33 + 1))) else (none)))) else (none)) else (none)) else (none)) else (if 0 ≤ (wrap64 (rd x31 x33)) then (if (wrap64 (rd x31 x33)) < (x0.length : Int) then (if x33 < (x2.length : Int) then ((r02_Round.f k (wrap64 ((wrap64 (rd x0 (wrap64 (rd x31 x33)))) * (wrap64 (rd x2 x33)))) 6).bind fun bt266 => ((r02_Narrow.f bt266.1).bind fun t268 => (if x8.length < 140737488355328 then (r12_Gate.l0 k x0 x2 (x8 ++ [t268]) x31 x32 (wrap64 (x33 + 1))) else (none)))) else (none)) else (none)) else (none))) else (none)) else (none)) else (some (x8, 0))
end
def r12_Gate.f (k : Nat) (l0 : List Int) (l1 : List Int) (l2 : List Int) : Option (List Int × Int) := if (l0.length : Int) = 256 then (if (l1.length : Int) > 1048576 then (r12_Gate.j0 k l0 l1 l2 true) else (r12_Gate.j0 k l0 l1 l2 (decide ((l2.length : Int) > 1048576)))) else (some (([] : List Int), 120))
theorem r12_Gate.mono_l : ∀ k, (∀ y0 y1 y2 y3, LeO (r12_Gate.j0 k y0 y1 y2 y3) (r12_Gate.j0 (k + 1) y0 y1 y2 y3)) ∧ (∀ y0 y1 y2 y3 y4 y5, LeO (r12_Gate.l0 k y0 y1 y2 y3 y4 y5) (r12_Gate.l0 (k + 1) y0 y1 y2 y3 y4 y5))
 | 0 => ⟨fun _ _ _ _ r h => by simp [r12_Gate.j0] at h, fun _ _ _ _ _ _ r h => by simp [r12_Gate.l0] at h⟩
 | k + 1 => by
  obtain ⟨ih0, ih1⟩ := r12_Gate.mono_l k
  refine ⟨?_, ?_⟩ <;> (intros; first | unfold r12_Gate.j0 | unfold r12_Gate.l0)
  all_goals repeat' first
   | (with_reducible exact ih0 _ _ _ _)
   | (with_reducible exact ih1 _ _ _ _ _ _)
   | (with_reducible exact r02_Round.mono _ _ _)
   | (with_reducible exact yR _)
   | (with_reducible exact yO _)
   | (with_reducible refine yQ ?_ ?_)
   | (with_reducible refine yP ?_ (fun _ => ?_))
   | exact ih0 _ _ _ _
   | exact ih1 _ _ _ _ _ _
   | exact r02_Round.mono _ _ _
   | exact yO _
   | refine yQ ?_ ?_
   | refine yP ?_ (fun _ => ?_)
theorem r12_Gate.mono : ∀ a0 a1 a2 k, LeO (r12_Gate.f k a0 a1 a2) (r12_Gate.f (k + 1) a0 a1 a2) := by
 intro a0 a1 a2 k
 obtain ⟨ih0, ih1⟩ := r12_Gate.mono_l k
 unfold r12_Gate.f
 repeat' first
   | (with_reducible exact ih0 _ _ _ _)
   | (with_reducible exact ih1 _ _ _ _ _ _)
   | (with_reducible exact r02_Round.mono _ _ _)
   | (with_reducible exact yR _)
   | (with_reducible exact yO _)
   | (with_reducible refine yQ ?_ ?_)
   | (with_reducible refine yP ?_ (fun _ => ?_))
   | exact ih0 _ _ _ _
   | exact ih1 _ _ _ _ _ _
   | exact r02_Round.mono _ _ _
   | exact yO _
   | refine yQ ?_ ?_
   | refine yP ?_ (fun _ => ?_)
set_option maxHeartbeats 8000000 in
set_option maxRecDepth 100000 in
theorem r12_Gate.calls (k : Nat) (A0 : Option Addr) (c0 : Nat) (l0 : List Int) (A1 : Option Addr) (c1 : Nat) (l1 : List Int) (A2 : Option Addr) (c2 : Nat) (l2 : List Int) (r1 : List Int) (r2 : Int) (w : World) (hr0 : Kd.C (Kd.int .i8) w A0 l0.length l0) (hc0 : l0.length ≤ c0) (hr1 : Kd.C (Kd.int .i8) w A1 l1.length l1) (hc1 : l1.length ≤ c1) (hr2 : Kd.C (Kd.int .i8) w A2 l2.length l2) (hc2 : l2.length ≤ c2) (h : r12_Gate.f k l0 l1 l2 = some (r1, r2)) :
  Calls Try.prog 15 #[.slice A0 l0.length c0, .slice A1 l1.length c1, .slice A2 l2.length c2] w fun e w' => ∃ v0_ : Value, e = .returned (.tuple #[v0_, .int .i64 r2]) ∧ Kd.R (Kd.int .i8) 30 w' w.heap.size (fun _ => True) v0_ r1 ∧ Below w.heap.size w w' := by
 have HR0 := zK hr0
 have HC0 := zK hc0
 clear hr0 hc0
 have HR1 := zK hr1
 have HC1 := zK hc1
 clear hr1 hc1
 have HR2 := zK hr2
 have HC2 := zK hc2
 clear hr2 hc2
 have HB := zK (Below.refl w.heap.size w)
 have H : (if (l0.length : Int) = 256 then (if (l1.length : Int) > 1048576 then (r12_Gate.j0 k l0 l1 l2 true) else (r12_Gate.j0 k l0 l1 l2 (decide ((l2.length : Int) > 1048576)))) else (some (([] : List Int), 120))) = some (r1, r2) := h
 clear h
 by_cases c4 : (l0.length : Int) = 256
 ·rw [if_pos c4] at H
  have c4b0 : ((l0.length : Int) == 256) = true := beq_iff_eq.mpr c4
  have c4b1 : ((l0.length : Int) != 256) = false := bne_eq_false_iff_eq.mpr c4
  clear c4
  have HC5 := zK H
  clear H
  go_enter Try.func15, Try.ntmps15
  go_upto_region 3 with (fail)
  repeat (go_quiet (fail); go_upto_region 3 with (fail))
  go_cut [24] (fun v24 wc => ∃ (kq : Nat) (x24_4 : Bool), v24 = .bool x24_4 ∧ Aside0 (r12_Gate.j0 kq l0 l1 l2 x24_4 = some (r1, r2)) ∧ Aside0 (kq ≤ k) ∧ Aside0 (Below w.heap.size w wc))
  case first =>
   have H := HC5.out
   clear HC5
   by_cases c6 : (l1.length : Int) > 1048576
   ·rw [if_pos c6] at H
    have c6b0 : decide (1048576 < (l1.length : Int)) = true := yC c6
    have c6b1 : decide (1048576 < l1.length) = true := yC (by omega)
    clear c6
    (first | rw [c6b0] | (simp only [i64_w, i32_w]; rw [c6b0]) | skip)
    have H' := zK H
    clear H
    go_wp2
    repeat (go_quiet (fail); try go_wp2)
    go_meet
    case rel => exact ⟨_, (true), (by first | rfl | (simp; done) | (simp [*]; done)), H', ⟨by first | omega | exact yN _⟩, ⟨by repeat (first | (with_reducible first | exact HB.out | apply zJ | apply zD | apply zE) | exact HB.out)⟩⟩
   ·rw [if_neg c6] at H
    have c6b0 : decide (1048576 < (l1.length : Int)) = false := yD c6
    have c6b1 : decide (1048576 < l1.length) = false := yD (by omega)
    clear c6
    (first | rw [c6b0] | (simp only [i64_w, i32_w]; rw [c6b0]) | skip)
    have H' := zK H
    clear H
    go_wp2
    repeat (go_quiet (fail); try go_wp2)
    go_meet
    case rel => exact ⟨_, (decide ((l2.length : Int) > 1048576)), (by first | rfl | (simp; done) | (simp [*]; done)), H', ⟨by first | omega | exact yN _⟩, ⟨by repeat (first | (with_reducible first | exact HB.out | apply zJ | apply zD | apply zE) | exact HB.out)⟩⟩
  case rest =>
   clear HC5
   try clear c1
   try clear c2
   try clear p2
   try clear c4
   try clear c4b0
   try clear c4b1
   try clear c6
   try clear c6b0
   try clear c6b1
   obtain ⟨kq, x24_4, rfl, HA, HJ4, HB⟩ := hcut
   cases kq with
   | zero => exact absurd HA.out (by simp [r12_Gate.j0])
   | succ kj4 =>
    have H := HA.out
    clear HA
    simp only [r12_Gate.j0] at H
    by_cases c7 : x24_4 = true
    ·subst c7
     have H1 : (some (([] : List Int), 81)) = some (r1, r2) := by rw [if_pos rfl] at H; exact H
     clear H
     have H := H1
     clear H1
     simp only [yZ, ya] at H
     obtain ⟨rfl, rfl⟩ := H
     go_wp2
     repeat (go_quiet (fail); try go_wp2)
     go_ret2
     exact ⟨_, by first | rfl | (simp [errW_none, errW_some] <;> rfl) | (simp [*, errW_none, errW_some] <;> rfl), by first | exact Kd.R_nil _ _ _ _ _ | exact Kd.N_nil _ _ _ _ _ | exact Kd.V_nil _ _ _ _ _ | exact Kd.Q_nil _ _ _ _ _ | exact Kd.S_nil _ _ _ _ _, by repeat (first | (with_reducible first | exact HB.out | apply zJ | apply zD | apply zE) | exact HB.out)⟩
    ·replace c7 := yh.mpr c7
     subst c7
     have H1 : (if (l1.length : Int) = (l2.length : Int) then (r12_Gate.l0 kj4 l0 l2 (([] : List Int)) l1 (l1.length : Int) 0) else (some (([] : List Int), 80))) = some (r1, r2) := by rw [if_neg (show ¬ (false = true) by decide)] at H; exact H
     clear H
     have H := H1
     clear H1
     by_cases c8 : (l1.length : Int) = (l2.length : Int)
     ·rw [if_pos c8] at H
      have c8b0 : ((l1.length : Int) == (l2.length : Int)) = true := beq_iff_eq.mpr c8
      have c8b1 : ((l1.length : Int) != (l2.length : Int)) = false := bne_eq_false_iff_eq.mpr c8
      have c8b2 : (l1.length == l2.length) = true := by first | simpa using c8 | (simp at c8 ⊢; omega)
      clear c8
      obtain ⟨y252, hy252⟩ : ∃ y_ : List Int, y_ = (([] : List Int)) := ⟨_, rfl⟩
      replace H : (r12_Gate.l0 kj4 l0 l2 y252 l1 (l1.length : Int) 0) = some (r1, r2) := by first | (rw [hy252]; with_reducible exact H) | (have H2_ := (yV _ _).symm.trans H; rw [hy252]; with_reducible exact H2_) | (have H2_ := (yV _ _).symm.trans H; with_reducible exact H2_) | with_reducible exact H | (rw [hy252]; exact H) | exact H
      have Ny252 := zK hy252
      clear hy252
      have H' := zK H
      clear H
      go_wp2_with (first | ((with_reducible refine gate_dst (N := 30) rfl ?_); refine Kd.R_lit (Kd.int .i8) _ 30 ?hg (N := 30) ?hd (xs := ([] : List Int)) (inner := []) (ok := fun _ => True) (okp := fun _ => True) ?hr ?hp (fun _ hk => hk) trivial (Below.refl _ _) (yN _) (by simp) ?_; (case hd => rfl); (case hg => rfl); (case hr => first | (go_simp; done) | (go_simp; rfl)); (case hp => exact (Reps.none _ _)); intro v253 w9 ho10 hb hg_ hnew_; clear hg_ hnew_; (first | rw [← Ny252.out] at ho10 | (simp only [Int.reduceToNat] at ho10; rw [← Ny252.out] at ho10)); have n0_ := zK (Kd.R_lower ho10 (yK (by repeat (first | (with_reducible first | exact HB.out | apply zJ | apply zD | apply zE) | exact HB.out)))); have n1_ := zK (yL (by repeat (first | (with_reducible first | exact HB.out | apply zJ | apply zD | apply zE) | exact HB.out)) hb); clear HB; have HO254 := n0_; have HB := n1_; clear n0_ n1_ hb ho10))
      repeat (go_quiet (first | ((with_reducible refine gate_dst (N := 30) rfl ?_); refine Kd.R_lit (Kd.int .i8) _ 30 ?hg (N := 30) ?hd (xs := ([] : List Int)) (inner := []) (ok := fun _ => True) (okp := fun _ => True) ?hr ?hp (fun _ hk => hk) trivial (Below.refl _ _) (yN _) (by simp) ?_; (case hd => rfl); (case hg => rfl); (case hr => first | (go_simp; done) | (go_simp; rfl)); (case hp => exact (Reps.none _ _)); intro v253 w9 ho10 hb hg_ hnew_; clear hg_ hnew_; (first | rw [← Ny252.out] at ho10 | (simp only [Int.reduceToNat] at ho10; rw [← Ny252.out] at ho10)); have n0_ := zK (Kd.R_lower ho10 (yK (by repeat (first | (with_reducible first | exact HB.out | apply zJ | apply zD | apply zE) | exact HB.out)))); have n1_ := zK (yL (by repeat (first | (with_reducible first | exact HB.out | apply zJ | apply zD | apply zE) | exact HB.out)) hb); clear HB; have HO254 := n0_; have HB := n1_; clear n0_ n1_ hb ho10)); try go_wp2_with (first | ((with_reducible refine gate_dst (N := 30) rfl ?_); refine Kd.R_lit (Kd.int .i8) _ 30 ?hg (N := 30) ?hd (xs := ([] : List Int)) (inner := []) (ok := fun _ => True) (okp := fun _ => True) ?hr ?hp (fun _ hk => hk) trivial (Below.refl _ _) (yN _) (by simp) ?_; (case hd => rfl); (case hg => rfl); (case hr => first | (go_simp; done) | (go_simp; rfl)); (case hp => exact (Reps.none _ _)); intro v253 w9 ho10 hb hg_ hnew_; clear hg_ hnew_; (first | rw [← Ny252.out] at ho10 | (simp only [Int.reduceToNat] at ho10; rw [← Ny252.out] at ho10)); have n0_ := zK (Kd.R_lower ho10 (yK (by repeat (first | (with_reducible first | exact HB.out | apply zJ | apply zD | apply zE) | exact HB.out)))); have n1_ := zK (yL (by repeat (first | (with_reducible first | exact HB.out | apply zJ | apply zD | apply zE) | exact HB.out)) hb); clear HB; have HO254 := n0_; have HB := n1_; clear n0_ n1_ hb ho10)))
      go_loopg [8, 33] kj4 (fun kq v8 v33 w' => ∃ (x8_2 : List Int) (x33_2 : Int), v33 = .int .i64 x33_2 ∧ Aside0 (r12_Gate.l0 kq l0 l2 x8_2 l1 (l1.length : Int) x33_2 = some (r1, r2)) ∧ Aside0 (kq ≤ kj4) ∧ Aside0 (Kd.R (Kd.int .i8) 30 w' w.heap.size (fun _ => True) v8 x8_2) ∧ Aside0 (Below w.heap.size w w'))
      case atStart => exact ⟨(y252), (0), (by first | rfl | (simp; done) | (simp [*]; done)), H', ⟨yN _⟩, ⟨by (with_reducible repeat (first | apply zL | apply zM | apply zN)); exact HO254.out⟩, ⟨by repeat (first | (with_reducible first | exact HB.out | apply zJ | apply zD | apply zE) | exact HB.out)⟩⟩
      case round =>
       clear H'
       try clear c1
       try clear c2
       try clear p2
       try clear c4
       try clear c4b0
       try clear c4b1
       try clear c6
       try clear c6b0
       try clear c6b1
       try clear c7
       try clear c8
       try clear c8b0
       try clear c8b1
       try clear c8b2
       try clear p2
       obtain ⟨x8_2, x33_2, rfl, HA, HK2, HO_8, HB⟩ := hrel
       cases gk with
       | zero => exact absurd HA.out (by simp [r12_Gate.l0])
       | succ k2 =>
        have H := HA.out
        clear HA
        simp only [r12_Gate.l0] at H
        by_cases c11 : x33_2 < (l1.length : Int)
        ·rw [if_pos c11] at H
         have c11b0 : decide (x33_2 < (l1.length : Int)) = true := yC c11
         clear c11
         by_cases c12 : 0 ≤ x33_2
         ·rw [if_pos c12] at H
          have c12b0 : decide (0 ≤ x33_2) = true := yC c12
          clear c12
          by_cases c13 : x33_2 < (l1.length : Int)
          ·rw [if_pos c13] at H
           have c13b0 : decide (x33_2 < (l1.length : Int)) = true := yC c13
           clear c13
           by_cases c14 : (wrap64 (rd l1 x33_2)) < 0
           ·rw [if_pos c14] at H
            have c14b0 : decide ((wrap64 (rd l1 x33_2)) < 0) = true := yC c14
            clear c14
            obtain ⟨ji15, hji15⟩ : ∃ j_ : Int, (wrap64 ((wrap64 (rd l1 x33_2)) + 256)) = j_ := ⟨_, rfl⟩
            replace H : (if 0 ≤ (ji15) then (if (ji15) < (l0.length : Int) then (if x33_2 < (l2.length : Int) then ((r02_Round.f k2 (wrap64 ((wrap64 (rd l0 (ji15))) * (wrap64 (rd l2 x33_2)))) 6).bind fun bt258 => ((r02_Narrow.f bt258.1).bind fun t260 => (if x8_2.length < 140737488355328 then (r12_Gate.l0 k2 l0 l2 (x8_2 ++ [t260]) l1 (l1.length : Int) (wrap64 (x33_2 + 1))) else (none)))) else (none)) else (none)) else (none)) = some (r1, r2) := by first | (rw [hji15] at H; exact H) | (simp only [hji15] at H ⊢; exact H)
            have hji15w : (IntKind.i64.wrap ((wrap64 (rd l1 x33_2)) + 256)) = ji15 := (i64_w _).trans hji15
            by_cases c16 : 0 ≤ (ji15)
            ·rw [if_pos c16] at H
             have c16b0 : decide (0 ≤ (ji15)) = true := yC c16
             clear c16
             by_cases c17 : (ji15) < (l0.length : Int)
             ·rw [if_pos c17] at H
              have c17b0 : decide ((ji15) < (l0.length : Int)) = true := yC c17
              clear c17
              by_cases c18 : x33_2 < (l2.length : Int)
              ·rw [if_pos c18] at H
               have c18b0 : decide (x33_2 < (l2.length : Int)) = true := yC c18
               clear c18
               replace H := yA.mp H
               obtain ⟨⟨t258, t259⟩, A190, H⟩ := H
               replace H : ((r02_Narrow.f t258).bind fun t260 => (if x8_2.length < 140737488355328 then (r12_Gate.l0 k2 l0 l2 (x8_2 ++ [t260]) l1 (l1.length : Int) (wrap64 (x33_2 + 1))) else (none))) = some (r1, r2) := H
               have A19 := zK A190
               clear A190
               replace H := yA.mp H
               obtain ⟨t260, A200, H⟩ := H
               replace H : (if x8_2.length < 140737488355328 then (r12_Gate.l0 k2 l0 l2 (x8_2 ++ [t260]) l1 (l1.length : Int) (wrap64 (x33_2 + 1))) else (none)) = some (r1, r2) := H
               have A20 := zK A200
               clear A200
               by_cases c21 : x8_2.length < 140737488355328
               ·rw [if_pos c21] at H
                have LMc21 := zK c21
                clear c21
                obtain ⟨y261, hy261⟩ : ∃ y_ : List Int, y_ = (x8_2 ++ [t260]) := ⟨_, rfl⟩
                replace H : (r12_Gate.l0 k2 l0 l2 y261 l1 (l1.length : Int) (wrap64 (x33_2 + 1))) = some (r1, r2) := by first | (rw [hy261]; with_reducible exact H) | (have H2_ := (yV _ _).symm.trans H; rw [hy261]; with_reducible exact H2_) | (have H2_ := (yV _ _).symm.trans H; with_reducible exact H2_) | with_reducible exact H | (rw [hy261]; exact H) | exact H
                have Ny261 := zK hy261
                clear hy261
                have H' := zK H
                clear H
                have p255 : 0 ≤ (x33_2 : Int) := yB (by first | (with_reducible assumption) | assumption)
                have q255 : x33_2 < (l1.length : Int) := yB (by first | (with_reducible assumption) | assumption)
                obtain ⟨ad255, e255, hx255_0⟩ := Kd.at_int HR1.out x33_2 p255 q255
                cases e255
                replace hx255_0 := (HB.out.cell (World.block_lt_of_cell? w _ hx255_0)).trans hx255_0
                replace p255 := yg p255
                replace q255 := yg q255
                have p256 : 0 ≤ ((ji15) : Int) := yB (by first | (with_reducible assumption) | assumption)
                have q256 : (ji15) < (l0.length : Int) := yB (by first | (with_reducible assumption) | assumption)
                obtain ⟨ad256, e256, hx256_0⟩ := Kd.at_int HR0.out (ji15) p256 q256
                cases e256
                replace hx256_0 := (HB.out.cell (World.block_lt_of_cell? w _ hx256_0)).trans hx256_0
                replace p256 := yg p256
                replace q256 := yg q256
                have p257 : 0 ≤ (x33_2 : Int) := yB (by first | (with_reducible assumption) | assumption)
                have q257 : x33_2 < (l2.length : Int) := yB (by first | (with_reducible assumption) | assumption)
                obtain ⟨ad257, e257, hx257_0⟩ := Kd.at_int HR2.out x33_2 p257 q257
                cases e257
                replace hx257_0 := (HB.out.cell (World.block_lt_of_cell? w _ hx257_0)).trans hx257_0
                replace p257 := yg p257
                replace q257 := yg q257
                go_wp2_with (first | (go_at_call 28; (with_reducible refine (r02_Round.calls k2 (wrap64 ((wrap64 (rd l0 (ji15))) * (wrap64 (rd l2 x33_2)))) 6 t258 t259 _ A19.out).mono ?_); rintro e w' ⟨rfl, ⟨nd, rfl⟩⟩; (try first | exact ⟨rfl, _, World.drewN_drewN _ _ _⟩ | exact ⟨rfl, _, Eq.trans (World.drewN_drewN _ _ _) (congrArg (World.drewN _) (Nat.add_assoc _ _ _))⟩)) | (go_at_call 29; (with_reducible refine (r02_Narrow.calls t258 t260 _ A20.out).mono ?_); rintro e w' ⟨rfl, ⟨nd, rfl⟩⟩; (try first | exact ⟨rfl, _, World.drewN_drewN _ _ _⟩ | exact ⟨rfl, _, Eq.trans (World.drewN_drewN _ _ _) (congrArg (World.drewN _) (Nat.add_assoc _ _ _))⟩)) | ((with_reducible refine gate_builtin (b := .append) (xs := #[.tmp 59, .tmp 62]) rfl ?_); at_builtin; refine Kd.R_append (Kd.int .i8) (w0 := w) w.heap.size rfl (.tmp 59) (.tmp 62) 23 30 (.int .i8 0) 1 rfl Try.underlying23 info30 rfl (by decide) (by omega) u8 x8_2 t260 [.int .i8 t260] (fun _ => True) (fun _ => False) rfl rfl ?aP (fun _ hk => hk.elim) ?aF ?aO ?aB ?aS ?aL ?_; (case aP => exact rfl); (case aB => exact (by repeat (first | (with_reducible first | exact HB.out | apply zJ | apply zD | apply zE) | exact HB.out))); (case aF => exact (fun _ _ => trivial)); (case aO => exact (by (with_reducible repeat (first | apply zL | apply zM | apply zN)); exact HO_8.out)); (case aS => exact (yK (by repeat (first | (with_reducible first | exact HB.out | apply zJ | apply zD | apply zE) | exact HB.out)))); (case aL => have := LMc21.out; omega); intro v262 w22 ho hb hg hat; rw [← Ny261.out] at ho; have n0_ := zK (hb); have n1_ := zK (ho); clear HB HO_8; have HB := n0_; have HO263 := n1_; clear n0_ n1_ ho hb hg hat))
                repeat (go_quiet (first | (go_at_call 28; (with_reducible refine (r02_Round.calls k2 (wrap64 ((wrap64 (rd l0 (ji15))) * (wrap64 (rd l2 x33_2)))) 6 t258 t259 _ A19.out).mono ?_); rintro e w' ⟨rfl, ⟨nd, rfl⟩⟩; (try first | exact ⟨rfl, _, World.drewN_drewN _ _ _⟩ | exact ⟨rfl, _, Eq.trans (World.drewN_drewN _ _ _) (congrArg (World.drewN _) (Nat.add_assoc _ _ _))⟩)) | (go_at_call 29; (with_reducible refine (r02_Narrow.calls t258 t260 _ A20.out).mono ?_); rintro e w' ⟨rfl, ⟨nd, rfl⟩⟩; (try first | exact ⟨rfl, _, World.drewN_drewN _ _ _⟩ | exact ⟨rfl, _, Eq.trans (World.drewN_drewN _ _ _) (congrArg (World.drewN _) (Nat.add_assoc _ _ _))⟩)) | ((with_reducible refine gate_builtin (b := .append) (xs := #[.tmp 59, .tmp 62]) rfl ?_); at_builtin; refine Kd.R_append (Kd.int .i8) (w0 := w) w.heap.size rfl (.tmp 59) (.tmp 62) 23 30 (.int .i8 0) 1 rfl Try.underlying23 info30 rfl (by decide) (by omega) u8 x8_2 t260 [.int .i8 t260] (fun _ => True) (fun _ => False) rfl rfl ?aP (fun _ hk => hk.elim) ?aF ?aO ?aB ?aS ?aL ?_; (case aP => exact rfl); (case aB => exact (by repeat (first | (with_reducible first | exact HB.out | apply zJ | apply zD | apply zE) | exact HB.out))); (case aF => exact (fun _ _ => trivial)); (case aO => exact (by (with_reducible repeat (first | apply zL | apply zM | apply zN)); exact HO_8.out)); (case aS => exact (yK (by repeat (first | (with_reducible first | exact HB.out | apply zJ | apply zD | apply zE) | exact HB.out)))); (case aL => have := LMc21.out; omega); intro v262 w22 ho hb hg hat; rw [← Ny261.out] at ho; have n0_ := zK (hb); have n1_ := zK (ho); clear HB HO_8; have HB := n0_; have HO263 := n1_; clear n0_ n1_ ho hb hg hat)); try go_wp2_with (first | (go_at_call 28; (with_reducible refine (r02_Round.calls k2 (wrap64 ((wrap64 (rd l0 (ji15))) * (wrap64 (rd l2 x33_2)))) 6 t258 t259 _ A19.out).mono ?_); rintro e w' ⟨rfl, ⟨nd, rfl⟩⟩; (try first | exact ⟨rfl, _, World.drewN_drewN _ _ _⟩ | exact ⟨rfl, _, Eq.trans (World.drewN_drewN _ _ _) (congrArg (World.drewN _) (Nat.add_assoc _ _ _))⟩)) | (go_at_call 29; (with_reducible refine (r02_Narrow.calls t258 t260 _ A20.out).mono ?_); rintro e w' ⟨rfl, ⟨nd, rfl⟩⟩; (try first | exact ⟨rfl, _, World.drewN_drewN _ _ _⟩ | exact ⟨rfl, _, Eq.trans (World.drewN_drewN _ _ _) (congrArg (World.drewN _) (Nat.add_assoc _ _ _))⟩)) | ((with_reducible refine gate_builtin (b := .append) (xs := #[.tmp 59, .tmp 62]) rfl ?_); at_builtin; refine Kd.R_append (Kd.int .i8) (w0 := w) w.heap.size rfl (.tmp 59) (.tmp 62) 23 30 (.int .i8 0) 1 rfl Try.underlying23 info30 rfl (by decide) (by omega) u8 x8_2 t260 [.int .i8 t260] (fun _ => True) (fun _ => False) rfl rfl ?aP (fun _ hk => hk.elim) ?aF ?aO ?aB ?aS ?aL ?_; (case aP => exact rfl); (case aB => exact (by repeat (first | (with_reducible first | exact HB.out | apply zJ | apply zD | apply zE) | exact HB.out))); (case aF => exact (fun _ _ => trivial)); (case aO => exact (by (with_reducible repeat (first | apply zL | apply zM | apply zN)); exact HO_8.out)); (case aS => exact (yK (by repeat (first | (with_reducible first | exact HB.out | apply zJ | apply zD | apply zE) | exact HB.out)))); (case aL => have := LMc21.out; omega); intro v262 w22 ho hb hg hat; rw [← Ny261.out] at ho; have n0_ := zK (hb); have n1_ := zK (ho); clear HB HO_8; have HB := n0_; have HO263 := n1_; clear n0_ n1_ ho hb hg hat)))
                go_roundg k2
                case measure => have := HJ4.out; have := HK2.out; omega
                case rel => exact ⟨(y261), (wrap64 (x33_2 + 1)), (by first | rfl | (simp; done) | (simp [*]; done)), H', ⟨by have := HJ4.out; have := HK2.out; omega⟩, ⟨by (with_reducible repeat (first | apply zL | apply zM | apply zN)); exact HO263.out⟩, ⟨by repeat (first | (with_reducible first | exact HB.out | apply zJ | apply zD | apply zE) | exact HB.out)⟩⟩
               ·rw [if_neg c21] at H
                exact absurd H (by simp)
              ·rw [if_neg c18] at H
               exact absurd H (by simp)
             ·rw [if_neg c17] at H
              exact absurd H (by simp)
            ·rw [if_neg c16] at H
             exact absurd H (by simp)
           ·rw [if_neg c14] at H
            have c14b0 : decide ((wrap64 (rd l1 x33_2)) < 0) = false := yD c14
            clear c14
            obtain ⟨ji23, hji23⟩ : ∃ j_ : Int, (wrap64 (rd l1 x33_2)) = j_ := ⟨_, rfl⟩
            replace H : (if 0 ≤ (ji23) then (if (ji23) < (l0.length : Int) then (if x33_2 < (l2.length : Int) then ((r02_Round.f k2 (wrap64 ((wrap64 (rd l0 (ji23))) * (wrap64 (rd l2 x33_2)))) 6).bind fun bt266 => ((r02_Narrow.f bt266.1).bind fun t268 => (if x8_2.length < 140737488355328 then (r12_Gate.l0 k2 l0 l2 (x8_2 ++ [t268]) l1 (l1.length : Int) (wrap64 (x33_2 + 1))) else (none)))) else (none)) else (none)) else (none)) = some (r1, r2) := by first | (rw [hji23] at H; exact H) | (simp only [hji23] at H ⊢; exact H)
            (try rw [hji23] at c14b0)
            have hji23w : (IntKind.i64.wrap (rd l1 x33_2)) = ji23 := (i64_w _).trans hji23
            by_cases c24 : 0 ≤ (ji23)
            ·rw [if_pos c24] at H
             have c24b0 : decide (0 ≤ (ji23)) = true := yC c24
             clear c24
             by_cases c25 : (ji23) < (l0.length : Int)
             ·rw [if_pos c25] at H
              have c25b0 : decide ((ji23) < (l0.length : Int)) = true := yC c25
              clear c25
              by_cases c26 : x33_2 < (l2.length : Int)
              ·rw [if_pos c26] at H
               have c26b0 : decide (x33_2 < (l2.length : Int)) = true := yC c26
               clear c26
               replace H := yA.mp H
               obtain ⟨⟨t266, t267⟩, A270, H⟩ := H
               replace H : ((r02_Narrow.f t266).bind fun t268 => (if x8_2.length < 140737488355328 then (r12_Gate.l0 k2 l0 l2 (x8_2 ++ [t268]) l1 (l1.length : Int) (wrap64 (x33_2 + 1))) else (none))) = some (r1, r2) := H
               have A27 := zK A270
               clear A270
               replace H := yA.mp H
               obtain ⟨t268, A280, H⟩ := H
               replace H : (if x8_2.length < 140737488355328 then (r12_Gate.l0 k2 l0 l2 (x8_2 ++ [t268]) l1 (l1.length : Int) (wrap64 (x33_2 + 1))) else (none)) = some (r1, r2) := H
               have A28 := zK A280
               clear A280
               by_cases c29 : x8_2.length < 140737488355328
               ·rw [if_pos c29] at H
                have LMc29 := zK c29
                clear c29
                obtain ⟨y269, hy269⟩ : ∃ y_ : List Int, y_ = (x8_2 ++ [t268]) := ⟨_, rfl⟩
                replace H : (r12_Gate.l0 k2 l0 l2 y269 l1 (l1.length : Int) (wrap64 (x33_2 + 1))) = some (r1, r2) := by first | (rw [hy269]; with_reducible exact H) | (have H2_ := (yV _ _).symm.trans H; rw [hy269]; with_reducible exact H2_) | (have H2_ := (yV _ _).symm.trans H; with_reducible exact H2_) | with_reducible exact H | (rw [hy269]; exact H) | exact H
                have Ny269 := zK hy269
                clear hy269
                have H' := zK H
                clear H
                have p255 : 0 ≤ (x33_2 : Int) := yB (by first | (with_reducible assumption) | assumption)
                have q255 : x33_2 < (l1.length : Int) := yB (by first | (with_reducible assumption) | assumption)
                obtain ⟨ad255, e255, hx255_0⟩ := Kd.at_int HR1.out x33_2 p255 q255
                cases e255
                replace hx255_0 := (HB.out.cell (World.block_lt_of_cell? w _ hx255_0)).trans hx255_0
                replace p255 := yg p255
                replace q255 := yg q255
                have p264 : 0 ≤ ((ji23) : Int) := yB (by first | (with_reducible assumption) | assumption)
                have q264 : (ji23) < (l0.length : Int) := yB (by first | (with_reducible assumption) | assumption)
                obtain ⟨ad264, e264, hx264_0⟩ := Kd.at_int HR0.out (ji23) p264 q264
                cases e264
                replace hx264_0 := (HB.out.cell (World.block_lt_of_cell? w _ hx264_0)).trans hx264_0
                replace p264 := yg p264
                replace q264 := yg q264
                have p265 : 0 ≤ (x33_2 : Int) := yB (by first | (with_reducible assumption) | assumption)
                have q265 : x33_2 < (l2.length : Int) := yB (by first | (with_reducible assumption) | assumption)
                obtain ⟨ad265, e265, hx265_0⟩ := Kd.at_int HR2.out x33_2 p265 q265
                cases e265
                replace hx265_0 := (HB.out.cell (World.block_lt_of_cell? w _ hx265_0)).trans hx265_0
                replace p265 := yg p265
                replace q265 := yg q265
                go_wp2_with (first | (go_at_call 28; (with_reducible refine (r02_Round.calls k2 (wrap64 ((wrap64 (rd l0 (ji23))) * (wrap64 (rd l2 x33_2)))) 6 t266 t267 _ A27.out).mono ?_); rintro e w' ⟨rfl, ⟨nd, rfl⟩⟩; (try first | exact ⟨rfl, _, World.drewN_drewN _ _ _⟩ | exact ⟨rfl, _, Eq.trans (World.drewN_drewN _ _ _) (congrArg (World.drewN _) (Nat.add_assoc _ _ _))⟩)) | (go_at_call 29; (with_reducible refine (r02_Narrow.calls t266 t268 _ A28.out).mono ?_); rintro e w' ⟨rfl, ⟨nd, rfl⟩⟩; (try first | exact ⟨rfl, _, World.drewN_drewN _ _ _⟩ | exact ⟨rfl, _, Eq.trans (World.drewN_drewN _ _ _) (congrArg (World.drewN _) (Nat.add_assoc _ _ _))⟩)) | ((with_reducible refine gate_builtin (b := .append) (xs := #[.tmp 59, .tmp 62]) rfl ?_); at_builtin; refine Kd.R_append (Kd.int .i8) (w0 := w) w.heap.size rfl (.tmp 59) (.tmp 62) 23 30 (.int .i8 0) 1 rfl Try.underlying23 info30 rfl (by decide) (by omega) u8 x8_2 t268 [.int .i8 t268] (fun _ => True) (fun _ => False) rfl rfl ?aP (fun _ hk => hk.elim) ?aF ?aO ?aB ?aS ?aL ?_; (case aP => exact rfl); (case aB => exact (by repeat (first | (with_reducible first | exact HB.out | apply zJ | apply zD | apply zE) | exact HB.out))); (case aF => exact (fun _ _ => trivial)); (case aO => exact (by (with_reducible repeat (first | apply zL | apply zM | apply zN)); exact HO_8.out)); (case aS => exact (yK (by repeat (first | (with_reducible first | exact HB.out | apply zJ | apply zD | apply zE) | exact HB.out)))); (case aL => have := LMc29.out; omega); intro v270 w30 ho hb hg hat; rw [← Ny269.out] at ho; have n0_ := zK (hb); have n1_ := zK (ho); clear HB HO_8; have HB := n0_; have HO271 := n1_; clear n0_ n1_ ho hb hg hat))
                repeat (go_quiet (first | (go_at_call 28; (with_reducible refine (r02_Round.calls k2 (wrap64 ((wrap64 (rd l0 (ji23))) * (wrap64 (rd l2 x33_2)))) 6 t266 t267 _ A27.out).mono ?_); rintro e w' ⟨rfl, ⟨nd, rfl⟩⟩; (try first | exact ⟨rfl, _, World.drewN_drewN _ _ _⟩ | exact ⟨rfl, _, Eq.trans (World.drewN_drewN _ _ _) (congrArg (World.drewN _) (Nat.add_assoc _ _ _))⟩)) | (go_at_call 29; (with_reducible refine (r02_Narrow.calls t266 t268 _ A28.out).mono ?_); rintro e w' ⟨rfl, ⟨nd, rfl⟩⟩; (try first | exact ⟨rfl, _, World.drewN_drewN _ _ _⟩ | exact ⟨rfl, _, Eq.trans (World.drewN_drewN _ _ _) (congrArg (World.drewN _) (Nat.add_assoc _ _ _))⟩)) | ((with_reducible refine gate_builtin (b := .append) (xs := #[.tmp 59, .tmp 62]) rfl ?_); at_builtin; refine Kd.R_append (Kd.int .i8) (w0 := w) w.heap.size rfl (.tmp 59) (.tmp 62) 23 30 (.int .i8 0) 1 rfl Try.underlying23 info30 rfl (by decide) (by omega) u8 x8_2 t268 [.int .i8 t268] (fun _ => True) (fun _ => False) rfl rfl ?aP (fun _ hk => hk.elim) ?aF ?aO ?aB ?aS ?aL ?_; (case aP => exact rfl); (case aB => exact (by repeat (first | (with_reducible first | exact HB.out | apply zJ | apply zD | apply zE) | exact HB.out))); (case aF => exact (fun _ _ => trivial)); (case aO => exact (by (with_reducible repeat (first | apply zL | apply zM | apply zN)); exact HO_8.out)); (case aS => exact (yK (by repeat (first | (with_reducible first | exact HB.out | apply zJ | apply zD | apply zE) | exact HB.out)))); (case aL => have := LMc29.out; omega); intro v270 w30 ho hb hg hat; rw [← Ny269.out] at ho; have n0_ := zK (hb); have n1_ := zK (ho); clear HB HO_8; have HB := n0_; have HO271 := n1_; clear n0_ n1_ ho hb hg hat)); try go_wp2_with (first | (go_at_call 28; (with_reducible refine (r02_Round.calls k2 (wrap64 ((wrap64 (rd l0 (ji23))) * (wrap64 (rd l2 x33_2)))) 6 t266 t267 _ A27.out).mono ?_); rintro e w' ⟨rfl, ⟨nd, rfl⟩⟩; (try first | exact ⟨rfl, _, World.drewN_drewN _ _ _⟩ | exact ⟨rfl, _, Eq.trans (World.drewN_drewN _ _ _) (congrArg (World.drewN _) (Nat.add_assoc _ _ _))⟩)) | (go_at_call 29; (with_reducible refine (r02_Narrow.calls t266 t268 _ A28.out).mono ?_); rintro e w' ⟨rfl, ⟨nd, rfl⟩⟩; (try first | exact ⟨rfl, _, World.drewN_drewN _ _ _⟩ | exact ⟨rfl, _, Eq.trans (World.drewN_drewN _ _ _) (congrArg (World.drewN _) (Nat.add_assoc _ _ _))⟩)) | ((with_reducible refine gate_builtin (b := .append) (xs := #[.tmp 59, .tmp 62]) rfl ?_); at_builtin; refine Kd.R_append (Kd.int .i8) (w0 := w) w.heap.size rfl (.tmp 59) (.tmp 62) 23 30 (.int .i8 0) 1 rfl Try.underlying23 info30 rfl (by decide) (by omega) u8 x8_2 t268 [.int .i8 t268] (fun _ => True) (fun _ => False) rfl rfl ?aP (fun _ hk => hk.elim) ?aF ?aO ?aB ?aS ?aL ?_; (case aP => exact rfl); (case aB => exact (by repeat (first | (with_reducible first | exact HB.out | apply zJ | apply zD | apply zE) | exact HB.out))); (case aF => exact (fun _ _ => trivial)); (case aO => exact (by (with_reducible repeat (first | apply zL | apply zM | apply zN)); exact HO_8.out)); (case aS => exact (yK (by repeat (first | (with_reducible first | exact HB.out | apply zJ | apply zD | apply zE) | exact HB.out)))); (case aL => have := LMc29.out; omega); intro v270 w30 ho hb hg hat; rw [← Ny269.out] at ho; have n0_ := zK (hb); have n1_ := zK (ho); clear HB HO_8; have HB := n0_; have HO271 := n1_; clear n0_ n1_ ho hb hg hat)))
                go_roundg k2
                case measure => have := HJ4.out; have := HK2.out; omega
                case rel => exact ⟨(y269), (wrap64 (x33_2 + 1)), (by first | rfl | (simp; done) | (simp [*]; done)), H', ⟨by have := HJ4.out; have := HK2.out; omega⟩, ⟨by (with_reducible repeat (first | apply zL | apply zM | apply zN)); exact HO271.out⟩, ⟨by repeat (first | (with_reducible first | exact HB.out | apply zJ | apply zD | apply zE) | exact HB.out)⟩⟩
               ·rw [if_neg c29] at H
                exact absurd H (by simp)
              ·rw [if_neg c26] at H
               exact absurd H (by simp)
             ·rw [if_neg c25] at H
              exact absurd H (by simp)
            ·rw [if_neg c24] at H
             exact absurd H (by simp)
          ·rw [if_neg c13] at H
           exact absurd H (by simp)
         ·rw [if_neg c12] at H
          exact absurd H (by simp)
        ·rw [if_neg c11] at H
         have c11b0 : decide (x33_2 < (l1.length : Int)) = false := yD c11
         clear c11
         simp only [yZ, ya] at H
         obtain ⟨rfl, rfl⟩ := H
         go_wp2
         repeat (go_quiet (fail); try go_wp2)
         go_ret2
         exact ⟨_, by first | rfl | (simp [errW_none, errW_some] <;> rfl) | (simp [*, errW_none, errW_some] <;> rfl), by (with_reducible repeat (first | apply zL | apply zM | apply zN)); exact HO_8.out, by repeat (first | (with_reducible first | exact HB.out | apply zJ | apply zD | apply zE) | exact HB.out)⟩
     ·rw [if_neg c8] at H
      have c8b0 : ((l1.length : Int) == (l2.length : Int)) = false := beq_eq_false_iff_ne.mpr c8
      have c8b1 : ((l1.length : Int) != (l2.length : Int)) = true := bne_iff_ne.mpr c8
      have c8b2 : (l1.length == l2.length) = false := by first | simpa using c8 | (simp at c8 ⊢; omega)
      simp only [yZ, ya] at H
      obtain ⟨rfl, rfl⟩ := H
      go_wp2
      repeat (go_quiet (fail); try go_wp2)
      go_ret2
      exact ⟨_, by first | rfl | (simp [errW_none, errW_some] <;> rfl) | (simp [*, errW_none, errW_some] <;> rfl), by first | exact Kd.R_nil _ _ _ _ _ | exact Kd.N_nil _ _ _ _ _ | exact Kd.V_nil _ _ _ _ _ | exact Kd.Q_nil _ _ _ _ _ | exact Kd.S_nil _ _ _ _ _, by repeat (first | (with_reducible first | exact HB.out | apply zJ | apply zD | apply zE) | exact HB.out)⟩
 ·rw [if_neg c4] at H
  have c4b0 : ((l0.length : Int) == 256) = false := beq_eq_false_iff_ne.mpr c4
  have c4b1 : ((l0.length : Int) != 256) = true := bne_iff_ne.mpr c4
  simp only [yZ, ya] at H
  obtain ⟨rfl, rfl⟩ := H
  go_enter Try.func15, Try.ntmps15
  go_wp2
  repeat (go_quiet (fail); try go_wp2)
  go_ret2
  exact ⟨_, by first | rfl | (simp [errW_none, errW_some] <;> rfl) | (simp [*, errW_none, errW_some] <;> rfl), by first | exact Kd.R_nil _ _ _ _ _ | exact Kd.N_nil _ _ _ _ _ | exact Kd.V_nil _ _ _ _ _ | exact Kd.Q_nil _ _ _ _ _ | exact Kd.S_nil _ _ _ _ _, by repeat (first | (with_reducible first | exact HB.out | apply zJ | apply zD | apply zE) | exact HB.out)⟩

end Go.Proofs.Ytjcfhgpaipbedaa.A
