-- Printed by this session's own driver (wip/tools/xprint.py) over the kit's printer; given functions are this session's own.
import Derived.Test.YthmckhfjaleomaaT0
namespace Go.Proofs.Ythmckhfjaleomaa.T
open Go.RowKit Go.Proofs.YthmckhfjaleomaaW.PrintWords Go.Proofs.YthmckhfjaleomaaW.PrintLast Go.Proofs.YthmckhfjaleomaaW.PrintMore
attribute [local go_sem] max2_int min2_int max_two min_two max_three min_three max_four min_four   -- for this text's walks alone
set_option linter.unusedVariables false
set_option linter.unusedSimpArgs false

/-! ### r07_Order: function 77 -/
mutual
def r07_Order.l0 : Nat → List Int → List Int → Int → Option (List Int)
  | 0, _, _, _ => none
  | k + 1, x0, x3, x4 => if x4 < (x0.length : Int) then (r07_Order.l1 k x0 x3 x4 (x3.length : Int)) else (some x3)
def r07_Order.j2 : Nat → List Int → List Int → Int → Int → Option (List Int)
  | 0, _, _, _, _ => none
  | k + 1, x0, x3, x4, x5 => if x3.length < 17592186044416 then ((some (x3 ++ [0] : List Int)).bind fun y260 => (r07_Order.l2 k x0 y260 x4 x5 (wrap64 ((y260.length : Int) - 1)))) else (none)
def r07_Order.l2 : Nat → List Int → List Int → Int → Int → Int → Option (List Int)
  | 0, _, _, _, _, _ => none
  | k + 1, x0, x3, x4, x5, x6 => if x6 > x5 then (if 0 ≤ (wrap64 (x6 - 1)) then (if (wrap64 (x6 - 1)) < (x3.length : Int) then (if 0 ≤ x6 then (if x6 < (x3.length : Int) then (r07_Order.l2 k x0 (x3.set (x6 : Int).toNat (rd x3 (wrap64 (x6 - 1)))) x4 x5 (wrap64 (x6 - 1))) else (none)) else (none)) else (none)) else (none)) else (if 0 ≤ x5 then (if x5 < (x3.length : Int) then (r07_Order.l0 k x0 (x3.set (x5 : Int).toNat x4) (wrap64 (x4 + 1))) else (none)) else (none))
def r07_Order.l1 : Nat → List Int → List Int → Int → Int → Option (List Int)
  | 0, _, _, _, _ => none
  | k + 1, x0, x3, x4, x5 => if x5 > 0 then (if 0 ≤ (wrap64 (x5 - 1)) then (if (wrap64 (x5 - 1)) < (x3.length : Int) then (if 0 ≤ (rd x3 (wrap64 (x5 - 1))) then (if (rd x3 (wrap64 (x5 - 1))) < (x0.length : Int) then (if 0 ≤ x4 then (if x4 < (x0.length : Int) then (if (rd x0 (rd x3 (wrap64 (x5 - 1)))) < (rd x0 x4) then (r07_Order.l1 k x0 x3 x4 (wrap64 (x5 - 1))) else (r07_Order.j2 k x0 x3 x4 x5)) else (none)) else (none)) else (none)) else (none)) else (none)) else (none)) else (r07_Order.j2 k x0 x3 x4 x5)
end
def r07_Order.f (k : Nat) (l0 : List Int) : Option (List Int) := r07_Order.l0 k l0 (([] : List Int)) 0
theorem r07_Order.mono_l : ∀ k, (∀ y0 y1 y2, LeO (r07_Order.l0 k y0 y1 y2) (r07_Order.l0 (k + 1) y0 y1 y2)) ∧ (∀ y0 y1 y2 y3, LeO (r07_Order.j2 k y0 y1 y2 y3) (r07_Order.j2 (k + 1) y0 y1 y2 y3)) ∧ (∀ y0 y1 y2 y3 y4, LeO (r07_Order.l2 k y0 y1 y2 y3 y4) (r07_Order.l2 (k + 1) y0 y1 y2 y3 y4)) ∧ (∀ y0 y1 y2 y3, LeO (r07_Order.l1 k y0 y1 y2 y3) (r07_Order.l1 (k + 1) y0 y1 y2 y3))
  | 0 => ⟨fun _ _ _ r h => by simp [r07_Order.l0] at h, fun _ _ _ _ r h => by simp [r07_Order.j2] at h, fun _ _ _ _ _ r h => by simp [r07_Order.l2] at h, fun _ _ _ _ r h => by simp [r07_Order.l1] at h⟩
  | k + 1 => by
    obtain ⟨ih0, ih1, ih2, ih3⟩ := r07_Order.mono_l k
    refine ⟨?_, ?_, ?_, ?_⟩ <;> (intros; first | unfold r07_Order.l0 | unfold r07_Order.j2 | unfold r07_Order.l2 | unfold r07_Order.l1)
    all_goals repeat' first
      | (with_reducible exact ih0 _ _ _)
      | (with_reducible exact ih1 _ _ _ _)
      | (with_reducible exact ih2 _ _ _ _ _)
      | (with_reducible exact ih3 _ _ _ _)
      | (with_reducible exact yR _)
      | (with_reducible exact yO _)
      | (with_reducible refine yQ ?_ ?_)
      | (with_reducible refine yP ?_ (fun _ => ?_))
      | exact ih0 _ _ _
      | exact ih1 _ _ _ _
      | exact ih2 _ _ _ _ _
      | exact ih3 _ _ _ _
      | exact yO _
      | refine yQ ?_ ?_
      | refine yP ?_ (fun _ => ?_)
theorem r07_Order.mono : ∀ a0 k, LeO (r07_Order.f k a0) (r07_Order.f (k + 1) a0) := by
  intro a0 k
  obtain ⟨ih0, ih1, ih2, ih3⟩ := r07_Order.mono_l k
  unfold r07_Order.f
  repeat' first
      | (with_reducible exact ih0 _ _ _)
      | (with_reducible exact ih1 _ _ _ _)
      | (with_reducible exact ih2 _ _ _ _ _)
      | (with_reducible exact ih3 _ _ _ _)
      | (with_reducible exact yR _)
      | (with_reducible exact yO _)
      | (with_reducible refine yQ ?_ ?_)
      | (with_reducible refine yP ?_ (fun _ => ?_))
      | exact ih0 _ _ _
      | exact ih1 _ _ _ _
      | exact ih2 _ _ _ _ _
      | exact ih3 _ _ _ _
      | exact yO _
      | refine yQ ?_ ?_
      | refine yP ?_ (fun _ => ?_)
set_option maxHeartbeats 8000000 in
set_option maxRecDepth 100000 in
theorem r07_Order.calls (k : Nat) (A0 : Option Addr) (c0 : Nat) (l0 : List Int) (r : List Int) (w : World) (hr0 : Kd.C (Kd.int .i64) w A0 l0.length l0) (hc0 : l0.length ≤ c0) (h : r07_Order.f k l0 = some r) :
    Calls Try.prog 77 #[.slice A0 l0.length c0] w fun e w' => ∃ v0_ : Value, e = .returned (v0_) ∧ Kd.R (Kd.int .i64) 3 w' w.heap.size (fun _ => True) v0_ r ∧ Below w.heap.size w w' := by
  have HR0 := zK hr0
  have HC0 := zK hc0
  clear hr0 hc0
  have HB := zK (Below.refl w.heap.size w)
  have H : (r07_Order.l0 k l0 (([] : List Int)) 0) = some r := h
  clear h
  obtain ⟨y254, hy254⟩ : ∃ y_ : List Int, y_ = (([] : List Int)) := ⟨_, rfl⟩
  replace H : (r07_Order.l0 k l0 y254 0) = some r := by first | (rw [hy254]; with_reducible exact H) | (have H2_ := (yV _ _).symm.trans H; rw [hy254]; with_reducible exact H2_) | (have H2_ := (yV _ _).symm.trans H; with_reducible exact H2_) | with_reducible exact H | (rw [hy254]; exact H) | exact H
  have Ny254 := zK hy254
  clear hy254
  have H' := zK H
  clear H
  go_enter Try.func77, Try.ntmps77
  go_wp2_with (first | ((with_reducible refine gate_dst (N := 7) rfl ?_); refine Kd.R_lit (Kd.int .i64) _ 3 ?hg (N := 7) ?hd (xs := ([] : List Int)) (inner := []) (ok := fun _ => True) (okp := fun _ => True) ?hr ?hp (fun _ hk => hk) trivial (Below.refl _ _) (yN _) (by simp) ?_; (case hd => rfl); (case hg => rfl); (case hr => first | (go_simp; done) | (go_simp; rfl)); (case hp => exact (Reps.none _ _)); intro v255 w2 ho3 hb hg_ hnew_; clear hg_ hnew_; (first | rw [← Ny254.out] at ho3 | (simp only [Int.reduceToNat] at ho3; rw [← Ny254.out] at ho3)); have n0_ := zK (Kd.R_lower ho3 (yK (by repeat (first | (with_reducible first | exact HB.out | apply zJ | apply zD | apply zE) | exact HB.out)))); have n1_ := zK (yL (by repeat (first | (with_reducible first | exact HB.out | apply zJ | apply zD | apply zE) | exact HB.out)) hb); clear HB; have HO256 := n0_; have HB := n1_; clear n0_ n1_ hb ho3))
  repeat (go_quiet (first | ((with_reducible refine gate_dst (N := 7) rfl ?_); refine Kd.R_lit (Kd.int .i64) _ 3 ?hg (N := 7) ?hd (xs := ([] : List Int)) (inner := []) (ok := fun _ => True) (okp := fun _ => True) ?hr ?hp (fun _ hk => hk) trivial (Below.refl _ _) (yN _) (by simp) ?_; (case hd => rfl); (case hg => rfl); (case hr => first | (go_simp; done) | (go_simp; rfl)); (case hp => exact (Reps.none _ _)); intro v255 w2 ho3 hb hg_ hnew_; clear hg_ hnew_; (first | rw [← Ny254.out] at ho3 | (simp only [Int.reduceToNat] at ho3; rw [← Ny254.out] at ho3)); have n0_ := zK (Kd.R_lower ho3 (yK (by repeat (first | (with_reducible first | exact HB.out | apply zJ | apply zD | apply zE) | exact HB.out)))); have n1_ := zK (yL (by repeat (first | (with_reducible first | exact HB.out | apply zJ | apply zD | apply zE) | exact HB.out)) hb); clear HB; have HO256 := n0_; have HB := n1_; clear n0_ n1_ hb ho3)); try go_wp2_with (first | ((with_reducible refine gate_dst (N := 7) rfl ?_); refine Kd.R_lit (Kd.int .i64) _ 3 ?hg (N := 7) ?hd (xs := ([] : List Int)) (inner := []) (ok := fun _ => True) (okp := fun _ => True) ?hr ?hp (fun _ hk => hk) trivial (Below.refl _ _) (yN _) (by simp) ?_; (case hd => rfl); (case hg => rfl); (case hr => first | (go_simp; done) | (go_simp; rfl)); (case hp => exact (Reps.none _ _)); intro v255 w2 ho3 hb hg_ hnew_; clear hg_ hnew_; (first | rw [← Ny254.out] at ho3 | (simp only [Int.reduceToNat] at ho3; rw [← Ny254.out] at ho3)); have n0_ := zK (Kd.R_lower ho3 (yK (by repeat (first | (with_reducible first | exact HB.out | apply zJ | apply zD | apply zE) | exact HB.out)))); have n1_ := zK (yL (by repeat (first | (with_reducible first | exact HB.out | apply zJ | apply zD | apply zE) | exact HB.out)) hb); clear HB; have HO256 := n0_; have HB := n1_; clear n0_ n1_ hb ho3)))
  go_loopg [3, 4] k (fun kq v3 v4 w' => ∃ (x3_1 : List Int) (x4_1 : Int), v4 = .int .i64 x4_1 ∧ Aside0 (r07_Order.l0 kq l0 x3_1 x4_1 = some r) ∧ Aside0 (kq ≤ k) ∧ Aside0 (Kd.R (Kd.int .i64) 3 w' w.heap.size (fun _ => True) v3 x3_1) ∧ Aside0 (Below w.heap.size w w'))
  case atStart => exact ⟨(y254), (0), (by first | rfl | (simp; done) | (simp [*]; done)), H', ⟨yN _⟩, ⟨by (with_reducible repeat (first | apply zL | apply zM | apply zN)); exact HO256.out⟩, ⟨by repeat (first | (with_reducible first | exact HB.out | apply zJ | apply zD | apply zE) | exact HB.out)⟩⟩
  case round =>
   clear H'
   try clear p2
   obtain ⟨x3_1, x4_1, rfl, HA, HK1, HO_3, HB⟩ := hrel
   cases gk with
   | zero => exact absurd HA.out (by simp [r07_Order.l0])
   | succ k1 =>
    have H := HA.out
    clear HA
    simp only [r07_Order.l0] at H
    by_cases c4 : x4_1 < (l0.length : Int)
    ·rw [if_pos c4] at H
     have c4b0 : decide (x4_1 < (l0.length : Int)) = true := yC c4
     clear c4
     have HC5 := zK H
     clear H
     obtain ⟨Ao6, co6, eo6⟩ := Kd.R_slice HO_3.out
     subst eo6
     go_upto_block 2 with (fail)
     repeat (go_quiet (fail); go_upto_block 2 with (fail))
     go_cut [5] (fun v5 wc => ∃ (kq : Nat) (x5_4 : Int), v5 = .int .i64 x5_4 ∧ Aside0 (r07_Order.j2 kq l0 x3_1 x4_1 x5_4 = some r) ∧ Aside0 (kq ≤ k1) ∧ Aside0 (Kd.R (Kd.int .i64) 3 wc w.heap.size (fun _ => True) (.slice Ao6 x3_1.length co6) x3_1) ∧ Aside0 (Below w.heap.size w wc))
     case first =>
      have H := HC5.out
      clear HC5
      have H' := zK H
      clear H
      go_wp2
      repeat (go_quiet (fail); try go_wp2)
      go_loopg [5] k1 (fun kq v5 w' => ∃ (x5_2 : Int), v5 = .int .i64 x5_2 ∧ Aside0 (r07_Order.l1 kq l0 x3_1 x4_1 x5_2 = some r) ∧ Aside0 (kq ≤ k1) ∧ Aside0 (Kd.R (Kd.int .i64) 3 w' w.heap.size (fun _ => True) (.slice Ao6 x3_1.length co6) x3_1) ∧ Aside0 (Below w.heap.size w w'))
      case atStart => exact ⟨((x3_1.length : Int)), (by first | rfl | (simp; done) | (simp [*]; done)), H', ⟨yN _⟩, ⟨by (with_reducible repeat (first | apply zL | apply zM | apply zN)); exact HO_3.out⟩, ⟨by repeat (first | (with_reducible first | exact HB.out | apply zJ | apply zD | apply zE) | exact HB.out)⟩⟩
      case round =>
       clear H'
       try clear p2
       try clear c4
       try clear c4b0
       try clear p2
       obtain ⟨x5_2, rfl, HA, HK2, HO_3, HB⟩ := hrel
       cases gk with
       | zero => exact absurd HA.out (by simp [r07_Order.l1])
       | succ k2 =>
        have H := HA.out
        clear HA
        simp only [r07_Order.l1] at H
        by_cases c7 : x5_2 > 0
        ·rw [if_pos c7] at H
         have c7b0 : decide (0 < x5_2) = true := yC c7
         clear c7
         (first | rw [c7b0] | (simp only [i64_w, i32_w]; rw [c7b0]) | skip)
         obtain ⟨ji8, hji8⟩ : ∃ j_ : Int, (wrap64 (x5_2 - 1)) = j_ := ⟨_, rfl⟩
         replace H : (if 0 ≤ (ji8) then (if (ji8) < (x3_1.length : Int) then (if 0 ≤ (rd x3_1 (ji8)) then (if (rd x3_1 (ji8)) < (l0.length : Int) then (if 0 ≤ x4_1 then (if x4_1 < (l0.length : Int) then (if (rd l0 (rd x3_1 (ji8))) < (rd l0 x4_1) then (r07_Order.l1 k2 l0 x3_1 x4_1 ji8) else (r07_Order.j2 k2 l0 x3_1 x4_1 x5_2)) else (none)) else (none)) else (none)) else (none)) else (none)) else (none)) = some r := by first | (rw [hji8] at H; exact H) | (simp only [hji8] at H ⊢; exact H)
         have hji8w : (IntKind.i64.wrap (x5_2 - 1)) = ji8 := (i64_w _).trans hji8
         by_cases c9 : 0 ≤ (ji8)
         ·rw [if_pos c9] at H
          have c9b0 : decide (0 ≤ (ji8)) = true := yC c9
          clear c9
          by_cases c10 : (ji8) < (x3_1.length : Int)
          ·rw [if_pos c10] at H
           have c10b0 : decide ((ji8) < (x3_1.length : Int)) = true := yC c10
           clear c10
           by_cases c11 : 0 ≤ (rd x3_1 (ji8))
           ·rw [if_pos c11] at H
            have c11b0 : decide (0 ≤ (rd x3_1 (ji8))) = true := yC c11
            clear c11
            by_cases c12 : (rd x3_1 (ji8)) < (l0.length : Int)
            ·rw [if_pos c12] at H
             have c12b0 : decide ((rd x3_1 (ji8)) < (l0.length : Int)) = true := yC c12
             clear c12
             by_cases c13 : 0 ≤ x4_1
             ·rw [if_pos c13] at H
              have c13b0 : decide (0 ≤ x4_1) = true := yC c13
              clear c13
              by_cases c14 : x4_1 < (l0.length : Int)
              ·rw [if_pos c14] at H
               have c14b0 : decide (x4_1 < (l0.length : Int)) = true := yC c14
               clear c14
               by_cases c15 : (rd l0 (rd x3_1 (ji8))) < (rd l0 x4_1)
               ·rw [if_pos c15] at H
                have c15b0 : decide ((rd l0 (rd x3_1 (ji8))) < (rd l0 x4_1)) = true := yC c15
                clear c15
                have H' := zK H
                clear H
                have p257 : 0 ≤ ((ji8) : Int) := yB (by first | (with_reducible assumption) | assumption)
                have q257 : (ji8) < (x3_1.length : Int) := yB (by first | (with_reducible assumption) | assumption)
                obtain ⟨ad257, e257, hx257_0⟩ := Kd.at_int (yM HO_3.out).2.2 (ji8) p257 q257
                cases e257
                replace p257 := yg p257
                replace q257 := yg q257
                have p258 : 0 ≤ ((rd x3_1 (ji8)) : Int) := yB (by first | (with_reducible assumption) | assumption)
                have q258 : (rd x3_1 (ji8)) < (l0.length : Int) := yB (by first | (with_reducible assumption) | assumption)
                obtain ⟨ad258, e258, hx258_0⟩ := Kd.at_int HR0.out (rd x3_1 (ji8)) p258 q258
                cases e258
                replace hx258_0 := (HB.out.cell (World.block_lt_of_cell? w _ hx258_0)).trans hx258_0
                replace p258 := yg p258
                replace q258 := yg q258
                have p259 : 0 ≤ (x4_1 : Int) := yB (by first | (with_reducible assumption) | assumption)
                have q259 : x4_1 < (l0.length : Int) := yB (by first | (with_reducible assumption) | assumption)
                obtain ⟨ad259, e259, hx259_0⟩ := Kd.at_int HR0.out x4_1 p259 q259
                obtain rfl : ad258 = ad259 := (by injection e259)
                replace hx259_0 := (HB.out.cell (World.block_lt_of_cell? w _ hx259_0)).trans hx259_0
                replace p259 := yg p259
                replace q259 := yg q259
                go_wp2
                repeat (go_quiet (fail); try go_wp2)
                go_roundg k2
                case measure => have := HK1.out; have := HK2.out; omega
                case rel => exact ⟨(ji8), (by first | rfl | (simp; done) | (simp only [← hji8] <;> (first | rfl | simp)) | (simp [*]; done)), H', ⟨by have := HK1.out; have := HK2.out; omega⟩, ⟨by (with_reducible repeat (first | apply zL | apply zM | apply zN)); exact HO_3.out⟩, ⟨by repeat (first | (with_reducible first | exact HB.out | apply zJ | apply zD | apply zE) | exact HB.out)⟩⟩
               ·rw [if_neg c15] at H
                have c15b0 : decide ((rd l0 (rd x3_1 (ji8))) < (rd l0 x4_1)) = false := yD c15
                clear c15
                have H' := zK H
                clear H
                have p257 : 0 ≤ ((ji8) : Int) := yB (by first | (with_reducible assumption) | assumption)
                have q257 : (ji8) < (x3_1.length : Int) := yB (by first | (with_reducible assumption) | assumption)
                obtain ⟨ad257, e257, hx257_0⟩ := Kd.at_int (yM HO_3.out).2.2 (ji8) p257 q257
                cases e257
                replace p257 := yg p257
                replace q257 := yg q257
                have p258 : 0 ≤ ((rd x3_1 (ji8)) : Int) := yB (by first | (with_reducible assumption) | assumption)
                have q258 : (rd x3_1 (ji8)) < (l0.length : Int) := yB (by first | (with_reducible assumption) | assumption)
                obtain ⟨ad258, e258, hx258_0⟩ := Kd.at_int HR0.out (rd x3_1 (ji8)) p258 q258
                cases e258
                replace hx258_0 := (HB.out.cell (World.block_lt_of_cell? w _ hx258_0)).trans hx258_0
                replace p258 := yg p258
                replace q258 := yg q258
                have p259 : 0 ≤ (x4_1 : Int) := yB (by first | (with_reducible assumption) | assumption)
                have q259 : x4_1 < (l0.length : Int) := yB (by first | (with_reducible assumption) | assumption)
                obtain ⟨ad259, e259, hx259_0⟩ := Kd.at_int HR0.out x4_1 p259 q259
                obtain rfl : ad258 = ad259 := (by injection e259)
                replace hx259_0 := (HB.out.cell (World.block_lt_of_cell? w _ hx259_0)).trans hx259_0
                replace p259 := yg p259
                replace q259 := yg q259
                go_wp2
                repeat (go_quiet (fail); try go_wp2)
                go_meet
                case rel => exact ⟨_, (x5_2), (by first | rfl | (simp; done) | (simp [*]; done)), H', ⟨by have := HK1.out; have := HK2.out; first | omega | exact yN _⟩, ⟨by (with_reducible repeat (first | apply zL | apply zM | apply zN)); exact HO_3.out⟩, ⟨by repeat (first | (with_reducible first | exact HB.out | apply zJ | apply zD | apply zE) | exact HB.out)⟩⟩
              ·rw [if_neg c14] at H
               exact absurd H (by simp)
             ·rw [if_neg c13] at H
              exact absurd H (by simp)
            ·rw [if_neg c12] at H
             exact absurd H (by simp)
           ·rw [if_neg c11] at H
            exact absurd H (by simp)
          ·rw [if_neg c10] at H
           exact absurd H (by simp)
         ·rw [if_neg c9] at H
          exact absurd H (by simp)
        ·rw [if_neg c7] at H
         have c7b0 : decide (0 < x5_2) = false := yD c7
         clear c7
         (first | rw [c7b0] | (simp only [i64_w, i32_w]; rw [c7b0]) | skip)
         have H' := zK H
         clear H
         go_wp2
         repeat (go_quiet (fail); try go_wp2)
         go_meet
         case rel => exact ⟨_, (x5_2), (by first | rfl | (simp; done) | (simp [*]; done)), H', ⟨by have := HK1.out; have := HK2.out; first | omega | exact yN _⟩, ⟨by (with_reducible repeat (first | apply zL | apply zM | apply zN)); exact HO_3.out⟩, ⟨by repeat (first | (with_reducible first | exact HB.out | apply zJ | apply zD | apply zE) | exact HB.out)⟩⟩
     case rest =>
      clear HC5
      try clear c1
      try clear p2
      try clear q2
      try clear hx2
      try clear c4
      try clear c4b0
      try clear p6
      try clear c7
      try clear c7b0
      try clear c9
      try clear c9b0
      try clear c10
      try clear c10b0
      try clear c11
      try clear c11b0
      try clear c12
      try clear c12b0
      try clear c13
      try clear c13b0
      try clear c14
      try clear c14b0
      try clear c15
      try clear c15b0
      try clear hx257_0
      try clear hx258_0
      try clear hx259_0
      try clear p2
      try clear p257
      try clear p258
      try clear p259
      try clear q257
      try clear q258
      try clear q259
      obtain ⟨kq, x5_4, rfl, HA, HJ4, HO_3, HB⟩ := hcut
      cases kq with
      | zero => exact absurd HA.out (by simp [r07_Order.j2])
      | succ kj4 =>
       have H := HA.out
       clear HA
       simp only [r07_Order.j2] at H
       by_cases c16 : x3_1.length < 17592186044416
       ·rw [if_pos c16] at H
        have LMc16 := zK c16
        clear c16
        obtain ⟨y260, hy260⟩ : ∃ y_ : List Int, y_ = (x3_1 ++ [0]) := ⟨_, rfl⟩
        replace H : (r07_Order.l2 kj4 l0 y260 x4_1 x5_4 (wrap64 ((y260.length : Int) - 1))) = some r := by first | (rw [hy260]; with_reducible exact H) | (have H2_ := (yV _ _).symm.trans H; rw [hy260]; with_reducible exact H2_) | (have H2_ := (yV _ _).symm.trans H; with_reducible exact H2_) | with_reducible exact H | (rw [hy260]; exact H) | exact H
        have Ny260 := zK hy260
        clear hy260
        have H' := zK H
        clear H
        go_wp2_with (first | ((with_reducible refine gate_builtin (b := .append) (xs := #[.tmp 35, .tmp 36]) rfl ?_); at_builtin; refine Kd.R_append (Kd.int .i64) (w0 := w) w.heap.size rfl (.tmp 35) (.tmp 36) 51 3 (.int .i64 0) 8 rfl Try.underlying51 info3 rfl (by decide) (by omega) (.slice Ao6 x3_1.length co6) x3_1 0 [.int .i64 0] (fun _ => True) (fun _ => False) rfl rfl ?aP (fun _ hk => hk.elim) ?aF ?aO ?aB ?aS ?aL ?_; (case aP => exact rfl); (case aB => exact (by repeat (first | (with_reducible first | exact HB.out | apply zJ | apply zD | apply zE) | exact HB.out))); (case aF => exact (fun _ _ => trivial)); (case aO => exact (by (with_reducible repeat (first | apply zL | apply zM | apply zN)); exact HO_3.out)); (case aS => exact (yK (by repeat (first | (with_reducible first | exact HB.out | apply zJ | apply zD | apply zE) | exact HB.out)))); (case aL => have := LMc16.out; omega); intro v261 w17 ho hb hg hat; rw [← Ny260.out] at ho; have n0_ := zK (hb); have n1_ := zK (ho); clear HB HO_3; have HB := n0_; have HO262 := n1_; clear n0_ n1_ ho hb hg hat; obtain ⟨Ao18, co18, eo18⟩ := Kd.R_slice HO262.out; subst eo18))
        repeat (go_quiet (first | ((with_reducible refine gate_builtin (b := .append) (xs := #[.tmp 35, .tmp 36]) rfl ?_); at_builtin; refine Kd.R_append (Kd.int .i64) (w0 := w) w.heap.size rfl (.tmp 35) (.tmp 36) 51 3 (.int .i64 0) 8 rfl Try.underlying51 info3 rfl (by decide) (by omega) (.slice Ao6 x3_1.length co6) x3_1 0 [.int .i64 0] (fun _ => True) (fun _ => False) rfl rfl ?aP (fun _ hk => hk.elim) ?aF ?aO ?aB ?aS ?aL ?_; (case aP => exact rfl); (case aB => exact (by repeat (first | (with_reducible first | exact HB.out | apply zJ | apply zD | apply zE) | exact HB.out))); (case aF => exact (fun _ _ => trivial)); (case aO => exact (by (with_reducible repeat (first | apply zL | apply zM | apply zN)); exact HO_3.out)); (case aS => exact (yK (by repeat (first | (with_reducible first | exact HB.out | apply zJ | apply zD | apply zE) | exact HB.out)))); (case aL => have := LMc16.out; omega); intro v261 w17 ho hb hg hat; rw [← Ny260.out] at ho; have n0_ := zK (hb); have n1_ := zK (ho); clear HB HO_3; have HB := n0_; have HO262 := n1_; clear n0_ n1_ ho hb hg hat; obtain ⟨Ao18, co18, eo18⟩ := Kd.R_slice HO262.out; subst eo18)); try go_wp2_with (first | ((with_reducible refine gate_builtin (b := .append) (xs := #[.tmp 35, .tmp 36]) rfl ?_); at_builtin; refine Kd.R_append (Kd.int .i64) (w0 := w) w.heap.size rfl (.tmp 35) (.tmp 36) 51 3 (.int .i64 0) 8 rfl Try.underlying51 info3 rfl (by decide) (by omega) (.slice Ao6 x3_1.length co6) x3_1 0 [.int .i64 0] (fun _ => True) (fun _ => False) rfl rfl ?aP (fun _ hk => hk.elim) ?aF ?aO ?aB ?aS ?aL ?_; (case aP => exact rfl); (case aB => exact (by repeat (first | (with_reducible first | exact HB.out | apply zJ | apply zD | apply zE) | exact HB.out))); (case aF => exact (fun _ _ => trivial)); (case aO => exact (by (with_reducible repeat (first | apply zL | apply zM | apply zN)); exact HO_3.out)); (case aS => exact (yK (by repeat (first | (with_reducible first | exact HB.out | apply zJ | apply zD | apply zE) | exact HB.out)))); (case aL => have := LMc16.out; omega); intro v261 w17 ho hb hg hat; rw [← Ny260.out] at ho; have n0_ := zK (hb); have n1_ := zK (ho); clear HB HO_3; have HB := n0_; have HO262 := n1_; clear n0_ n1_ ho hb hg hat; obtain ⟨Ao18, co18, eo18⟩ := Kd.R_slice HO262.out; subst eo18)))
        go_loopg [6] kj4 (fun kq v6 w' => ∃ (x3_3 : List Int) (x6_3 : Int), v6 = .int .i64 x6_3 ∧ Aside0 (r07_Order.l2 kq l0 x3_3 x4_1 x5_4 x6_3 = some r) ∧ Aside0 (kq ≤ kj4) ∧ Aside0 (Kd.R (Kd.int .i64) 3 w' w.heap.size (fun _ => True) (.slice Ao18 y260.length co18) x3_3) ∧ Aside0 (Below w.heap.size w w'))
        case atStart => exact ⟨(y260), (wrap64 ((y260.length : Int) - 1)), (by first | rfl | (simp; done) | (simp [*]; done)), H', ⟨yN _⟩, ⟨by (with_reducible repeat (first | apply zL | apply zM | apply zN)); exact HO262.out⟩, ⟨by repeat (first | (with_reducible first | exact HB.out | apply zJ | apply zD | apply zE) | exact HB.out)⟩⟩
        case round =>
         clear H'
         try clear c1
         try clear p2
         try clear q2
         try clear hx2
         try clear c4
         try clear c4b0
         try clear p6
         try clear c7
         try clear c7b0
         try clear c9
         try clear c9b0
         try clear c10
         try clear c10b0
         try clear c11
         try clear c11b0
         try clear c12
         try clear c12b0
         try clear c13
         try clear c13b0
         try clear c14
         try clear c14b0
         try clear c15
         try clear c15b0
         try clear c16
         try clear hx257_0
         try clear hx258_0
         try clear hx259_0
         try clear p2
         try clear p257
         try clear p258
         try clear p259
         try clear p6
         try clear q2
         try clear q257
         try clear q258
         try clear q259
         obtain ⟨x3_3, x6_3, rfl, HA, HK3, HO_3, HB⟩ := hrel
         have hl3_3 := (yM HO_3.out).1
         rw [hl3_3] at HO_3
         (try simp only [hl3_3])
         cases gk with
         | zero => exact absurd HA.out (by simp [r07_Order.l2])
         | succ k3 =>
          have H := HA.out
          clear HA
          simp only [r07_Order.l2] at H
          by_cases c19 : x6_3 > x5_4
          ·rw [if_pos c19] at H
           have c19b0 : decide (x5_4 < x6_3) = true := yC c19
           clear c19
           obtain ⟨ji20, hji20⟩ : ∃ j_ : Int, (wrap64 (x6_3 - 1)) = j_ := ⟨_, rfl⟩
           replace H : (if 0 ≤ (ji20) then (if (ji20) < (x3_3.length : Int) then (if 0 ≤ x6_3 then (if x6_3 < (x3_3.length : Int) then (r07_Order.l2 k3 l0 (x3_3.set (x6_3 : Int).toNat (rd x3_3 (ji20))) x4_1 x5_4 ji20) else (none)) else (none)) else (none)) else (none)) = some r := by first | (rw [hji20] at H; exact H) | (simp only [hji20] at H ⊢; exact H)
           have hji20w : (IntKind.i64.wrap (x6_3 - 1)) = ji20 := (i64_w _).trans hji20
           by_cases c21 : 0 ≤ (ji20)
           ·rw [if_pos c21] at H
            have c21b0 : decide (0 ≤ (ji20)) = true := yC c21
            clear c21
            by_cases c22 : (ji20) < (x3_3.length : Int)
            ·rw [if_pos c22] at H
             have c22b0 : decide ((ji20) < (x3_3.length : Int)) = true := yC c22
             clear c22
             by_cases c23 : 0 ≤ x6_3
             ·rw [if_pos c23] at H
              have c23b0 : decide (0 ≤ x6_3) = true := yC c23
              clear c23
              by_cases c24 : x6_3 < (x3_3.length : Int)
              ·rw [if_pos c24] at H
               have c24b0 : decide (x6_3 < (x3_3.length : Int)) = true := yC c24
               clear c24
               obtain ⟨y264, hy264⟩ : ∃ y_ : List Int, y_ = (x3_3.set (x6_3 : Int).toNat (rd x3_3 (ji20))) := ⟨_, rfl⟩
               replace H : (r07_Order.l2 k3 l0 y264 x4_1 x5_4 ji20) = some r := by first | (rw [hy264]; with_reducible exact H) | (have H2_ := (yV _ _).symm.trans H; rw [hy264]; with_reducible exact H2_) | (have H2_ := (yV _ _).symm.trans H; with_reducible exact H2_) | with_reducible exact H | (rw [hy264]; exact H) | exact H
               have Ny264 := zK hy264
               clear hy264
               have H' := zK H
               clear H
               have p263 : 0 ≤ ((ji20) : Int) := yB (by first | (with_reducible assumption) | assumption)
               have q263 : (ji20) < (x3_3.length : Int) := yB (by first | (with_reducible assumption) | assumption)
               obtain ⟨ad263, e263, hx263_0⟩ := Kd.at_int (yM HO_3.out).2.2 (ji20) p263 q263
               cases e263
               replace p263 := yg p263
               replace q263 := yg q263
               have p25 : 0 ≤ (x6_3 : Int) := yB (by first | (with_reducible assumption) | assumption)
               have q25 : (x6_3 : Int) < ((x3_3.length : Int) : Int) := yB (by first | (with_reducible assumption) | assumption)
               obtain ⟨go25, co25, eo25, Z0, gl25, cl25, HG25⟩ := Kd.R_form HO_3.out (by omega)
               (first | cases eo25 | (injection eo25 with ea_ en_ ec_; (first | subst ea_ | (injection ea_ with ea_; subst ea_)); subst ec_; clear en_))
               have GB25 := zK Z0
               have GG25 := zK HG25
               clear Z0 gl25 HG25
               (first | simp only [add_plain] at hx263_0 | skip)
               obtain ⟨hx25_0, hf25_0⟩ := Kd.R_celln 0 HO_3.out (x6_3 : Int) p25 q25
               replace p25 := yg p25
               replace q25 := yg q25
               have HP26 := Kd.R_putg HO_3.out (x6_3 : Int) (rd x3_3 (ji20))
               go_wp2_with (first | ((with_reducible refine gate_store (t := 3) (p := 53) rfl ?_); (try (rw [drewN_self wr]; generalize hq_ : World.drewN wr _ = wr; have n0_ := zK (Kd.R_at hq_ HO_3.out); have n1_ := zK (below_at hq_ HB.out); clear hq_ HO_3 HB; have HO_3 := n0_; have HB := n1_; clear n0_ n1_; (try (have HP26 := Kd.R_putg HO_3.out (x6_3 : Int) (rd x3_3 (ji20)))))); refine store_event (t := 3) (p := 53) (v := ?vo_w27) (w1 := (wr.setCell ⟨go25, (x6_3 : Int).toNat, none⟩ (.int .i64 (rd x3_3 (ji20))))) ?hg ?ho ?hn ?hr ?_; (case ho => rfl); (case hg => rfl); (case hn => rfl); (case hr => first | (go_simp; done) | (go_simp; rfl)); intro w27 hw; have hg : wr.grownBy w27 (some go25) := (by rw [hw]; exact HP26.2); have hp_ : Kd.R (Kd.int .i64) 3 w27 w.heap.size (fun _ => True) (.slice (some ⟨go25, 0, none⟩) x3_3.length co18) y264 := (by rw [hw, Ny264.out]; exact HP26.1); clear HP26; have n0_ := zK (hp_); have n1_ := zK ((by rw [hw]; exact zI (HB.out) GB25.out : Below w.heap.size w w27)); clear HO_3 HB; have HO_3 := n0_; have HB := n1_; clear n0_ n1_ hg hw hp_))
               repeat (go_quiet (first | ((with_reducible refine gate_store (t := 3) (p := 53) rfl ?_); (try (rw [drewN_self wr]; generalize hq_ : World.drewN wr _ = wr; have n0_ := zK (Kd.R_at hq_ HO_3.out); have n1_ := zK (below_at hq_ HB.out); clear hq_ HO_3 HB; have HO_3 := n0_; have HB := n1_; clear n0_ n1_; (try (have HP26 := Kd.R_putg HO_3.out (x6_3 : Int) (rd x3_3 (ji20)))))); refine store_event (t := 3) (p := 53) (v := ?vo_w27) (w1 := (wr.setCell ⟨go25, (x6_3 : Int).toNat, none⟩ (.int .i64 (rd x3_3 (ji20))))) ?hg ?ho ?hn ?hr ?_; (case ho => rfl); (case hg => rfl); (case hn => rfl); (case hr => first | (go_simp; done) | (go_simp; rfl)); intro w27 hw; have hg : wr.grownBy w27 (some go25) := (by rw [hw]; exact HP26.2); have hp_ : Kd.R (Kd.int .i64) 3 w27 w.heap.size (fun _ => True) (.slice (some ⟨go25, 0, none⟩) x3_3.length co18) y264 := (by rw [hw, Ny264.out]; exact HP26.1); clear HP26; have n0_ := zK (hp_); have n1_ := zK ((by rw [hw]; exact zI (HB.out) GB25.out : Below w.heap.size w w27)); clear HO_3 HB; have HO_3 := n0_; have HB := n1_; clear n0_ n1_ hg hw hp_)); try go_wp2_with (first | ((with_reducible refine gate_store (t := 3) (p := 53) rfl ?_); (try (rw [drewN_self wr]; generalize hq_ : World.drewN wr _ = wr; have n0_ := zK (Kd.R_at hq_ HO_3.out); have n1_ := zK (below_at hq_ HB.out); clear hq_ HO_3 HB; have HO_3 := n0_; have HB := n1_; clear n0_ n1_; (try (have HP26 := Kd.R_putg HO_3.out (x6_3 : Int) (rd x3_3 (ji20)))))); refine store_event (t := 3) (p := 53) (v := ?vo_w27) (w1 := (wr.setCell ⟨go25, (x6_3 : Int).toNat, none⟩ (.int .i64 (rd x3_3 (ji20))))) ?hg ?ho ?hn ?hr ?_; (case ho => rfl); (case hg => rfl); (case hn => rfl); (case hr => first | (go_simp; done) | (go_simp; rfl)); intro w27 hw; have hg : wr.grownBy w27 (some go25) := (by rw [hw]; exact HP26.2); have hp_ : Kd.R (Kd.int .i64) 3 w27 w.heap.size (fun _ => True) (.slice (some ⟨go25, 0, none⟩) x3_3.length co18) y264 := (by rw [hw, Ny264.out]; exact HP26.1); clear HP26; have n0_ := zK (hp_); have n1_ := zK ((by rw [hw]; exact zI (HB.out) GB25.out : Below w.heap.size w w27)); clear HO_3 HB; have HO_3 := n0_; have HB := n1_; clear n0_ n1_ hg hw hp_)))
               (try simp only [← hl3_3])
               go_roundg k3
               case measure => have := HK1.out; have := HJ4.out; have := HK3.out; omega
               case rel => exact ⟨(y264), (ji20), (by first | rfl | (simp; done) | (simp only [← hji20] <;> (first | rfl | simp)) | (simp [*]; done)), H', ⟨by have := HK1.out; have := HJ4.out; have := HK3.out; omega⟩, ⟨by (try simp only [hl3_3]); (with_reducible repeat (first | apply zL | apply zM | apply zN)); exact HO_3.out⟩, ⟨by repeat (first | (with_reducible first | exact HB.out | apply zJ | apply zD | apply zE) | exact HB.out)⟩⟩
              ·rw [if_neg c24] at H
               exact absurd H (by simp)
             ·rw [if_neg c23] at H
              exact absurd H (by simp)
            ·rw [if_neg c22] at H
             exact absurd H (by simp)
           ·rw [if_neg c21] at H
            exact absurd H (by simp)
          ·rw [if_neg c19] at H
           have c19b0 : decide (x5_4 < x6_3) = false := yD c19
           clear c19
           by_cases c28 : 0 ≤ x5_4
           ·rw [if_pos c28] at H
            have c28b0 : decide (0 ≤ x5_4) = true := yC c28
            clear c28
            by_cases c29 : x5_4 < (x3_3.length : Int)
            ·rw [if_pos c29] at H
             have c29b0 : decide (x5_4 < (x3_3.length : Int)) = true := yC c29
             clear c29
             obtain ⟨y265, hy265⟩ : ∃ y_ : List Int, y_ = (x3_3.set (x5_4 : Int).toNat x4_1) := ⟨_, rfl⟩
             replace H : (r07_Order.l0 k3 l0 y265 (wrap64 (x4_1 + 1))) = some r := by first | (rw [hy265]; with_reducible exact H) | (have H2_ := (yV _ _).symm.trans H; rw [hy265]; with_reducible exact H2_) | (have H2_ := (yV _ _).symm.trans H; with_reducible exact H2_) | with_reducible exact H | (rw [hy265]; exact H) | exact H
             have Ny265 := zK hy265
             clear hy265
             have H' := zK H
             clear H
             have p30 : 0 ≤ (x5_4 : Int) := yB (by first | (with_reducible assumption) | assumption)
             have q30 : (x5_4 : Int) < ((x3_3.length : Int) : Int) := yB (by first | (with_reducible assumption) | assumption)
             obtain ⟨go30, co30, eo30, Z1, gl30, cl30, HG30⟩ := Kd.R_form HO_3.out (by omega)
             (first | cases eo30 | (injection eo30 with ea_ en_ ec_; (first | subst ea_ | (injection ea_ with ea_; subst ea_)); subst ec_; clear en_))
             have GB30 := zK Z1
             have GG30 := zK HG30
             clear Z1 gl30 HG30
             obtain ⟨hx30_0, hf30_0⟩ := Kd.R_celln 0 HO_3.out (x5_4 : Int) p30 q30
             replace p30 := yg p30
             replace q30 := yg q30
             have HP31 := Kd.R_putg HO_3.out (x5_4 : Int) x4_1
             go_wp2_with (first | ((with_reducible refine gate_store (t := 3) (p := 57) rfl ?_); (try (rw [drewN_self wr]; generalize hq_ : World.drewN wr _ = wr; have n0_ := zK (Kd.R_at hq_ HO_3.out); have n1_ := zK (below_at hq_ HB.out); clear hq_ HO_3 HB; have HO_3 := n0_; have HB := n1_; clear n0_ n1_; (try (have HP31 := Kd.R_putg HO_3.out (x5_4 : Int) x4_1)))); refine store_event (t := 3) (p := 57) (v := ?vo_w32) (w1 := (wr.setCell ⟨go30, (x5_4 : Int).toNat, none⟩ (.int .i64 x4_1))) ?hg ?ho ?hn ?hr ?_; (case ho => rfl); (case hg => rfl); (case hn => rfl); (case hr => first | (go_simp; done) | (go_simp; rfl)); intro w32 hw; have hg : wr.grownBy w32 (some go30) := (by rw [hw]; exact HP31.2); have hp_ : Kd.R (Kd.int .i64) 3 w32 w.heap.size (fun _ => True) (.slice (some ⟨go30, 0, none⟩) x3_3.length co18) y265 := (by rw [hw, Ny265.out]; exact HP31.1); clear HP31; have n0_ := zK (hp_); have n1_ := zK ((by rw [hw]; exact zI (HB.out) GB30.out : Below w.heap.size w w32)); clear HO_3 HB; have HO_3 := n0_; have HB := n1_; clear n0_ n1_ hg hw hp_))
             repeat (go_quiet (first | ((with_reducible refine gate_store (t := 3) (p := 57) rfl ?_); (try (rw [drewN_self wr]; generalize hq_ : World.drewN wr _ = wr; have n0_ := zK (Kd.R_at hq_ HO_3.out); have n1_ := zK (below_at hq_ HB.out); clear hq_ HO_3 HB; have HO_3 := n0_; have HB := n1_; clear n0_ n1_; (try (have HP31 := Kd.R_putg HO_3.out (x5_4 : Int) x4_1)))); refine store_event (t := 3) (p := 57) (v := ?vo_w32) (w1 := (wr.setCell ⟨go30, (x5_4 : Int).toNat, none⟩ (.int .i64 x4_1))) ?hg ?ho ?hn ?hr ?_; (case ho => rfl); (case hg => rfl); (case hn => rfl); (case hr => first | (go_simp; done) | (go_simp; rfl)); intro w32 hw; have hg : wr.grownBy w32 (some go30) := (by rw [hw]; exact HP31.2); have hp_ : Kd.R (Kd.int .i64) 3 w32 w.heap.size (fun _ => True) (.slice (some ⟨go30, 0, none⟩) x3_3.length co18) y265 := (by rw [hw, Ny265.out]; exact HP31.1); clear HP31; have n0_ := zK (hp_); have n1_ := zK ((by rw [hw]; exact zI (HB.out) GB30.out : Below w.heap.size w w32)); clear HO_3 HB; have HO_3 := n0_; have HB := n1_; clear n0_ n1_ hg hw hp_)); try go_wp2_with (first | ((with_reducible refine gate_store (t := 3) (p := 57) rfl ?_); (try (rw [drewN_self wr]; generalize hq_ : World.drewN wr _ = wr; have n0_ := zK (Kd.R_at hq_ HO_3.out); have n1_ := zK (below_at hq_ HB.out); clear hq_ HO_3 HB; have HO_3 := n0_; have HB := n1_; clear n0_ n1_; (try (have HP31 := Kd.R_putg HO_3.out (x5_4 : Int) x4_1)))); refine store_event (t := 3) (p := 57) (v := ?vo_w32) (w1 := (wr.setCell ⟨go30, (x5_4 : Int).toNat, none⟩ (.int .i64 x4_1))) ?hg ?ho ?hn ?hr ?_; (case ho => rfl); (case hg => rfl); (case hn => rfl); (case hr => first | (go_simp; done) | (go_simp; rfl)); intro w32 hw; have hg : wr.grownBy w32 (some go30) := (by rw [hw]; exact HP31.2); have hp_ : Kd.R (Kd.int .i64) 3 w32 w.heap.size (fun _ => True) (.slice (some ⟨go30, 0, none⟩) x3_3.length co18) y265 := (by rw [hw, Ny265.out]; exact HP31.1); clear HP31; have n0_ := zK (hp_); have n1_ := zK ((by rw [hw]; exact zI (HB.out) GB30.out : Below w.heap.size w w32)); clear HO_3 HB; have HO_3 := n0_; have HB := n1_; clear n0_ n1_ hg hw hp_)))
             (try simp only [← hl3_3])
             go_roundg k3
             case measure => have := HK1.out; have := HJ4.out; have := HK3.out; omega
             case rel => exact ⟨(y265), (wrap64 (x4_1 + 1)), (by first | rfl | (simp; done) | (simp [*]; done)), H', ⟨by have := HK1.out; have := HJ4.out; have := HK3.out; omega⟩, ⟨by (try simp only [hl3_3]); (with_reducible repeat (first | apply zL | apply zM | apply zN)); exact HO_3.out⟩, ⟨by repeat (first | (with_reducible first | exact HB.out | apply zJ | apply zD | apply zE) | exact HB.out)⟩⟩
            ·rw [if_neg c29] at H
             exact absurd H (by simp)
           ·rw [if_neg c28] at H
            exact absurd H (by simp)
       ·rw [if_neg c16] at H
        exact absurd H (by simp)
    ·rw [if_neg c4] at H
     have c4b0 : decide (x4_1 < (l0.length : Int)) = false := yD c4
     (try simp only [hl3_3] at c4b0)
     clear c4
     obtain rfl := yY H
     go_wp2
     repeat (go_quiet (fail); try go_wp2)
     go_ret
     exact ⟨_, by first | rfl | (simp [errW_none, errW_some] <;> rfl) | (simp [*, errW_none, errW_some] <;> rfl), by (with_reducible repeat (first | apply zL | apply zM | apply zN)); exact HO_3.out, by repeat (first | (with_reducible first | exact HB.out | apply zJ | apply zD | apply zE) | exact HB.out)⟩

/-! ### r07_Top: function 51 -/
def r07_Top.f (k : Nat) (l0 : List Int) (a1 : Int) : Option (List Int) := (r07_Order.f k l0).bind fun t266 => (if a1 > 0 then (if a1 < (t266.length : Int) then (if 0 ≤ a1 then (if a1 ≤ (t266.length : Int) then (some (t266.take (a1 : Int).toNat)) else (none)) else (none)) else (some t266)) else (some t266))
theorem r07_Top.mono : ∀ a0 a1 k, LeO (r07_Top.f k a0 a1) (r07_Top.f (k + 1) a0 a1) := by
  intro a0 a1 k
  unfold r07_Top.f
  repeat' first
      | (with_reducible exact r07_Order.mono _ _)
      | (with_reducible exact yR _)
      | (with_reducible exact yO _)
      | (with_reducible refine yQ ?_ ?_)
      | (with_reducible refine yP ?_ (fun _ => ?_))
      | exact r07_Order.mono _ _
      | exact yO _
      | refine yQ ?_ ?_
      | refine yP ?_ (fun _ => ?_)
set_option maxHeartbeats 8000000 in
set_option maxRecDepth 100000 in
theorem r07_Top.calls (k : Nat) (A0 : Option Addr) (c0 : Nat) (l0 : List Int) (a1 : Int) (r : List Int) (w : World) (hr0 : Kd.C (Kd.int .i64) w A0 l0.length l0) (hc0 : l0.length ≤ c0) (h : r07_Top.f k l0 a1 = some r) :
    Calls Try.prog 51 #[.slice A0 l0.length c0, .int .i64 a1] w fun e w' => ∃ v0_ : Value, e = .returned (v0_) ∧ Kd.R (Kd.int .i64) 3 w' w.heap.size (fun _ => True) v0_ r ∧ Below w.heap.size w w' := by
  have HR0 := zK hr0
  have HC0 := zK hc0
  clear hr0 hc0
  have HB := zK (Below.refl w.heap.size w)
  have H : ((r07_Order.f k l0).bind fun t266 => (if a1 > 0 then (if a1 < (t266.length : Int) then (if 0 ≤ a1 then (if a1 ≤ (t266.length : Int) then (some (t266.take (a1 : Int).toNat)) else (none)) else (none)) else (some t266)) else (some t266))) = some r := h
  clear h
  replace H := yA.mp H
  obtain ⟨t266, A30, H⟩ := H
  replace H : (if a1 > 0 then (if a1 < (t266.length : Int) then (if 0 ≤ a1 then (if a1 ≤ (t266.length : Int) then (some (t266.take (a1 : Int).toNat)) else (none)) else (none)) else (some t266)) else (some t266)) = some r := H
  have A3 := zK A30
  clear A30
  by_cases c4 : a1 > 0
  ·rw [if_pos c4] at H
   have c4b0 : decide (0 < a1) = true := yC c4
   clear c4
   by_cases c5 : a1 < (t266.length : Int)
   ·rw [if_pos c5] at H
    have c5b0 : decide (a1 < (t266.length : Int)) = true := yC c5
    clear c5
    by_cases c6 : 0 ≤ a1
    ·rw [if_pos c6] at H
     have c6b0 := yg c6
     have c6b1 : decide (0 ≤ a1) = true := yC c6
     clear c6
     by_cases c7 : a1 ≤ (t266.length : Int)
     ·rw [if_pos c7] at H
      have c7b0 := yg c7
      have c7b1 : decide (a1 ≤ (t266.length : Int)) = true := yC c7
      clear c7
      obtain ⟨y269, hy269⟩ : ∃ y_ : List Int, y_ = (t266.take (a1 : Int).toNat) := ⟨_, rfl⟩
      replace H : (some y269) = some r := by first | (rw [hy269]; with_reducible exact H) | (have H2_ := (yV _ _).symm.trans H; rw [hy269]; with_reducible exact H2_) | (have H2_ := (yV _ _).symm.trans H; with_reducible exact H2_) | with_reducible exact H | (rw [hy269]; exact H) | exact H
      have Ny269 := zK hy269
      clear hy269
      obtain rfl := yY H
      go_enter Try.func51, Try.ntmps51
      go_wp2_with (first | ((with_reducible refine gate_callee (f := 77) rfl ?_); refine goesL_ (some 7) rfl rfl Try.func77 (by kernel_rfl) rfl #[.slice A0 l0.length c0] rfl (by (try simp only [yH, yI, yJ]); first | done | rfl | (simp only [yG, yF]; rfl)) ?_; (with_reducible refine (r07_Order.calls k _ _ l0 t266 _ ?side1 ?side2 A3.out).mono ?_); (case side1 => repeat (first | exact HR0.out | (with_reducible refine yS ?_ _) | (with_reducible refine yT ?_ _) | (with_reducible refine yU ?_))); (case side2 => exact HC0.out); rintro e w8 ⟨v267, rfl, ho0, hb⟩; refine ⟨_, rfl, ?_⟩; have n0_ := zK (Kd.R_lower ho0 (yK (by repeat (first | (with_reducible first | exact HB.out | apply zJ | apply zD | apply zE) | exact HB.out)))); have n1_ := zK (yL (by repeat (first | (with_reducible first | exact HB.out | apply zJ | apply zD | apply zE) | exact HB.out)) hb); clear HB; have HO268 := n0_; have HB := n1_; clear n0_ n1_; (try clear hb); (try clear hb2); (try clear hk); (try clear hi); (try clear ho0); obtain ⟨Ao9, co9, eo9⟩ := Kd.R_slice HO268.out; subst eo9; have q10 : (a1 : Int) ≤ ((t266.length : Int) : Int) := yB (by first | (with_reducible assumption) | assumption); obtain ⟨i010, hi010, _, hsz10, _⟩ := yj info3; have hcut10 := cut_to (P := Try.prog) 51 3 .i64 Try.underlying51 hi010 Ao9 t266.length co9 a1 (yB (by first | (with_reducible assumption) | assumption)) q10 (yM HO268.out).2.1; have hr10 := Kd.R_take (m := (a1 : Int).toNat) HO268.out (by omega); have hy10 : y269.length = (a1 : Int).toNat := (by rw [Ny269.out, yF]; omega); rw [← Ny269.out] at hr10; rw [← hy10] at hr10 hcut10; clear hy10 hi010 hsz10 HO268; have HO271 := zK hr10; clear hr10; replace q10 := yg q10))
      go_ret
      exact ⟨_, by first | rfl | (simp [errW_none, errW_some] <;> rfl) | (simp [*, errW_none, errW_some] <;> rfl), by (with_reducible repeat (first | apply zL | apply zM | apply zN)); exact HO271.out, by repeat (first | (with_reducible first | exact HB.out | apply zJ | apply zD | apply zE) | exact HB.out)⟩
     ·rw [if_neg c7] at H
      exact absurd H (by simp)
    ·rw [if_neg c6] at H
     exact absurd H (by simp)
   ·rw [if_neg c5] at H
    have c5b0 : decide (a1 < (t266.length : Int)) = false := yD c5
    clear c5
    obtain rfl := yY H
    go_enter Try.func51, Try.ntmps51
    go_wp2_with (first | ((with_reducible refine gate_callee (f := 77) rfl ?_); refine goesL_ (some 7) rfl rfl Try.func77 (by kernel_rfl) rfl #[.slice A0 l0.length c0] rfl (by (try simp only [yH, yI, yJ]); first | done | rfl | (simp only [yG, yF]; rfl)) ?_; (with_reducible refine (r07_Order.calls k _ _ l0 t266 _ ?side1 ?side2 A3.out).mono ?_); (case side1 => repeat (first | exact HR0.out | (with_reducible refine yS ?_ _) | (with_reducible refine yT ?_ _) | (with_reducible refine yU ?_))); (case side2 => exact HC0.out); rintro e w11 ⟨v267, rfl, ho0, hb⟩; refine ⟨_, rfl, ?_⟩; have n0_ := zK (Kd.R_lower ho0 (yK (by repeat (first | (with_reducible first | exact HB.out | apply zJ | apply zD | apply zE) | exact HB.out)))); have n1_ := zK (yL (by repeat (first | (with_reducible first | exact HB.out | apply zJ | apply zD | apply zE) | exact HB.out)) hb); clear HB; have HO268 := n0_; have HB := n1_; clear n0_ n1_; (try clear hb); (try clear hb2); (try clear hk); (try clear hi); (try clear ho0); obtain ⟨Ao12, co12, eo12⟩ := Kd.R_slice HO268.out; subst eo12))
    go_ret
    exact ⟨_, by first | rfl | (simp [errW_none, errW_some] <;> rfl) | (simp [*, errW_none, errW_some] <;> rfl), by (with_reducible repeat (first | apply zL | apply zM | apply zN)); exact HO268.out, by repeat (first | (with_reducible first | exact HB.out | apply zJ | apply zD | apply zE) | exact HB.out)⟩
  ·rw [if_neg c4] at H
   have c4b0 : decide (0 < a1) = false := yD c4
   clear c4
   obtain rfl := yY H
   go_enter Try.func51, Try.ntmps51
   go_wp2_with (first | ((with_reducible refine gate_callee (f := 77) rfl ?_); refine goesL_ (some 7) rfl rfl Try.func77 (by kernel_rfl) rfl #[.slice A0 l0.length c0] rfl (by (try simp only [yH, yI, yJ]); first | done | rfl | (simp only [yG, yF]; rfl)) ?_; (with_reducible refine (r07_Order.calls k _ _ l0 t266 _ ?side1 ?side2 A3.out).mono ?_); (case side1 => repeat (first | exact HR0.out | (with_reducible refine yS ?_ _) | (with_reducible refine yT ?_ _) | (with_reducible refine yU ?_))); (case side2 => exact HC0.out); rintro e w13 ⟨v267, rfl, ho0, hb⟩; refine ⟨_, rfl, ?_⟩; have n0_ := zK (Kd.R_lower ho0 (yK (by repeat (first | (with_reducible first | exact HB.out | apply zJ | apply zD | apply zE) | exact HB.out)))); have n1_ := zK (yL (by repeat (first | (with_reducible first | exact HB.out | apply zJ | apply zD | apply zE) | exact HB.out)) hb); clear HB; have HO268 := n0_; have HB := n1_; clear n0_ n1_; (try clear hb); (try clear hb2); (try clear hk); (try clear hi); (try clear ho0)))
   go_ret
   exact ⟨_, by first | rfl | (simp [errW_none, errW_some] <;> rfl) | (simp [*, errW_none, errW_some] <;> rfl), by (with_reducible repeat (first | apply zL | apply zM | apply zN)); exact HO268.out, by repeat (first | (with_reducible first | exact HB.out | apply zJ | apply zD | apply zE) | exact HB.out)⟩

/-! ### r07_sum: function 78 -/
def r07_sum.l0 : Nat → List Int → Int → Int → Option (Int × Int)
  | 0, _, _, _ => none
  | k + 1, x0, x4, x5 => if x5 < (x0.length : Int) then (if 0 ≤ x5 then (if (rd x0 x5) < 0 then (some (0, 70)) else (if (rd x0 x5) > 1073741824 then (some (0, 70)) else (r07_sum.l0 k x0 (wrap64 (x4 + (rd x0 x5))) (wrap64 (x5 + 1))))) else (none)) else (if x4 = 0 then (some (0, 71)) else (some (x4, 0)))
def r07_sum.f (k : Nat) (l0 : List Int) : Option (Int × Int) := if (l0.length : Int) > 4096 then (some (0, 70)) else (r07_sum.l0 k l0 0 0)
theorem r07_sum.mono_l : ∀ k, (∀ y0 y1 y2, LeO (r07_sum.l0 k y0 y1 y2) (r07_sum.l0 (k + 1) y0 y1 y2))
  | 0 => fun _ _ _ r h => by simp [r07_sum.l0] at h
  | k + 1 => by
    have ih0 := r07_sum.mono_l k
    intros
    unfold r07_sum.l0
    all_goals repeat' first
      | (with_reducible exact ih0 _ _ _)
      | (with_reducible exact yR _)
      | (with_reducible exact yO _)
      | (with_reducible refine yQ ?_ ?_)
      | (with_reducible refine yP ?_ (fun _ => ?_))
      | exact ih0 _ _ _
      | exact yO _
      | refine yQ ?_ ?_
      | refine yP ?_ (fun _ => ?_)
theorem r07_sum.mono : ∀ a0 k, LeO (r07_sum.f k a0) (r07_sum.f (k + 1) a0) := by
  intro a0 k
  have ih0 := r07_sum.mono_l k
  unfold r07_sum.f
  repeat' first
      | (with_reducible exact ih0 _ _ _)
      | (with_reducible exact yR _)
      | (with_reducible exact yO _)
      | (with_reducible refine yQ ?_ ?_)
      | (with_reducible refine yP ?_ (fun _ => ?_))
      | exact ih0 _ _ _
      | exact yO _
      | refine yQ ?_ ?_
      | refine yP ?_ (fun _ => ?_)
set_option maxHeartbeats 8000000 in
set_option maxRecDepth 100000 in
theorem r07_sum.calls (k : Nat) (A0 : Option Addr) (c0 : Nat) (l0 : List Int) (r1 : Int) (r2 : Int) (w : World) (hr0 : Kd.C (Kd.int .i64) w A0 l0.length l0) (hc0 : l0.length ≤ c0) (h : r07_sum.f k l0 = some (r1, r2)) :
    Calls Try.prog 78 #[.slice A0 l0.length c0] w fun e w' => e = .returned (.tuple #[.int .i64 r1, .int .i64 r2]) ∧ Drawn0 w w' := by
  have HR0 := zK hr0
  have HC0 := zK hc0
  clear hr0 hc0
  have H : (if (l0.length : Int) > 4096 then (some (0, 70)) else (r07_sum.l0 k l0 0 0)) = some (r1, r2) := h
  clear h
  by_cases c2 : (l0.length : Int) > 4096
  ·rw [if_pos c2] at H
   have c2b0 : decide (4096 < (l0.length : Int)) = true := yC c2
   have c2b1 : decide (4096 < l0.length) = true := yC (by omega)
   clear c2
   simp only [yZ, ya] at H
   obtain ⟨rfl, rfl⟩ := H
   go_enter Try.func78, Try.ntmps78
   go_wp2
   go_ret2
   exact ⟨by first | rfl | (simp; done) | (simp [*]; done), by repeat (first | exact Drawn0.refl _ | apply Drawn0.step)⟩
  ·rw [if_neg c2] at H
   have c2b0 : decide (4096 < (l0.length : Int)) = false := yD c2
   have c2b1 : decide (4096 < l0.length) = false := yD (by omega)
   clear c2
   have H' := zK H
   clear H
   go_enter Try.func78, Try.ntmps78
   go_wp2
   go_loopg [4, 5] k (fun kq v4 v5 w' => ∃ (x4_1 : Int) (x5_1 : Int), v4 = .int .i64 x4_1 ∧ v5 = .int .i64 x5_1 ∧ Aside0 (r07_sum.l0 kq l0 x4_1 x5_1 = some (r1, r2)) ∧ Aside0 (kq ≤ k) ∧ Drawn0 w w')
   case atStart => exact ⟨(0), (0), (by first | rfl | (simp; done) | (simp [*]; done)), (by first | rfl | (simp; done) | (simp [*]; done)), H', ⟨yN _⟩, by repeat (first | exact Drawn0.refl _ | apply Drawn0.step)⟩
   case round =>
    clear H'
    try clear c2
    try clear c2b0
    try clear c2b1
    try clear p2
    obtain ⟨x4_1, x5_1, rfl, rfl, HA, HK1, ⟨m1, rfl⟩⟩ := hrel
    cases gk with
    | zero => exact absurd HA.out (by simp [r07_sum.l0])
    | succ k1 =>
     have H := HA.out
     clear HA
     simp only [r07_sum.l0] at H
     by_cases c3 : x5_1 < (l0.length : Int)
     ·rw [if_pos c3] at H
      have c3b0 : decide (x5_1 < (l0.length : Int)) = true := yC c3
      clear c3
      by_cases c4 : 0 ≤ x5_1
      ·rw [if_pos c4] at H
       have c4b0 : decide (0 ≤ x5_1) = true := yC c4
       clear c4
       by_cases c5 : (rd l0 x5_1) < 0
       ·rw [if_pos c5] at H
        have c5b0 : decide ((rd l0 x5_1) < 0) = true := yC c5
        clear c5
        simp only [yZ, ya] at H
        obtain ⟨rfl, rfl⟩ := H
        have p272 : 0 ≤ (x5_1 : Int) := yB (by first | (with_reducible assumption) | assumption)
        have q272 : x5_1 < (l0.length : Int) := yB (by first | (with_reducible assumption) | assumption)
        obtain ⟨ad272, e272, hx272_0⟩ := Kd.at_int HR0.out x5_1 p272 q272
        cases e272
        replace p272 := yg p272
        replace q272 := yg q272
        go_wp2
        go_ret2
        exact ⟨by first | rfl | (simp; done) | (simp [*]; done), by repeat (first | exact Drawn0.refl _ | apply Drawn0.step)⟩
       ·rw [if_neg c5] at H
        have c5b0 : decide ((rd l0 x5_1) < 0) = false := yD c5
        clear c5
        by_cases c6 : (rd l0 x5_1) > 1073741824
        ·rw [if_pos c6] at H
         have c6b0 : decide (1073741824 < (rd l0 x5_1)) = true := yC c6
         clear c6
         simp only [yZ, ya] at H
         obtain ⟨rfl, rfl⟩ := H
         have p272 : 0 ≤ (x5_1 : Int) := yB (by first | (with_reducible assumption) | assumption)
         have q272 : x5_1 < (l0.length : Int) := yB (by first | (with_reducible assumption) | assumption)
         obtain ⟨ad272, e272, hx272_0⟩ := Kd.at_int HR0.out x5_1 p272 q272
         cases e272
         replace p272 := yg p272
         replace q272 := yg q272
         have p273 : 0 ≤ (x5_1 : Int) := yB (by first | (with_reducible assumption) | assumption)
         have q273 : x5_1 < (l0.length : Int) := yB (by first | (with_reducible assumption) | assumption)
         obtain ⟨ad273, e273, hx273_0⟩ := Kd.at_int HR0.out x5_1 p273 q273
         obtain rfl : ad272 = ad273 := (by injection e273)
         replace p273 := yg p273
         replace q273 := yg q273
         go_wp2
         go_ret2
         exact ⟨by first | rfl | (simp; done) | (simp [*]; done), by repeat (first | exact Drawn0.refl _ | apply Drawn0.step)⟩
        ·rw [if_neg c6] at H
         have c6b0 : decide (1073741824 < (rd l0 x5_1)) = false := yD c6
         clear c6
         have H' := zK H
         clear H
         have p272 : 0 ≤ (x5_1 : Int) := yB (by first | (with_reducible assumption) | assumption)
         have q272 : x5_1 < (l0.length : Int) := yB (by first | (with_reducible assumption) | assumption)
         obtain ⟨ad272, e272, hx272_0⟩ := Kd.at_int HR0.out x5_1 p272 q272
         cases e272
         replace p272 := yg p272
         replace q272 := yg q272
         have p273 : 0 ≤ (x5_1 : Int) := yB (by first | (with_reducible assumption) | assumption)
         have q273 : x5_1 < (l0.length : Int) := yB (by first | (with_reducible assumption) | assumption)
         obtain ⟨ad273, e273, hx273_0⟩ := Kd.at_int HR0.out x5_1 p273 q273
         obtain rfl : ad272 = ad273 := (by injection e273)
         replace p273 := yg p273
         replace q273 := yg q273
         have p274 : 0 ≤ (x5_1 : Int) := yB (by first | (with_reducible assumption) | assumption)
         have q274 : x5_1 < (l0.length : Int) := yB (by first | (with_reducible assumption) | assumption)
         obtain ⟨ad274, e274, hx274_0⟩ := Kd.at_int HR0.out x5_1 p274 q274
         obtain rfl : ad272 = ad274 := (by injection e274)
         replace p274 := yg p274
         replace q274 := yg q274
         go_wp2
         go_roundg k1
         case measure => have := HK1.out; omega
         case rel => exact ⟨(wrap64 (x4_1 + (rd l0 x5_1))), (wrap64 (x5_1 + 1)), (by first | rfl | (simp; done) | (simp [*]; done)), (by first | rfl | (simp; done) | (simp [*]; done)), H', ⟨by have := HK1.out; omega⟩, by repeat (first | exact Drawn0.refl _ | apply Drawn0.step)⟩
      ·rw [if_neg c4] at H
       exact absurd H (by simp)
     ·rw [if_neg c3] at H
      have c3b0 : decide (x5_1 < (l0.length : Int)) = false := yD c3
      clear c3
      by_cases c7 : x4_1 = 0
      ·rw [if_pos c7] at H
       have c7b0 : (x4_1 == 0) = true := beq_iff_eq.mpr c7
       have c7b1 : (x4_1 != 0) = false := bne_eq_false_iff_eq.mpr c7
       clear c7
       simp only [yZ, ya] at H
       obtain ⟨rfl, rfl⟩ := H
       go_wp2
       go_ret2
       exact ⟨by first | rfl | (simp; done) | (simp [*]; done), by repeat (first | exact Drawn0.refl _ | apply Drawn0.step)⟩
      ·rw [if_neg c7] at H
       have c7b0 : (x4_1 == 0) = false := beq_eq_false_iff_ne.mpr c7
       have c7b1 : (x4_1 != 0) = true := bne_iff_ne.mpr c7
       simp only [yZ, ya] at H
       obtain ⟨rfl, rfl⟩ := H
       go_wp2
       go_ret2
       exact ⟨by first | rfl | (simp; done) | (simp [*]; done), by repeat (first | exact Drawn0.refl _ | apply Drawn0.step)⟩

end Go.Proofs.Ythmckhfjaleomaa.T
