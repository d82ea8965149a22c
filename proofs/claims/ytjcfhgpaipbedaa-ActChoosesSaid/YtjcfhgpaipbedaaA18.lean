-- Printed by this session's own driver (wip/tools/xprint.py) over the kit's printer; given functions are this session's own.
import Derived.Test.YtjcfhgpaipbedaaA0
namespace Go.Proofs.Ytjcfhgpaipbedaa.A
open Go.RowKit Go.Proofs.YtjcfhgpaipbedaaW.PrintWords Go.Proofs.YtjcfhgpaipbedaaW.PrintLast Go.Proofs.YtjcfhgpaipbedaaW.PrintMore
attribute [local go_sem] max2_int min2_int max_two min_two max_three min_three max_four min_four   -- for this text's walks alone
set_option linter.unusedVariables false
set_option linter.unusedSimpArgs false

-- NOT PRINTED: function 64 (slices_insertionSortCmpFunc_int)

-- NOT PRINTED: function 67 (slices_swapRangeCmpFunc_int)

-- NOT PRINTED: function 66 (slices_rotateCmpFunc_int)

-- NOT PRINTED: function 65 (slices_symMergeCmpFunc_int)

-- NOT PRINTED: function 58 (slices_stableCmpFunc_int)

-- NOT PRINTED: function 36 (slices_SortStableFunc_int_int)

-- NOT PRINTED: function 22 (act_Choose)

/-! ### r07_Order: function 39 -/
mutual
def r07_Order.l0 : Nat → List Int → List Int → Int → Option (List Int)
 | 0, _, _, _ => none
 | k + 1, x0, x3, x4 => if x4 < (x0.length : Int) then (r07_Order.l1 k x0 x3 x4 (x3.length : Int)) else (some x3)
def r07_Order.j2 : Nat → List Int → List Int → Int → Int → Option (List Int)
 | 0, _, _, _, _ => none
 | k + 1, x0, x3, x4, x5 => if x3.length < 17592186044416 then ((some (x3 ++ [0] : List Int)).bind fun y552 => (r07_Order.l2 k x0 y552 x4 x5 (wrap64 ((y552.length : Int) - 1)))) else (none)
def r07_Order.l2 : Nat → List Int → List Int → Int → Int → Int → Option (List Int)
 | 0, _, _, _, _, _ => none
 | k + 1, x0, x3, x4, x5, x6 => if x6 > x5 then (if 0 ≤ (wrap64 (x6 - 1)) then (if (wrap64 (x6 - 1)) < (x3.length : Int) then (if 0 ≤ x6 then (if x6 < (x3.length : Int) then (r07_Order.l2 k x0 (x3.set (x6 : Int).toNat (rd x3 (wrap64 (x6 - 1)))) x4 x5 (wrap64 (x6 - 1))) else (none)) else (none)) else (none)) else (none)) else (if 0 ≤ x5 then (if x5 < (x3.length : Int) then (r07_Order.l0 k x0 (x3.set (x5 : Int).toNat x4) (wrap64 (x4 + 1))) else (none)) else (none))
def r07_Order.l1 : Nat → List Int → List Int → Int → Int → Option (List Int)
 | 0, _, _, _, _ => none
 | k + 1, x0, x3, x4, x5 => if x5 > 0 then (if 0 ≤ (wrap64 (x5 - 1)) then (if (wrap64 (x5 - 1)) < (x3.length : Int) then (if 0 ≤ (rd x3 (wrap64 (x5 - 1))) then (if (rd x3 (wrap64 (x5 - 1))) < (x0.length : Int) then (if 0 ≤ x4 then (if x4 < (x0.length : Int) then (if (rd x0 (rd x3 (wrap64 (x5 - 1)))) < (rd x0 x4) then (r07_Order.l1 k x0 x3 x4 (wrap64 (x5 - 1))) else (r07_Order.j2 k x0 x3 x4 x5)) else (none)) else (none)) else (none)) else (none)) else (none)) else (none)) else (r07_Order.j2 k x0 x3 x4 x5)
end
def r07_Order.f (k : Nat) (l0 : List Int) : Option (List Int) := r07_Order.l0 k l0 (([] : List Int)) 0
theorem r07_Order.mono_l : ∀ k, (∀ y0 y1 y2, LeO (r07_Order.l0 k y0 y1 y2) (r07_Order.l0 (k + 1) y0 y1 y2)) ∧ (∀ y0 y1 y2 y3, LeO (r07_Order.j2 k y0 y1 y2 y3) (r07_Order.j2 (k + 1) y0 y1 y2 y3)) ∧ (∀ y0 y1 y2 y3 y4, LeO (r07_Order.l2 k y0 y1 y2 y3 y4) (r07_Order.l2 (k + 1) y0 y1 y2 y3 y4)) ∧ (∀ y0 y1 y2 y3, LeO (r07_Order.l1 k y0 y1 y2 y3) (r07_Order.l1 (k + 1) y0 y1 y2 y3))
 | 0 => ⟨fun _ _ _ r h => by simp [r07_Order.l0] at h, fun _ _ _ _ r h => by simp [r07_Order.j2] at h, fun _ _ _ _ _ r h => by simp [r07_Order.l2] at h, fun _ _ _ _ r h => by simp [r07_Order.l1] at h⟩
 | k + 1 => by
  obtain ⟨ih0, ih1, ih2, ih3⟩ := r07_Order.mono_l k
  refine ⟨?_, ?_, ?_, ?_⟩ <;> (intros; first | unfold r07_Order.l0 | unfold r07_Order.j2 | unfold r07_Order.l2 | unfold r07_Order.l1)
  all_goals repeat' first
   | (with_reducible exact ih0 _ _ _)
   | (with_reducible exact ih1 _ _ _ _)
   | (with_reducible exact ih2 _ _ _ _ _)
   | (with_reducible exact ih3 _ _ _ _)
   | (with_reducible exact yR _)
   | (with_reducible exact yO _)
   | (with_reducible refine yQ ?_ ?_)
   | (with_reducible refine yP ?_ (fun _ => ?_))
   | exact ih0 _ _ _
   | exact ih1 _ _ _ _
   | exact ih2 _ _ _ _ _
   | exact ih3 _ _ _ _
   | exact yO _
   | refine yQ ?_ ?_
   | refine yP ?_ (fun _ => ?_)
theorem r07_Order.mono : ∀ a0 k, LeO (r07_Order.f k a0) (r07_Order.f (k + 1) a0) := by
 intro a0 k
 obtain ⟨ih0, ih1, ih2, ih3⟩ := r07_Order.mono_l k
 unfold r07_Order.f
 repeat' first
   | (with_reducible exact ih0 _ _ _)
   | (with_reducible exact ih1 _ _ _ _)
   | (with_reducible exact ih2 _ _ _ _ _)
   | (with_reducible exact ih3 _ _ _ _)
   | (with_reducible exact yR _)
   | (with_reducible exact yO _)
   | (with_reducible refine yQ ?_ ?_)
   | (with_reducible refine yP ?_ (fun _ => ?_))
   | exact ih0 _ _ _
   | exact ih1 _ _ _ _
   | exact ih2 _ _ _ _ _
   | exact ih3 _ _ _ _
   | exact yO _
   | refine yQ ?_ ?_
   | refine yP ?_ (fun _ => ?_)
set_option maxHeartbeats 8000000 in
set_option maxRecDepth 100000 in
theorem r07_Order.calls (k : Nat) (A0 : Option Addr) (c0 : Nat) (l0 : List Int) (r : List Int) (w : World) (hr0 : Kd.C (Kd.int .i64) w A0 l0.length l0) (hc0 : l0.length ≤ c0) (h : r07_Order.f k l0 = some r) :
  Calls Try.prog 39 #[.slice A0 l0.length c0] w fun e w' => ∃ v0_ : Value, e = .returned (v0_) ∧ Kd.R (Kd.int .i64) 3 w' w.heap.size (fun _ => True) v0_ r ∧ Below w.heap.size w w' := by
 have HR0 := zK hr0
 have HC0 := zK hc0
 clear hr0 hc0
 have HB := zK (Below.refl w.heap.size w)
 have H : (r07_Order.l0 k l0 (([] : List Int)) 0) = some r := h
 clear h
 obtain ⟨y546, hy546⟩ : ∃ y_ : List Int, y_ = (([] : List Int)) := ⟨_, rfl⟩
 replace H : (r07_Order.l0 k l0 y546 0) = some r := by first | (rw [hy546]; with_reducible exact H) | (have H2_ := (yV _ _).symm.trans H; rw [hy546]; with_reducible exact H2_) | (have H2_ := (yV _ _).symm.trans H; with_reducible exact H2_) | with_reducible exact H | (rw [hy546]; exact H) | exact H
 have Ny546 := zK hy546
 clear hy546
 have H' := zK H
 clear H
 go_enter Try.func39, Try.ntmps39
 go_wp2_with (first | ((with_reducible refine gate_dst (N := 7) rfl ?_); refine Kd.R_lit (Kd.int .i64) _ 3 ?hg (N := 7) ?hd (xs := ([] : List Int)) (inner := []) (ok := fun _ => True) (okp := fun _ => True) ?hr ?hp (fun _ hk => hk) trivial (Below.refl _ _) (yN _) (by simp) ?_; (case hd => rfl); (case hg => rfl); (case hr => first | (go_simp; done) | (go_simp; rfl)); (case hp => exact (Reps.none _ _)); intro v547 w2 ho3 hb hg_ hnew_; clear hg_ hnew_; (first | rw [← Ny546.out] at ho3 | (simp only [Int.reduceToNat] at ho3; rw [← Ny546.out] at ho3)); have n0_ := zK (Kd.R_lower ho3 (yK (by repeat (first | (with_reducible first | exact HB.out | apply zJ | apply zD | apply zE) | exact HB.out)))); have n1_ := zK (yL (by repeat (first | (with_reducible first | exact HB.out | apply zJ | apply zD | apply zE) | exact HB.out)) hb); clear HB; have HO548 := n0_; have HB := n1_; clear n0_ n1_ hb ho3))
 repeat (go_quiet (first | ((with_reducible refine gate_dst (N := 7) rfl ?_); refine Kd.R_lit (Kd.int .i64) _ 3 ?hg (N := 7) ?hd (xs := ([] : List Int)) (inner := []) (ok := fun _ => True) (okp := fun _ => True) ?hr ?hp (fun _ hk => hk) trivial (Below.refl _ _) (yN _) (by simp) ?_; (case hd => rfl); (case hg => rfl); (case hr => first | (go_simp; done) | (go_simp; rfl)); (case hp => exact (Reps.none _ _)); intro v547 w2 ho3 hb hg_ hnew_; clear hg_ hnew_; (first | rw [← Ny546.out] at ho3 | (simp only [Int.reduceToNat] at ho3; rw [← Ny546.out] at ho3)); have n0_ := zK (Kd.R_lower ho3 (yK (by repeat (first | (with_reducible first | exact HB.out | apply zJ | apply zD | apply zE) | exact HB.out)))); have n1_ := zK (yL (by repeat (first | (with_reducible first | exact HB.out | apply zJ | apply zD | apply zE) | exact HB.out)) hb); clear HB; have HO548 := n0_; have HB := n1_; clear n0_ n1_ hb ho3)); try go_wp2_with (first | ((with_reducible refine gate_dst (N := 7) rfl ?_); refine Kd.R_lit (Kd.int .i64) _ 3 ?hg (N := 7) ?hd (xs := ([] : List Int)) (inner := []) (ok := fun _ => True) (okp := fun _ => True) ?hr ?hp (fun _ hk => hk) trivial (Below.refl _ _) (yN _) (by simp) ?_; (case hd => rfl); (case hg => rfl); (case hr => first | (go_simp; done) | (go_simp; rfl)); (case hp => exact (Reps.none _ _)); intro v547 w2 ho3 hb hg_ hnew_; clear hg_ hnew_; (first | rw [← Ny546.out] at ho3 | (simp only [Int.reduceToNat] at ho3; rw [← Ny546.out] at ho3)); have n0_ := zK (Kd.R_lower ho3 (yK (by repeat (first | (with_reducible first | exact HB.out | apply zJ | apply zD | apply zE) | exact HB.out)))); have n1_ := zK (yL (by repeat (first | (with_reducible first | exact HB.out | apply zJ | apply zD | apply zE) | exact HB.out)) hb); clear HB; have HO548 := n0_; have HB := n1_; clear n0_ n1_ hb ho3)))
 go_loopg [3, 4] k (fun kq v3 v4 w' => ∃ (x3_1 : List Int) (x4_1 : Int), v4 = .int .i64 x4_1 ∧ Aside0 (r07_Order.l0 kq l0 x3_1 x4_1 = some r) ∧ Aside0 (kq ≤ k) ∧ Aside0 (Kd.R (Kd.int .i64) 3 w' w.heap.size (fun _ => True) v3 x3_1) ∧ Aside0 (Below w.heap.size w w'))
 case atStart => exact ⟨(y546), (0), (by first | rfl | (simp; done) | (simp [*]; done)), H', ⟨yN _⟩, ⟨by (with_reducible repeat (first | apply zL | apply zM | apply zN)); exact HO548.out⟩, ⟨by repeat (first | (with_reducible first | exact HB.out | apply zJ | apply zD | apply zE) | exact HB.out)⟩⟩
 case round =>
  clear H'
  try clear p2
  try clear c3
  obtain ⟨x3_1, x4_1, rfl, HA, HK1, HO_3, HB⟩ := hrel
  cases gk with
  | zero => exact absurd HA.out (by simp [r07_Order.l0])
  | succ k1 =>
   have H := HA.out
   clear HA
   simp only [r07_Order.l0] at H
   by_cases c4 : x4_1 < (l0.length : Int)
   ·rw [if_pos c4] at H
    have c4b0 : decide (x4_1 < (l0.length : Int)) = true := yC c4
    clear c4
    have HC5 := zK H
    clear H
    obtain ⟨Ao6, co6, eo6⟩ := Kd.R_slice HO_3.out
    subst eo6
    go_upto_block 2 with (fail)
    repeat (go_quiet (fail); go_upto_block 2 with (fail))
    go_cut [5] (fun v5 wc => ∃ (kq : Nat) (x5_4 : Int), v5 = .int .i64 x5_4 ∧ Aside0 (r07_Order.j2 kq l0 x3_1 x4_1 x5_4 = some r) ∧ Aside0 (kq ≤ k1) ∧ Aside0 (Kd.R (Kd.int .i64) 3 wc w.heap.size (fun _ => True) (.slice Ao6 x3_1.length co6) x3_1) ∧ Aside0 (Below w.heap.size w wc))
    case first =>
     have H := HC5.out
     clear HC5
     have H' := zK H
     clear H
     go_wp2
     repeat (go_quiet (fail); try go_wp2)
     go_loopg [5] k1 (fun kq v5 w' => ∃ (x5_2 : Int), v5 = .int .i64 x5_2 ∧ Aside0 (r07_Order.l1 kq l0 x3_1 x4_1 x5_2 = some r) ∧ Aside0 (kq ≤ k1) ∧ Aside0 (Kd.R (Kd.int .i64) 3 w' w.heap.size (fun _ => True) (.slice Ao6 x3_1.length co6) x3_1) ∧ Aside0 (Below w.heap.size w w'))
     case atStart => exact ⟨((x3_1.length : Int)), (by first | rfl | (simp; done) | (simp [*]; done)), H', ⟨yN _⟩, ⟨by (with_reducible repeat (first | apply zL | apply zM | apply zN)); exact HO_3.out⟩, ⟨by repeat (first | (with_reducible first | exact HB.out | apply zJ | apply zD | apply zE) | exact HB.out)⟩⟩
     case round =>
      clear H'
      try clear p2
      try clear c3
      try clear c4
      try clear c4b0
      try clear p2
      obtain ⟨x5_2, rfl, HA, HK2, HO_3, HB⟩ := hrel
      cases gk with
      | zero => exact absurd HA.out (by simp [r07_Order.l1])
      | succ k2 =>
       have H := HA.out
       clear HA
       simp only [r07_Order.l1] at H
       by_cases c7 : x5_2 > 0
       ·rw [if_pos c7] at H
        have c7b0 : decide (0 < x5_2) = true := yC c7
        clear c7
        (first | rw [c7b0] | (simp only [i64_w, i32_w]; rw [c7b0]) | skip)
        obtain ⟨ji8, hji8⟩ : ∃ j_ : Int, (wrap64 (x5_2 - 1)) = j_ := ⟨_, rfl⟩
        replace H : (if 0 ≤ (ji8) then (if (ji8) < (x3_1.length : Int) then (if 0 ≤ (rd x3_1 (ji8)) then (if (rd x3_1 (ji8)) < (l0.length : Int) then (if 0 ≤ x4_1 then (if x4_1 < (l0.length : Int) then (if (rd l0 (rd x3_1 (ji8))) < (rd l0 x4_1) then (r07_Order.l1 k2 l0 x3_1 x4_1 ji8) else (r07_Order.j2 k2 l0 x3_1 x4_1 x5_2)) else (none)) else (none)) else (none)) else (none)) else (none)) else (none)) = some r := by first | (rw [hji8] at H; exact H) | (simp only [hji8] at H ⊢; exact H)
        have hji8w : (IntKind.i64.wrap (x5_2 - 1)) = ji8 := (i64_w _).trans hji8
        by_cases c9 : 0 ≤ (ji8)
        ·rw [if_pos c9] at H
         have c9b0 : decide (0 ≤ (ji8)) = true := yC c9
         clear c9
         by_cases c10 : (ji8) < (x3_1.length : Int)
         ·rw [if_pos c10] at H
          have c10b0 : decide ((ji8) < (x3_1.length : Int)) = true := yC c10
          clear c10
          by_cases c11 : 0 ≤ (rd x3_1 (ji8))
          ·rw [if_pos c11] at H
           have c11b0 : decide (0 ≤ (rd x3_1 (ji8))) = true := yC c11
           clear c11
           by_cases c12 : (rd x3_1 (ji8)) < (l0.length : Int)
           ·rw [if_pos c12] at H
            have c12b0 : decide ((rd x3_1 (ji8)) < (l0.length : Int)) = true := yC c12
            clear c12
            by_cases c13 : 0 ≤ x4_1
            ·rw [if_pos c13] at H
             have c13b0 : decide (0 ≤ x4_1) = true := yC c13
             clear c13
             by_cases c14 : x4_1 < (l0.length : Int)
             ·rw [if_pos c14] at H
              have c14b0 : decide (x4_1 < (l0.length : Int)) = true := yC c14
              clear c14
              by_cases c15 : (rd l0 (rd x3_1 (ji8))) < (rd l0 x4_1)
              ·rw [if_pos c15] at H
               have c15b0 : decide ((rd l0 (rd x3_1 (ji8))) < (rd l0 x4_1)) = true := yC c15
               clear c15
               have H' := zK H
               clear H
               have p549 : 0 ≤ ((ji8) : Int) := yB (by first | (with_reducible assumption) | assumption)
               have q549 : (ji8) < (x3_1.length : Int) := yB (by first | (with_reducible assumption) | assumption)
               (try (obtain ⟨Ai549, ci549, ei549⟩ := Kd.R_slice HO_3.out; subst ei549))
               obtain ⟨ad549, e549, hx549_0⟩ := Kd.at_int (yM HO_3.out).2.2 (ji8) p549 q549
               cases e549
               replace p549 := yg p549
               replace q549 := yg q549
               have p550 : 0 ≤ ((rd x3_1 (ji8)) : Int) := yB (by first | (with_reducible assumption) | assumption)
               have q550 : (rd x3_1 (ji8)) < (l0.length : Int) := yB (by first | (with_reducible assumption) | assumption)
               obtain ⟨ad550, e550, hx550_0⟩ := Kd.at_int HR0.out (rd x3_1 (ji8)) p550 q550
               cases e550
               replace hx550_0 := (HB.out.cell (World.block_lt_of_cell? w _ hx550_0)).trans hx550_0
               replace p550 := yg p550
               replace q550 := yg q550
               have p551 : 0 ≤ (x4_1 : Int) := yB (by first | (with_reducible assumption) | assumption)
               have q551 : x4_1 < (l0.length : Int) := yB (by first | (with_reducible assumption) | assumption)
               obtain ⟨ad551, e551, hx551_0⟩ := Kd.at_int HR0.out x4_1 p551 q551
               obtain rfl : ad550 = ad551 := (by injection e551)
               replace hx551_0 := (HB.out.cell (World.block_lt_of_cell? w _ hx551_0)).trans hx551_0
               replace p551 := yg p551
               replace q551 := yg q551
               go_wp2
               repeat (go_quiet (fail); try go_wp2)
               go_roundg k2
               case measure => have := HK1.out; have := HK2.out; omega
               case rel => exact ⟨(ji8), (by first | rfl | (simp; done) | (simp only [← hji8] <;> (first | rfl | simp)) | (simp [*]; done)), H', ⟨by have := HK1.out; have := HK2.out; omega⟩, ⟨by (with_reducible repeat (first | apply zL | apply zM | apply zN)); exact HO_3.out⟩, ⟨by repeat (first | (with_reducible first | exact HB.out | apply zJ | apply zD | apply zE) | exact HB.out)⟩⟩
              ·rw [if_neg c15] at H
               have c15b0 : decide ((rd l0 (rd x3_1 (ji8))) < (rd l0 x4_1)) = false := yD c15
               clear c15
               have H' := zK H
               clear H
               have p549 : 0 ≤ ((ji8) : Int) := yB (by first | (with_reducible assumption) | assumption)
               have q549 : (ji8) < (x3_1.length : Int) := yB (by first | (with_reducible assumption) | assumption)
               (try (obtain ⟨Ai549, ci549, ei549⟩ := Kd.R_slice HO_3.out; subst ei549))
               obtain ⟨ad549, e549, hx549_0⟩ := Kd.at_int (yM HO_3.out).2.2 (ji8) p549 q549
               cases e549
               replace p549 := yg p549
               replace q549 := yg q549
               have p550 : 0 ≤ ((rd x3_1 (ji8)) : Int) := yB (by first | (with_reducible assumption) | assumption)
               have q550 : (rd x3_1 (ji8)) < (l0.length : Int) := yB (by first | (with_reducible assumption) | assumption)
               obtain ⟨ad550, e550, hx550_0⟩ := Kd.at_int HR0.out (rd x3_1 (ji8)) p550 q550
               cases e550
               replace hx550_0 := (HB.out.cell (World.block_lt_of_cell? w _ hx550_0)).trans hx550_0
               replace p550 := yg p550
               replace q550 := yg q550
               have p551 : 0 ≤ (x4_1 : Int) := yB (by first | (with_reducible assumption) | assumption)
               have q551 : x4_1 < (l0.length : Int) := yB (by first | (with_reducible assumption) | assumption)
               obtain ⟨ad551, e551, hx551_0⟩ := Kd.at_int HR0.out x4_1 p551 q551
               obtain rfl : ad550 = ad551 := (by injection e551)
               replace hx551_0 := (HB.out.cell (World.block_lt_of_cell? w _ hx551_0)).trans hx551_0
               replace p551 := yg p551
               replace q551 := yg q551
               go_wp2
               repeat (go_quiet (fail); try go_wp2)
               go_meet
               case rel => exact ⟨_, (x5_2), (by first | rfl | (simp; done) | (simp [*]; done)), H', ⟨by have := HK1.out; have := HK2.out; first | omega | exact yN _⟩, ⟨by (with_reducible repeat (first | apply zL | apply zM | apply zN)); exact HO_3.out⟩, ⟨by repeat (first | (with_reducible first | exact HB.out | apply zJ | apply zD | apply zE) | exact HB.out)⟩⟩
             ·rw [if_neg c14] at H
              exact absurd H (by simp)
            ·rw [if_neg c13] at H
             exact absurd H (by simp)
           ·rw [if_neg c12] at H
            exact absurd H (by simp)
          ·rw [if_neg c11] at H
           exact absurd H (by simp)
         ·rw [if_neg c10] at H
          exact absurd H (by simp)
        ·rw [if_neg c9] at H
         exact absurd H (by simp)
       ·rw [if_neg c7] at H
        have c7b0 : decide (0 < x5_2) = false := yD c7
        clear c7
        (first | rw [c7b0] | (simp only [i64_w, i32_w]; rw [c7b0]) | skip)
        have H' := zK H
        clear H
        go_wp2
        repeat (go_quiet (fail); try go_wp2)
        go_meet
        case rel => exact ⟨_, (x5_2), (by first | rfl | (simp; done) | (simp [*]; done)), H', ⟨by have := HK1.out; have := HK2.out; first | omega | exact yN _⟩, ⟨by (with_reducible repeat (first | apply zL | apply zM | apply zN)); exact HO_3.out⟩, ⟨by repeat (first | (with_reducible first | exact HB.out | apply zJ | apply zD | apply zE) | exact HB.out)⟩⟩
    case rest =>
     clear HC5
     try clear c1
     try clear p2
     try clear c3
     try clear c4
     try clear c4b0
     try clear p5
     try clear q5
     try clear hx5
     try clear p6
     try clear c7
     try clear c7b0
     try clear c9
     try clear c9b0
     try clear c10
     try clear c10b0
     try clear c11
     try clear c11b0
     try clear c12
     try clear c12b0
     try clear c13
     try clear c13b0
     try clear c14
     try clear c14b0
     try clear c15
     try clear c15b0
     try clear hx549_0
     try clear hx550_0
     try clear hx551_0
     try clear p2
     try clear p549
     try clear p550
     try clear p551
     try clear q549
     try clear q550
     try clear q551
     obtain ⟨kq, x5_4, rfl, HA, HJ4, HO_3, HB⟩ := hcut
     cases kq with
     | zero => exact absurd HA.out (by simp [r07_Order.j2])
     | succ kj4 =>
      have H := HA.out
      clear HA
      simp only [r07_Order.j2] at H
      by_cases c16 : x3_1.length < 17592186044416
      ·rw [if_pos c16] at H
       have LMc16 := zK c16
       clear c16
       obtain ⟨y552, hy552⟩ : ∃ y_ : List Int, y_ = (x3_1 ++ [0]) := ⟨_, rfl⟩
       replace H : (r07_Order.l2 kj4 l0 y552 x4_1 x5_4 (wrap64 ((y552.length : Int) - 1))) = some r := by first | (rw [hy552]; with_reducible exact H) | (have H2_ := (yV _ _).symm.trans H; rw [hy552]; with_reducible exact H2_) | (have H2_ := (yV _ _).symm.trans H; with_reducible exact H2_) | with_reducible exact H | (rw [hy552]; exact H) | exact H
       have Ny552 := zK hy552
       clear hy552
       have H' := zK H
       clear H
       go_wp2_with (first | ((with_reducible refine gate_builtin (b := .append) (xs := #[.tmp 35, .tmp 36]) rfl ?_); at_builtin; refine Kd.R_append (Kd.int .i64) (w0 := w) w.heap.size rfl (.tmp 35) (.tmp 36) 52 3 (.int .i64 0) 8 rfl Try.underlying52 info3 rfl (by decide) (by omega) (.slice Ao6 x3_1.length co6) x3_1 0 [.int .i64 0] (fun _ => True) (fun _ => False) rfl rfl ?aP (fun _ hk => hk.elim) ?aF ?aO ?aB ?aS ?aL ?_; (case aP => exact rfl); (case aB => exact (by repeat (first | (with_reducible first | exact HB.out | apply zJ | apply zD | apply zE) | exact HB.out))); (case aF => exact (fun _ _ => trivial)); (case aO => exact (by (with_reducible repeat (first | apply zL | apply zM | apply zN)); exact HO_3.out)); (case aS => exact (yK (by repeat (first | (with_reducible first | exact HB.out | apply zJ | apply zD | apply zE) | exact HB.out)))); (case aL => have := LMc16.out; omega); intro v553 w17 ho hb hg hat; rw [← Ny552.out] at ho; have n0_ := zK (hb); have n1_ := zK (ho); clear HB HO_3; have HB := n0_; have HO554 := n1_; clear n0_ n1_ ho hb hg hat; obtain ⟨Ao18, co18, eo18⟩ := Kd.R_slice HO554.out; subst eo18))
       repeat (go_quiet (first | ((with_reducible refine gate_builtin (b := .append) (xs := #[.tmp 35, .tmp 36]) rfl ?_); at_builtin; refine Kd.R_append (Kd.int .i64) (w0 := w) w.heap.size rfl (.tmp 35) (.tmp 36) 52 3 (.int .i64 0) 8 rfl Try.underlying52 info3 rfl (by decide) (by omega) (.slice Ao6 x3_1.length co6) x3_1 0 [.int .i64 0] (fun _ => True) (fun _ => False) rfl rfl ?aP (fun _ hk => hk.elim) ?aF ?aO ?aB ?aS ?aL ?_; (case aP => exact rfl); (case aB => exact (by repeat (first | (with_reducible first | exact HB.out | apply zJ | apply zD | apply zE) | exact HB.out))); (case aF => exact (fun _ _ => trivial)); (case aO => exact (by (with_reducible repeat (first | apply zL | apply zM | apply zN)); exact HO_3.out)); (case aS => exact (yK (by repeat (first | (with_reducible first | exact HB.out | apply zJ | apply zD | apply zE) | exact HB.out)))); (case aL => have := LMc16.out; omega); intro v553 w17 ho hb hg hat; rw [← Ny552.out] at ho; have n0_ := zK (hb); have n1_ := zK (ho); clear HB HO_3; have HB := n0_; have HO554 := n1_; clear n0_ n1_ ho hb hg hat; obtain ⟨Ao18, co18, eo18⟩ := Kd.R_slice HO554.out; subst eo18)); try go_wp2_with (first | ((with_reducible refine gate_builtin (b := .append) (xs := #[.tmp 35, .tmp 36]) rfl ?_); at_builtin; refine Kd.R_append (Kd.int .i64) (w0 := w) w.heap.size rfl (.tmp 35) (.tmp 36) 52 3 (.int .i64 0) 8 rfl Try.underlying52 info3 rfl (by decide) (by omega) (.slice Ao6 x3_1.length co6) x3_1 0 [.int .i64 0] (fun _ => True) (fun _ => False) rfl rfl ?aP (fun _ hk => hk.elim) ?aF ?aO ?aB ?aS ?aL ?_; (case aP => exact rfl); (case aB => exact (by repeat (first | (with_reducible first | exact HB.out | apply zJ | apply zD | apply zE) | exact HB.out))); (case aF => exact (fun _ _ => trivial)); (case aO => exact (by (with_reducible repeat (first | apply zL | apply zM | apply zN)); exact HO_3.out)); (case aS => exact (yK (by repeat (first | (with_reducible first | exact HB.out | apply zJ | apply zD | apply zE) | exact HB.out)))); (case aL => have := LMc16.out; omega); intro v553 w17 ho hb hg hat; rw [← Ny552.out] at ho; have n0_ := zK (hb); have n1_ := zK (ho); clear HB HO_3; have HB := n0_; have HO554 := n1_; clear n0_ n1_ ho hb hg hat; obtain ⟨Ao18, co18, eo18⟩ := Kd.R_slice HO554.out; subst eo18)))
       go_loopg [6] kj4 (fun kq v6 w' => ∃ (x3_3 : List Int) (x6_3 : Int), v6 = .int .i64 x6_3 ∧ Aside0 (r07_Order.l2 kq l0 x3_3 x4_1 x5_4 x6_3 = some r) ∧ Aside0 (kq ≤ kj4) ∧ Aside0 (Kd.R (Kd.int .i64) 3 w' w.heap.size (fun _ => True) (.slice Ao18 y552.length co18) x3_3) ∧ Aside0 (Below w.heap.size w w'))
       case atStart => exact ⟨(y552), (wrap64 ((y552.length : Int) - 1)), (by first | rfl | (simp; done) | (simp [*]; done)), H', ⟨yN _⟩, ⟨by (with_reducible repeat (first | apply zL | apply zM | apply zN)); exact HO554.out⟩, ⟨by repeat (first | (with_reducible first | exact HB.out | apply zJ | apply zD | apply zE) | exact HB.out)⟩⟩
       case round =>
        clear H'
        try clear c1
        try clear p2
        try clear c3
        try clear c4
        try clear c4b0
        try clear p5
        try clear q5
        try clear hx5
        try clear p6
        try clear c7
        try clear c7b0
        try clear c9
        try clear c9b0
        try clear c10
        try clear c10b0
        try clear c11
        try clear c11b0
        try clear c12
        try clear c12b0
        try clear c13
        try clear c13b0
        try clear c14
        try clear c14b0
        try clear c15
        try clear c15b0
        try clear c16
        try clear hx549_0
        try clear hx550_0
        try clear hx551_0
        try clear p2
        try clear p5
        try clear p549
        try clear p550
        try clear p551
        try clear p6
        try clear q5
        try clear q549
        try clear q550
        try clear q551
        obtain ⟨x3_3, x6_3, rfl, HA, HK3, HO_3, HB⟩ := hrel
        have hl3_3 := (yM HO_3.out).1
        rw [hl3_3] at HO_3
        (try simp only [hl3_3])
        cases gk with
        | zero => exact absurd HA.out (by simp [r07_Order.l2])
        | succ k3 =>
         have H := HA.out
         clear HA
         simp only [r07_Order.l2] at H
         by_cases c19 : x6_3 > x5_4
         ·rw [if_pos c19] at H
          have c19b0 : decide (x5_4 < x6_3) = true := yC c19
          clear c19
          obtain ⟨ji20, hji20⟩ : ∃ j_ : Int, (wrap64 (x6_3 - 1)) = j_ := ⟨_, rfl⟩
          replace H : (if 0 ≤ (ji20) then (if (ji20) < (x3_3.length : Int) then (if 0 ≤ x6_3 then (if x6_3 < (x3_3.length : Int) then (r07_Order.l2 k3 l0 (x3_3.set (x6_3 : Int).toNat (rd x3_3 (ji20))) x4_1 x5_4 ji20) else (none)) else (none)) else (none)) else (none)) = some r := by first | (rw [hji20] at H; exact H) | (simp only [hji20] at H ⊢; exact H)
          have hji20w : (IntKind.i64.wrap (x6_3 - 1)) = ji20 := (i64_w _).trans hji20
          by_cases c21 : 0 ≤ (ji20)
          ·rw [if_pos c21] at H
           have c21b0 : decide (0 ≤ (ji20)) = true := yC c21
           clear c21
           by_cases c22 : (ji20) < (x3_3.length : Int)
           ·rw [if_pos c22] at H
            have c22b0 : decide ((ji20) < (x3_3.length : Int)) = true := yC c22
            clear c22
            by_cases c23 : 0 ≤ x6_3
            ·rw [if_pos c23] at H
             have c23b0 : decide (0 ≤ x6_3) = true := yC c23
             clear c23
             by_cases c24 : x6_3 < (x3_3.length : Int)
             ·rw [if_pos c24] at H
              have c24b0 : decide (x6_3 < (x3_3.length : Int)) = true := yC c24
              clear c24
              obtain ⟨y556, hy556⟩ : ∃ y_ : List Int, y_ = (x3_3.set (x6_3 : Int).toNat (rd x3_3 (ji20))) := ⟨_, rfl⟩
              replace H : (r07_Order.l2 k3 l0 y556 x4_1 x5_4 ji20) = some r := by first | (rw [hy556]; with_reducible exact H) | (have H2_ := (yV _ _).symm.trans H; rw [hy556]; with_reducible exact H2_) | (have H2_ := (yV _ _).symm.trans H; with_reducible exact H2_) | with_reducible exact H | (rw [hy556]; exact H) | exact H
              have Ny556 := zK hy556
              clear hy556
              have H' := zK H
              clear H
              have p555 : 0 ≤ ((ji20) : Int) := yB (by first | (with_reducible assumption) | assumption)
              have q555 : (ji20) < (x3_3.length : Int) := yB (by first | (with_reducible assumption) | assumption)
              (try (obtain ⟨Ai555, ci555, ei555⟩ := Kd.R_slice HO_3.out; subst ei555))
              obtain ⟨ad555, e555, hx555_0⟩ := Kd.at_int (yM HO_3.out).2.2 (ji20) p555 q555
              cases e555
              replace p555 := yg p555
              replace q555 := yg q555
              have p25 : 0 ≤ (x6_3 : Int) := yB (by first | (with_reducible assumption) | assumption)
              have q25 : (x6_3 : Int) < ((x3_3.length : Int) : Int) := yB (by first | (with_reducible assumption) | assumption)
              obtain ⟨go25, co25, eo25, Z0, gl25, cl25, HG25⟩ := Kd.R_form HO_3.out (by omega)
              (first | cases eo25 | (injection eo25 with ea_ en_ ec_; (first | subst ea_ | (injection ea_ with ea_; subst ea_)); subst ec_; clear en_))
              have GB25 := zK Z0
              have GG25 := zK HG25
              clear Z0 gl25 HG25
              (first | simp only [add_plain] at hx555_0 | skip)
              obtain ⟨hx25_0, hf25_0⟩ := Kd.R_celln 0 HO_3.out (x6_3 : Int) p25 q25
              replace p25 := yg p25
              replace q25 := yg q25
              have HP26 := Kd.R_putg HO_3.out (x6_3 : Int) (rd x3_3 (ji20))
              go_wp2_with (first | ((with_reducible refine gate_store (t := 3) (p := 53) rfl ?_); (try (rw [drewN_self wr]; generalize hq_ : World.drewN wr _ = wr; have n0_ := zK (Kd.R_at hq_ HO_3.out); have n1_ := zK (below_at hq_ HB.out); clear hq_ HO_3 HB; have HO_3 := n0_; have HB := n1_; clear n0_ n1_; (try (have HP26 := Kd.R_putg HO_3.out (x6_3 : Int) (rd x3_3 (ji20)))))); refine store_event (t := 3) (p := 53) (v := ?vo_w27) (w1 := (wr.setCell ⟨go25, (x6_3 : Int).toNat, none⟩ (.int .i64 (rd x3_3 (ji20))))) ?hg ?ho ?hn ?hr ?_; (case ho => rfl); (case hg => rfl); (case hn => rfl); (case hr => first | (go_simp; done) | (go_simp; rfl)); intro w27 hw; have hg : wr.grownBy w27 (some go25) := (by rw [hw]; exact HP26.2); have hp_ : Kd.R (Kd.int .i64) 3 w27 w.heap.size (fun _ => True) (.slice (some ⟨go25, 0, none⟩) x3_3.length co18) y556 := (by rw [hw, Ny556.out]; exact HP26.1); clear HP26; have n0_ := zK (hp_); have n1_ := zK ((by rw [hw]; exact zI (HB.out) GB25.out : Below w.heap.size w w27)); clear HO_3 HB; have HO_3 := n0_; have HB := n1_; clear n0_ n1_ hg hw hp_))
              repeat (go_quiet (first | ((with_reducible refine gate_store (t := 3) (p := 53) rfl ?_); (try (rw [drewN_self wr]; generalize hq_ : World.drewN wr _ = wr; have n0_ := zK (Kd.R_at hq_ HO_3.out); have n1_ := zK (below_at hq_ HB.out); clear hq_ HO_3 HB; have HO_3 := n0_; have HB := n1_; clear n0_ n1_; (try (have HP26 := Kd.R_putg HO_3.out (x6_3 : Int) (rd x3_3 (ji20)))))); refine store_event (t := 3) (p := 53) (v := ?vo_w27) (w1 := (wr.setCell ⟨go25, (x6_3 : Int).toNat, none⟩ (.int .i64 (rd x3_3 (ji20))))) ?hg ?ho ?hn ?hr ?_; (case ho => rfl); (case hg => rfl); (case hn => rfl); (case hr => first | (go_simp; done) | (go_simp; rfl)); intro w27 hw; have hg : wr.grownBy w27 (some go25) := (by rw [hw]; exact HP26.2); have hp_ : Kd.R (Kd.int .i64) 3 w27 w.heap.size (fun _ => True) (.slice (some ⟨go25, 0, none⟩) x3_3.length co18) y556 := (by rw [hw, Ny556.out]; exact HP26.1); clear HP26; have n0_ := zK (hp_); have n1_ := zK ((by rw [hw]; exact zI (HB.out) GB25.out : Below w.heap.size w w27)); clear HO_3 HB; have HO_3 := n0_; have HB := n1_; clear n0_ n1_ hg hw hp_)); try go_wp2_with (first | ((with_reducible refine gate_store (t := 3) (p := 53) rfl ?_); (try (rw [drewN_self wr]; generalize hq_ : World.drewN wr _ = wr; have n0_ := zK (Kd.R_at hq_ HO_3.out); have n1_ := zK (below_at hq_ HB.out); clear hq_ HO_3 HB; have HO_3 := n0_; have HB := n1_; clear n0_ n1_; (try (have HP26 := Kd.R_putg HO_3.out (x6_3 : Int) (rd x3_3 (ji20)))))); refine store_event (t := 3) (p := 53) (v := ?vo_w27) (w1 := (wr.setCell ⟨go25, (x6_3 : Int).toNat, none⟩ (.int .i64 (rd x3_3 (ji20))))) ?hg ?ho ?hn ?hr ?_; (case ho => rfl); (case hg => rfl); (case hn => rfl); (case hr => first | (go_simp; done) | (go_simp; rfl)); intro w27 hw; have hg : wr.grownBy w27 (some go25) := (by rw [hw]; exact HP26.2); have hp_ : Kd.R (Kd.int .i64) 3 w27 w.heap.size (fun _ => True) (.slice (some ⟨go25, 0, none⟩) x3_3.length co18) y556 := (by rw [hw, Ny556.out]; exact HP26.1); clear HP26; have n0_ := zK (hp_); have n1_ := zK ((by rw [hw]; exact zI (HB.out) GB25.out : Below w.heap.size w w27)); clear HO_3 HB; have HO_3 := n0_; have HB := n1_; clear n0_ n1_ hg hw hp_)))
              (try simp only [← hl3_3])
              go_roundg k3
              case measure => have := HK1.out; have := HJ4.out; have := HK3.out; omega
              case rel => exact ⟨(y556), (ji20), (by first | rfl | (simp; done) | (simp only [← hji20] <;> (first | rfl | simp)) | (simp [*]; done)), H', ⟨by have := HK1.out; have := HJ4.out; have := HK3.out; omega⟩, ⟨by (try simp only [hl3_3]); (with_reducible repeat (first | apply zL | apply zM | apply zN)); exact HO_3.out⟩, ⟨by repeat (first | (with_reducible first | exact HB.out | apply zJ | apply zD | apply zE) | exact HB.out)⟩⟩
             ·rw [if_neg c24] at H
              exact absurd H (by simp)
            ·rw [if_neg c23] at H
             exact absurd H (by simp)
           ·rw [if_neg c22] at H
            exact absurd H (by simp)
          ·rw [if_neg c21] at H
           exact absurd H (by simp)
         ·rw [if_neg c19] at H
          have c19b0 : decide (x5_4 < x6_3) = false := yD c19
          clear c19
          by_cases c28 : 0 ≤ x5_4
          ·rw [if_pos c28] at H
           have c28b0 : decide (0 ≤ x5_4) = true := yC c28
           clear c28
           by_cases c29 : x5_4 < (x3_3.length : Int)
           ·rw [if_pos c29] at H
            have c29b0 : decide (x5_4 < (x3_3.length : Int)) = true := yC c29
            clear c29
            obtain ⟨y557, hy557⟩ : ∃ y_ : List Int, y_ = (x3_3.set (x5_4 : Int).toNat x4_1) := ⟨_, rfl⟩
            replace H : (r07_Order.l0 k3 l0 y557 (wrap64 (x4_1 + 1))) = some r := by first | (rw [hy557]; with_reducible exact H) | (have H2_ := (yV _ _).symm.trans H; rw [hy557]; with_reducible exact H2_) | (have H2_ := (yV _ _).symm.trans H; with_reducible exact H2_) | with_reducible exact H | (rw [hy557]; exact H) | exact H
            have Ny557 := zK hy557
            clear hy557
            have H' := zK H
            clear H
            have p30 : 0 ≤ (x5_4 : Int) := yB (by first | (with_reducible assumption) | assumption)
            have q30 : (x5_4 : Int) < ((x3_3.length : Int) : Int) := yB (by first | (with_reducible assumption) | assumption)
            obtain ⟨go30, co30, eo30, Z1, gl30, cl30, HG30⟩ := Kd.R_form HO_3.out (by omega)
            (first | cases eo30 | (injection eo30 with ea_ en_ ec_; (first | subst ea_ | (injection ea_ with ea_; subst ea_)); subst ec_; clear en_))
            have GB30 := zK Z1
            have GG30 := zK HG30
            clear Z1 gl30 HG30
            obtain ⟨hx30_0, hf30_0⟩ := Kd.R_celln 0 HO_3.out (x5_4 : Int) p30 q30
            replace p30 := yg p30
            replace q30 := yg q30
            have HP31 := Kd.R_putg HO_3.out (x5_4 : Int) x4_1
            go_wp2_with (first | ((with_reducible refine gate_store (t := 3) (p := 57) rfl ?_); (try (rw [drewN_self wr]; generalize hq_ : World.drewN wr _ = wr; have n0_ := zK (Kd.R_at hq_ HO_3.out); have n1_ := zK (below_at hq_ HB.out); clear hq_ HO_3 HB; have HO_3 := n0_; have HB := n1_; clear n0_ n1_; (try (have HP31 := Kd.R_putg HO_3.out (x5_4 : Int) x4_1)))); refine store_event (t := 3) (p := 57) (v := ?vo_w32) (w1 := (wr.setCell ⟨go30, (x5_4 : Int).toNat, none⟩ (.int .i64 x4_1))) ?hg ?ho ?hn ?hr ?_; (case ho => rfl); (case hg => rfl); (case hn => rfl); (case hr => first | (go_simp; done) | (go_simp; rfl)); intro w32 hw; have hg : wr.grownBy w32 (some go30) := (by rw [hw]; exact HP31.2); have hp_ : Kd.R (Kd.int .i64) 3 w32 w.heap.size (fun _ => True) (.slice (some ⟨go30, 0, none⟩) x3_3.length co18) y557 := (by rw [hw, Ny557.out]; exact HP31.1); clear HP31; have n0_ := zK (hp_); have n1_ := zK ((by rw [hw]; exact zI (HB.out) GB30.out : Below w.heap.size w w32)); clear HO_3 HB; have HO_3 := n0_; have HB := n1_; clear n0_ n1_ hg hw hp_))
            repeat (go_quiet (first | ((with_reducible refine gate_store (t := 3) (p := 57) rfl ?_); (try (rw [drewN_self wr]; generalize hq_ : World.drewN wr _ = wr; have n0_ := zK (Kd.R_at hq_ HO_3.out); have n1_ := zK (below_at hq_ HB.out); clear hq_ HO_3 HB; have HO_3 := n0_; have HB := n1_; clear n0_ n1_; (try (have HP31 := Kd.R_putg HO_3.out (x5_4 : Int) x4_1)))); refine store_event (t := 3) (p := 57) (v := ?vo_w32) (w1 := (wr.setCell ⟨go30, (x5_4 : Int).toNat, none⟩ (.int .i64 x4_1))) ?hg ?ho ?hn ?hr ?_; (case ho => rfl); (case hg => rfl); (case hn => rfl); (case hr => first | (go_simp; done) | (go_simp; rfl)); intro w32 hw; have hg : wr.grownBy w32 (some go30) := (by rw [hw]; exact HP31.2); have hp_ : Kd.R (Kd.int .i64) 3 w32 w.heap.size (fun _ => True) (.slice (some ⟨go30, 0, none⟩) x3_3.length co18) y557 := (by rw [hw, Ny557.out]; exact HP31.1); clear HP31; have n0_ := zK (hp_); have n1_ := zK ((by rw [hw]; exact zI (HB.out) GB30.out : Below w.heap.size w w32)); clear HO_3 HB; have HO_3 := n0_; have HB := n1_; clear n0_ n1_ hg hw hp_)); try go_wp2_with (first | ((with_reducible refine gate_store (t := 3) (p := 57) rfl ?_); (try (rw [drewN_self wr]; generalize hq_ : World.drewN wr _ = wr; have n0_ := zK (Kd.R_at hq_ HO_3.out); have n1_ := zK (below_at hq_ HB.out); clear hq_ HO_3 HB; have HO_3 := n0_; have HB := n1_; clear n0_ n1_; (try (have HP31 := Kd.R_putg HO_3.out (x5_4 : Int) x4_1)))); refine store_event (t := 3) (p := 57) (v := ?vo_w32) (w1 := (wr.setCell ⟨go30, (x5_4 : Int).toNat, none⟩ (.int .i64 x4_1))) ?hg ?ho ?hn ?hr ?_; (case ho => rfl); (case hg => rfl); (case hn => rfl); (case hr => first | (go_simp; done) | (go_simp; rfl)); intro w32 hw; have hg : wr.grownBy w32 (some go30) := (by rw [hw]; exact HP31.2); have hp_ : Kd.R (Kd.int .i64) 3 w32 w.heap.size (fun _ => True) (.slice (some ⟨go30, 0, none⟩) x3_3.length co18) y557 := (by rw [hw, Ny557.out]; exact HP31.1); clear HP31; have n0_ := zK (hp_); have n1_ := zK ((by rw [hw]; exact zI (HB.out) GB30.out : Below w.heap.size w w32)); clear HO_3 HB; have HO_3 := n0_; have HB := n1_; clear n0_ n1_ hg hw hp_)))
            (try simp only [← hl3_3])
            go_roundg k3
            case measure => have := HK1.out; have := HJ4.out; have := HK3.out; omega
            case rel => exact ⟨(y557), (wrap64 (x4_1 + 1)), (by first | rfl | (simp; done) | (simp [*]; done)), H', ⟨by have := HK1.out; have := HJ4.out; have := HK3.out; omega⟩, ⟨by (try simp only [hl3_3]); (with_reducible repeat (first | apply zL | apply zM | apply zN)); exact HO_3.out⟩, ⟨by repeat (first | (with_reducible first | exact HB.out | apply zJ | apply zD | apply zE) | exact HB.out)⟩⟩
           ·rw [if_neg c29] at H
            exact absurd H (by simp)
          ·rw [if_neg c28] at H
           exact absurd H (by simp)
      ·rw [if_neg c16] at H
       exact absurd H (by simp)
   ·rw [if_neg c4] at H
    have c4b0 : decide (x4_1 < (l0.length : Int)) = false := yD c4
    (try simp only [hl3_3] at c4b0)
    clear c4
    obtain rfl := yY H
    go_wp2
    repeat (go_quiet (fail); try go_wp2)
    go_ret
    exact ⟨_, by first | rfl | (simp [errW_none, errW_some] <;> rfl) | (simp [*, errW_none, errW_some] <;> rfl), by (with_reducible repeat (first | apply zL | apply zM | apply zN)); exact HO_3.out, by repeat (first | (with_reducible first | exact HB.out | apply zJ | apply zD | apply zE) | exact HB.out)⟩

-- NOT PRINTED: function 23 (r12_Choose)

-- NOT PRINTED: function 8 (w12_ActChooses)

-- NOT PRINTED: function 24 (act_Experts)

-- NOT PRINTED: function 9 (w12_ActAlike)

end Go.Proofs.Ytjcfhgpaipbedaa.A
