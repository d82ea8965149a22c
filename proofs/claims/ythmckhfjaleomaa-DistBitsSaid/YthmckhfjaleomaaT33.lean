-- Printed by this session's own driver (wip/tools/xprint.py) over the kit's printer; given functions are this session's own.
import Derived.Test.YthmckhfjaleomaaT0
import Derived.Test.YthmckhfjaleomaaT6
import Derived.Test.YthmckhfjaleomaaT29
import Derived.Test.YthmckhfjaleomaaT31
namespace Go.Proofs.Ythmckhfjaleomaa.T
open Go.RowKit Go.Proofs.YthmckhfjaleomaaW.PrintWords Go.Proofs.YthmckhfjaleomaaW.PrintLast Go.Proofs.YthmckhfjaleomaaW.PrintMore
attribute [local go_sem] max2_int min2_int max_two min_two max_three min_three max_four min_four   -- for this text's walks alone
set_option linter.unusedVariables false
set_option linter.unusedSimpArgs false

/-! ### w22_DistBits: function 12 -/
mutual
def w22_DistBits.l0 : Nat → List Int → Int → Int → Int → Int → Int → List Int → Int → Int → Option (Bool)
  | 0, _, _, _, _, _, _, _, _, _ => none
  | k + 1, x0, x3, x7, x8, x9, x10, x42, x43, x44 => if x44 < x43 then (if 0 ≤ x44 then (if x44 < (x42.length : Int) then (w22_DistBits.l0 k x0 x3 (wrap64 (x7 + (rd x42 x44))) x8 x9 x10 x42 x43 (wrap64 (x44 + 1))) else (none)) else (none)) else (w22_DistBits.l1 k x0 x3 x7 x8 x9 x10 x0 (x0.length : Int) 0)
def w22_DistBits.l1 : Nat → List Int → Int → Int → Int → Int → Int → List Int → Int → Int → Option (Bool)
  | 0, _, _, _, _, _, _, _, _, _ => none
  | k + 1, x0, x3, x7, x8, x9, x10, x52, x53, x54 => if x54 < x53 then (if 0 ≤ x54 then (if x54 < (x52.length : Int) then ((dist_Surprise.f k x0 x54).bind fun bt758 => (if (rd x52 x54) = 0 then (if bt758.2 = 223 then (w22_DistBits.l1 k x0 x3 x7 x8 x9 x10 x52 x53 (wrap64 (x54 + 1))) else (some false)) else (if bt758.2 = 0 then (if bt758.1 < 0 then (w22_DistBits.j2 k x0 x3 x7 (wrap64 (x8 + 1)) (mx x9 bt758.1) (mn x10 bt758.1) (rd x52 x54) bt758.1 x52 x53 x54 true) else (w22_DistBits.j2 k x0 x3 x7 (wrap64 (x8 + 1)) (mx x9 bt758.1) (mn x10 bt758.1) (rd x52 x54) bt758.1 x52 x53 x54 ((bt758.1 == 0) != ((rd x52 x54) == x7)))) else (w22_DistBits.j2 k x0 x3 x7 (wrap64 (x8 + 1)) (mx x9 bt758.1) (mn x10 bt758.1) (rd x52 x54) bt758.1 x52 x53 x54 true)))) else (none)) else (none)) else (if x3 ≥ 0 then (if x3 ≤ x9 then (if x3 ≥ x10 then (some ((x3 == 0) == (x8 == 1))) else (some false)) else (some false)) else (some false))
def w22_DistBits.j2 : Nat → List Int → Int → Int → Int → Int → Int → Int → Int → List Int → Int → Int → Bool → Option (Bool)
  | 0, _, _, _, _, _, _, _, _, _, _, _, _ => none
  | k + 1, x0, x3, x7, x8, x9, x10, x14, x15, x52, x53, x54, x90 => if x90 = true then (some false) else (w22_DistBits.l2 k x0 x3 x7 x8 x9 x10 x14 x15 x52 x53 x54 x0 (x0.length : Int) 0)
def w22_DistBits.l2 : Nat → List Int → Int → Int → Int → Int → Int → Int → Int → List Int → Int → Int → List Int → Int → Int → Option (Bool)
  | 0, _, _, _, _, _, _, _, _, _, _, _, _, _, _ => none
  | k + 1, x0, x3, x7, x8, x9, x10, x14, x15, x52, x53, x54, x91, x92, x93 => if x93 < x92 then (if 0 ≤ x93 then (if x93 < (x91.length : Int) then ((dist_Surprise.f k x0 x93).bind fun bt761 => (if (rd x91 x93) > x14 then (if bt761.2 = 0 then (if bt761.1 > x15 then (some false) else (w22_DistBits.l2 k x0 x3 x7 x8 x9 x10 x14 x15 x52 x53 x54 x91 x92 (wrap64 (x93 + 1)))) else (some false)) else (w22_DistBits.l2 k x0 x3 x7 x8 x9 x10 x14 x15 x52 x53 x54 x91 x92 (wrap64 (x93 + 1))))) else (none)) else (none)) else (w22_DistBits.l1 k x0 x3 x7 x8 x9 x10 x52 x53 (wrap64 (x54 + 1)))
end
def w22_DistBits.f (k : Nat) (l0 : List Int) : Option (Bool) := (w22_awake.f k).bind fun t751 => (if t751 = true then ((dist_Entropy.f k l0).bind fun bt752 => (if bt752.2 = 0 then (w22_DistBits.l0 k l0 bt752.1 0 0 0 1099511627776 l0 (l0.length : Int) 0) else ((r22_Entropy.f k l0).bind fun bt754 => (if bt752.2 = bt754.2 then (some (bt752.1 == 0)) else (some false))))) else (some false))
theorem w22_DistBits.mono_l : ∀ k, (∀ y0 y1 y2 y3 y4 y5 y6 y7 y8, LeO (w22_DistBits.l0 k y0 y1 y2 y3 y4 y5 y6 y7 y8) (w22_DistBits.l0 (k + 1) y0 y1 y2 y3 y4 y5 y6 y7 y8)) ∧ (∀ y0 y1 y2 y3 y4 y5 y6 y7 y8, LeO (w22_DistBits.l1 k y0 y1 y2 y3 y4 y5 y6 y7 y8) (w22_DistBits.l1 (k + 1) y0 y1 y2 y3 y4 y5 y6 y7 y8)) ∧ (∀ y0 y1 y2 y3 y4 y5 y6 y7 y8 y9 y10 y11, LeO (w22_DistBits.j2 k y0 y1 y2 y3 y4 y5 y6 y7 y8 y9 y10 y11) (w22_DistBits.j2 (k + 1) y0 y1 y2 y3 y4 y5 y6 y7 y8 y9 y10 y11)) ∧ (∀ y0 y1 y2 y3 y4 y5 y6 y7 y8 y9 y10 y11 y12 y13, LeO (w22_DistBits.l2 k y0 y1 y2 y3 y4 y5 y6 y7 y8 y9 y10 y11 y12 y13) (w22_DistBits.l2 (k + 1) y0 y1 y2 y3 y4 y5 y6 y7 y8 y9 y10 y11 y12 y13))
  | 0 => ⟨fun _ _ _ _ _ _ _ _ _ r h => by simp [w22_DistBits.l0] at h, fun _ _ _ _ _ _ _ _ _ r h => by simp [w22_DistBits.l1] at h, fun _ _ _ _ _ _ _ _ _ _ _ _ r h => by simp [w22_DistBits.j2] at h, fun _ _ _ _ _ _ _ _ _ _ _ _ _ _ r h => by simp [w22_DistBits.l2] at h⟩
  | k + 1 => by
    obtain ⟨ih0, ih1, ih2, ih3⟩ := w22_DistBits.mono_l k
    refine ⟨?_, ?_, ?_, ?_⟩ <;> (intros; first | unfold w22_DistBits.l0 | unfold w22_DistBits.l1 | unfold w22_DistBits.j2 | unfold w22_DistBits.l2)
    all_goals repeat' first
      | (with_reducible exact ih0 _ _ _ _ _ _ _ _ _)
      | (with_reducible exact ih1 _ _ _ _ _ _ _ _ _)
      | (with_reducible exact ih2 _ _ _ _ _ _ _ _ _ _ _ _)
      | (with_reducible exact ih3 _ _ _ _ _ _ _ _ _ _ _ _ _ _)
      | (with_reducible exact dist_Entropy.mono _ _)
      | (with_reducible exact dist_Surprise.mono _ _ _)
      | (with_reducible exact r22_Entropy.mono _ _)
      | (with_reducible exact w22_awake.mono _)
      | (with_reducible exact yR _)
      | (with_reducible exact yO _)
      | (with_reducible refine yQ ?_ ?_)
      | (with_reducible refine yP ?_ (fun _ => ?_))
      | exact ih0 _ _ _ _ _ _ _ _ _
      | exact ih1 _ _ _ _ _ _ _ _ _
      | exact ih2 _ _ _ _ _ _ _ _ _ _ _ _
      | exact ih3 _ _ _ _ _ _ _ _ _ _ _ _ _ _
      | exact dist_Entropy.mono _ _
      | exact dist_Surprise.mono _ _ _
      | exact r22_Entropy.mono _ _
      | exact w22_awake.mono _
      | exact yO _
      | refine yQ ?_ ?_
      | refine yP ?_ (fun _ => ?_)
theorem w22_DistBits.mono : ∀ a0 k, LeO (w22_DistBits.f k a0) (w22_DistBits.f (k + 1) a0) := by
  intro a0 k
  obtain ⟨ih0, ih1, ih2, ih3⟩ := w22_DistBits.mono_l k
  unfold w22_DistBits.f
  repeat' first
      | (with_reducible exact ih0 _ _ _ _ _ _ _ _ _)
      | (with_reducible exact ih1 _ _ _ _ _ _ _ _ _)
      | (with_reducible exact ih2 _ _ _ _ _ _ _ _ _ _ _ _)
      | (with_reducible exact ih3 _ _ _ _ _ _ _ _ _ _ _ _ _ _)
      | (with_reducible exact dist_Entropy.mono _ _)
      | (with_reducible exact dist_Surprise.mono _ _ _)
      | (with_reducible exact r22_Entropy.mono _ _)
      | (with_reducible exact w22_awake.mono _)
      | (with_reducible exact yR _)
      | (with_reducible exact yO _)
      | (with_reducible refine yQ ?_ ?_)
      | (with_reducible refine yP ?_ (fun _ => ?_))
      | exact ih0 _ _ _ _ _ _ _ _ _
      | exact ih1 _ _ _ _ _ _ _ _ _
      | exact ih2 _ _ _ _ _ _ _ _ _ _ _ _
      | exact ih3 _ _ _ _ _ _ _ _ _ _ _ _ _ _
      | exact dist_Entropy.mono _ _
      | exact dist_Surprise.mono _ _ _
      | exact r22_Entropy.mono _ _
      | exact w22_awake.mono _
      | exact yO _
      | refine yQ ?_ ?_
      | refine yP ?_ (fun _ => ?_)
set_option maxHeartbeats 8000000 in
set_option maxRecDepth 100000 in
theorem w22_DistBits.calls (k : Nat) (A0 : Option Addr) (c0 : Nat) (l0 : List Int) (r : Bool) (w : World) (hr0 : Kd.C (Kd.int .i64) w A0 l0.length l0) (hc0 : l0.length ≤ c0) (h : w22_DistBits.f k l0 = some r) :
    Calls Try.prog 12 #[.slice A0 l0.length c0] w fun e w' => e = .returned (.bool r) ∧ Below w.heap.size w w' := by
  have HR0 := zK hr0
  have HC0 := zK hc0
  clear hr0 hc0
  have HB := zK (Below.refl w.heap.size w)
  have H : ((w22_awake.f k).bind fun t751 => (if t751 = true then ((dist_Entropy.f k l0).bind fun bt752 => (if bt752.2 = 0 then (w22_DistBits.l0 k l0 bt752.1 0 0 0 1099511627776 l0 (l0.length : Int) 0) else ((r22_Entropy.f k l0).bind fun bt754 => (if bt752.2 = bt754.2 then (some (bt752.1 == 0)) else (some false))))) else (some false))) = some r := h
  clear h
  replace H := yA.mp H
  obtain ⟨t751, A20, H⟩ := H
  replace H : (if t751 = true then ((dist_Entropy.f k l0).bind fun bt752 => (if bt752.2 = 0 then (w22_DistBits.l0 k l0 bt752.1 0 0 0 1099511627776 l0 (l0.length : Int) 0) else ((r22_Entropy.f k l0).bind fun bt754 => (if bt752.2 = bt754.2 then (some (bt752.1 == 0)) else (some false))))) else (some false)) = some r := H
  have A2 := zK A20
  clear A20
  by_cases c3 : t751 = true
  ·subst c3
   have H1 : ((dist_Entropy.f k l0).bind fun bt752 => (if bt752.2 = 0 then (w22_DistBits.l0 k l0 bt752.1 0 0 0 1099511627776 l0 (l0.length : Int) 0) else ((r22_Entropy.f k l0).bind fun bt754 => (if bt752.2 = bt754.2 then (some (bt752.1 == 0)) else (some false))))) = some r := by rw [if_pos rfl] at H; exact H
   clear H
   have H := H1
   clear H1
   replace H := yA.mp H
   obtain ⟨⟨t752, t753⟩, A40, H⟩ := H
   replace H : (if t753 = 0 then (w22_DistBits.l0 k l0 t752 0 0 0 1099511627776 l0 (l0.length : Int) 0) else ((r22_Entropy.f k l0).bind fun bt754 => (if t753 = bt754.2 then (some (t752 == 0)) else (some false)))) = some r := H
   have A4 := zK A40
   clear A40
   by_cases c5 : t753 = 0
   ·rw [if_pos c5] at H
    have c5b0 : (t753 == 0) = true := beq_iff_eq.mpr c5
    have c5b1 : (t753 != 0) = false := bne_eq_false_iff_eq.mpr c5
    clear c5
    have H' := zK H
    clear H
    go_enter Try.func12, Try.ntmps12
    go_wp2_with (first | ((with_reducible refine gate_callee (f := 13) rfl ?_); refine goesL_ (some 21) rfl rfl Try.func13 (by kernel_rfl) rfl #[] rfl (by (try simp only [yH, yI, yJ]); first | done | rfl | (simp only [yG, yF]; rfl)) ?_; (with_reducible refine (w22_awake.calls k  true _ A2.out).mono ?_); rintro e w6 ⟨rfl, hb⟩; refine ⟨_, rfl, ?_⟩; have n0_ := zK (yL (by repeat (first | (with_reducible first | exact HB.out | apply zJ | apply zD | apply zE) | exact HB.out)) hb); clear HB; have HB := n0_; clear n0_; (try clear hb); (try clear hb2); (try clear hk); (try clear hi)) | ((with_reducible refine gate_callee (f := 31) rfl ?_); refine goesL_ (some 25) rfl rfl Try.func31 (by kernel_rfl) rfl #[.slice A0 l0.length c0] rfl (by (try simp only [yH, yI, yJ]); first | done | rfl | (simp only [yG, yF]; rfl)) ?_; (with_reducible refine (dist_Entropy.calls k _ _ l0 t752 t753 _ ?side1 ?side2 A4.out).mono ?_); (case side1 => repeat (first | exact (yc HR0.out HB.out) | (with_reducible refine yS ?_ _) | (with_reducible refine yT ?_ _) | (with_reducible refine yU ?_))); (case side2 => exact HC0.out); rintro e w7 ⟨rfl, hb⟩; refine ⟨_, rfl, ?_⟩; have n0_ := zK (yL (by repeat (first | (with_reducible first | exact HB.out | apply zJ | apply zD | apply zE) | exact HB.out)) hb); clear HB; have HB := n0_; clear n0_; (try clear hb); (try clear hb2); (try clear hk); (try clear hi)))
    go_loopg [7, 44] k (fun kq v7 v44 w' => ∃ (x7_1 : Int) (x44_1 : Int), v7 = .int .i64 x7_1 ∧ v44 = .int .i64 x44_1 ∧ Aside0 (w22_DistBits.l0 kq l0 t752 x7_1 0 0 1099511627776 l0 (l0.length : Int) x44_1 = some r) ∧ Aside0 (kq ≤ k) ∧ Aside0 (Below w.heap.size w w'))
    case atStart => exact ⟨(0), (0), (by first | rfl | (simp; done) | (simp [*]; done)), (by first | rfl | (simp; done) | (simp [*]; done)), H', ⟨yN _⟩, ⟨by repeat (first | (with_reducible first | exact HB.out | apply zJ | apply zD | apply zE) | exact HB.out)⟩⟩
    case round =>
     clear H'
     try clear c1
     try clear p2
     try clear c3
     try clear c5
     try clear c5b0
     try clear c5b1
     obtain ⟨x7_1, x44_1, rfl, rfl, HA, HK1, HB⟩ := hrel
     cases gk with
     | zero => exact absurd HA.out (by simp [w22_DistBits.l0])
     | succ k1 =>
      have H := HA.out
      clear HA
      simp only [w22_DistBits.l0] at H
      by_cases c8 : x44_1 < (l0.length : Int)
      ·rw [if_pos c8] at H
       have c8b0 : decide (x44_1 < (l0.length : Int)) = true := yC c8
       clear c8
       by_cases c9 : 0 ≤ x44_1
       ·rw [if_pos c9] at H
        have c9b0 : decide (0 ≤ x44_1) = true := yC c9
        clear c9
        by_cases c10 : x44_1 < (l0.length : Int)
        ·rw [if_pos c10] at H
         have c10b0 : decide (x44_1 < (l0.length : Int)) = true := yC c10
         clear c10
         have H' := zK H
         clear H
         have p756 : 0 ≤ (x44_1 : Int) := yB (by first | (with_reducible assumption) | assumption)
         have q756 : x44_1 < (l0.length : Int) := yB (by first | (with_reducible assumption) | assumption)
         obtain ⟨ad756, e756, hx756_0⟩ := Kd.at_int HR0.out x44_1 p756 q756
         cases e756
         replace hx756_0 := (HB.out.cell (World.block_lt_of_cell? w _ hx756_0)).trans hx756_0
         replace p756 := yg p756
         replace q756 := yg q756
         go_wp2
         go_roundg k1
         case measure => have := HK1.out; omega
         case rel => exact ⟨(wrap64 (x7_1 + (rd l0 x44_1))), (wrap64 (x44_1 + 1)), (by first | rfl | (simp; done) | (simp [*]; done)), (by first | rfl | (simp; done) | (simp [*]; done)), H', ⟨by have := HK1.out; omega⟩, ⟨by repeat (first | (with_reducible first | exact HB.out | apply zJ | apply zD | apply zE) | exact HB.out)⟩⟩
        ·rw [if_neg c10] at H
         exact absurd H (by simp)
       ·rw [if_neg c9] at H
        exact absurd H (by simp)
      ·rw [if_neg c8] at H
       have c8b0 : decide (x44_1 < (l0.length : Int)) = false := yD c8
       clear c8
       have H' := zK H
       clear H
       go_wp2
       go_loopg [8, 9, 10, 54] k1 (fun kq v8 v9 v10 v54 w' => ∃ (x8_2 : Int) (x9_2 : Int) (x10_2 : Int) (x54_2 : Int), v8 = .int .i64 x8_2 ∧ v9 = .int .i64 x9_2 ∧ v10 = .int .i64 x10_2 ∧ v54 = .int .i64 x54_2 ∧ Aside0 (w22_DistBits.l1 kq l0 t752 x7_1 x8_2 x9_2 x10_2 l0 (l0.length : Int) x54_2 = some r) ∧ Aside0 (kq ≤ k1) ∧ Aside0 (Below w.heap.size w w'))
       case atStart => exact ⟨(0), (0), (1099511627776), (0), (by first | rfl | (simp; done) | (simp [*]; done)), (by first | rfl | (simp; done) | (simp [*]; done)), (by first | rfl | (simp; done) | (simp [*]; done)), (by first | rfl | (simp; done) | (simp [*]; done)), H', ⟨yN _⟩, ⟨by repeat (first | (with_reducible first | exact HB.out | apply zJ | apply zD | apply zE) | exact HB.out)⟩⟩
       case round =>
        clear H'
        try clear c1
        try clear p2
        try clear c3
        try clear c5
        try clear c5b0
        try clear c5b1
        try clear p6
        try clear p7
        try clear q7
        try clear hx7
        try clear c8
        try clear c8b0
        try clear c9
        try clear c9b0
        try clear c10
        try clear c10b0
        try clear hx756_0
        try clear p2
        try clear p756
        try clear q756
        obtain ⟨x8_2, x9_2, x10_2, x54_2, rfl, rfl, rfl, rfl, HA, HK2, HB⟩ := hrel
        cases gk with
        | zero => exact absurd HA.out (by simp [w22_DistBits.l1])
        | succ k2 =>
         have H := HA.out
         clear HA
         simp only [w22_DistBits.l1] at H
         by_cases c11 : x54_2 < (l0.length : Int)
         ·rw [if_pos c11] at H
          have c11b0 : decide (x54_2 < (l0.length : Int)) = true := yC c11
          clear c11
          by_cases c12 : 0 ≤ x54_2
          ·rw [if_pos c12] at H
           have c12b0 : decide (0 ≤ x54_2) = true := yC c12
           clear c12
           by_cases c13 : x54_2 < (l0.length : Int)
           ·rw [if_pos c13] at H
            have c13b0 : decide (x54_2 < (l0.length : Int)) = true := yC c13
            clear c13
            replace H := yA.mp H
            obtain ⟨⟨t758, t759⟩, A140, H⟩ := H
            replace H : (if (rd l0 x54_2) = 0 then (if t759 = 223 then (w22_DistBits.l1 k2 l0 t752 x7_1 x8_2 x9_2 x10_2 l0 (l0.length : Int) (wrap64 (x54_2 + 1))) else (some false)) else (if t759 = 0 then (if t758 < 0 then (w22_DistBits.j2 k2 l0 t752 x7_1 (wrap64 (x8_2 + 1)) (mx x9_2 t758) (mn x10_2 t758) (rd l0 x54_2) t758 l0 (l0.length : Int) x54_2 true) else (w22_DistBits.j2 k2 l0 t752 x7_1 (wrap64 (x8_2 + 1)) (mx x9_2 t758) (mn x10_2 t758) (rd l0 x54_2) t758 l0 (l0.length : Int) x54_2 ((t758 == 0) != ((rd l0 x54_2) == x7_1)))) else (w22_DistBits.j2 k2 l0 t752 x7_1 (wrap64 (x8_2 + 1)) (mx x9_2 t758) (mn x10_2 t758) (rd l0 x54_2) t758 l0 (l0.length : Int) x54_2 true))) = some r := H
            have A14 := zK A140
            clear A140
            by_cases c15 : (rd l0 x54_2) = 0
            ·rw [if_pos c15] at H
             have c15b0 : ((rd l0 x54_2) == 0) = true := beq_iff_eq.mpr c15
             have c15b1 : ((rd l0 x54_2) != 0) = false := bne_eq_false_iff_eq.mpr c15
             clear c15
             by_cases c16 : t759 = 223
             ·rw [if_pos c16] at H
              have c16b0 : (t759 == 223) = true := beq_iff_eq.mpr c16
              have c16b1 : (t759 != 223) = false := bne_eq_false_iff_eq.mpr c16
              clear c16
              have H' := zK H
              clear H
              have p757 : 0 ≤ (x54_2 : Int) := yB (by first | (with_reducible assumption) | assumption)
              have q757 : x54_2 < (l0.length : Int) := yB (by first | (with_reducible assumption) | assumption)
              obtain ⟨ad757, e757, hx757_0⟩ := Kd.at_int HR0.out x54_2 p757 q757
              cases e757
              replace hx757_0 := (HB.out.cell (World.block_lt_of_cell? w _ hx757_0)).trans hx757_0
              replace p757 := yg p757
              replace q757 := yg q757
              go_wp2_with (first | ((with_reducible refine gate_callee (f := 29) rfl ?_); refine goesL_ (some 62) rfl rfl Try.func29 (by kernel_rfl) rfl #[.slice (some ad757) l0.length c0, .int .i64 x54_2] rfl (by (try simp only [yH, yI, yJ]); first | done | rfl | (simp only [yG, yF]; rfl)) ?_; (with_reducible refine (dist_Surprise.calls k2 _ _ l0 x54_2 t758 t759 _ ?side1 ?side2 A14.out).mono ?_); (case side1 => repeat (first | exact (yc HR0.out HB.out) | (with_reducible refine yS ?_ _) | (with_reducible refine yT ?_ _) | (with_reducible refine yU ?_))); (case side2 => exact HC0.out); rintro e w17 ⟨rfl, hb⟩; refine ⟨_, rfl, ?_⟩; have n0_ := zK (yL (by repeat (first | (with_reducible first | exact HB.out | apply zJ | apply zD | apply zE) | exact HB.out)) hb); clear HB; have HB := n0_; clear n0_; (try clear hb); (try clear hb2); (try clear hk); (try clear hi)))
              go_roundg k2
              case measure => have := HK1.out; have := HK2.out; omega
              case rel => exact ⟨(x8_2), (x9_2), (x10_2), (wrap64 (x54_2 + 1)), (by first | rfl | (simp; done) | (simp [*]; done)), (by first | rfl | (simp; done) | (simp [*]; done)), (by first | rfl | (simp; done) | (simp [*]; done)), (by first | rfl | (simp; done) | (simp [*]; done)), H', ⟨by have := HK1.out; have := HK2.out; omega⟩, ⟨by repeat (first | (with_reducible first | exact HB.out | apply zJ | apply zD | apply zE) | exact HB.out)⟩⟩
             ·rw [if_neg c16] at H
              have c16b0 : (t759 == 223) = false := beq_eq_false_iff_ne.mpr c16
              have c16b1 : (t759 != 223) = true := bne_iff_ne.mpr c16
              obtain rfl := yY H
              have p757 : 0 ≤ (x54_2 : Int) := yB (by first | (with_reducible assumption) | assumption)
              have q757 : x54_2 < (l0.length : Int) := yB (by first | (with_reducible assumption) | assumption)
              obtain ⟨ad757, e757, hx757_0⟩ := Kd.at_int HR0.out x54_2 p757 q757
              cases e757
              replace hx757_0 := (HB.out.cell (World.block_lt_of_cell? w _ hx757_0)).trans hx757_0
              replace p757 := yg p757
              replace q757 := yg q757
              go_wp2_with (first | ((with_reducible refine gate_callee (f := 29) rfl ?_); refine goesL_ (some 62) rfl rfl Try.func29 (by kernel_rfl) rfl #[.slice (some ad757) l0.length c0, .int .i64 x54_2] rfl (by (try simp only [yH, yI, yJ]); first | done | rfl | (simp only [yG, yF]; rfl)) ?_; (with_reducible refine (dist_Surprise.calls k2 _ _ l0 x54_2 t758 t759 _ ?side1 ?side2 A14.out).mono ?_); (case side1 => repeat (first | exact (yc HR0.out HB.out) | (with_reducible refine yS ?_ _) | (with_reducible refine yT ?_ _) | (with_reducible refine yU ?_))); (case side2 => exact HC0.out); rintro e w18 ⟨rfl, hb⟩; refine ⟨_, rfl, ?_⟩; have n0_ := zK (yL (by repeat (first | (with_reducible first | exact HB.out | apply zJ | apply zD | apply zE) | exact HB.out)) hb); clear HB; have HB := n0_; clear n0_; (try clear hb); (try clear hb2); (try clear hk); (try clear hi)))
              go_ret
              exact ⟨by first | rfl | (simp [errW_none, errW_some] <;> rfl) | (simp [*, errW_none, errW_some] <;> rfl), by repeat (first | (with_reducible first | exact HB.out | apply zJ | apply zD | apply zE) | exact HB.out)⟩
            ·rw [if_neg c15] at H
             have c15b0 : ((rd l0 x54_2) == 0) = false := beq_eq_false_iff_ne.mpr c15
             have c15b1 : ((rd l0 x54_2) != 0) = true := bne_iff_ne.mpr c15
             obtain ⟨ji19, hji19⟩ : ∃ j_ : Int, (mx x9_2 t758) = j_ := ⟨_, rfl⟩
             replace H : (if t759 = 0 then (if t758 < 0 then (w22_DistBits.j2 k2 l0 t752 x7_1 (wrap64 (x8_2 + 1)) ji19 (mn x10_2 t758) (rd l0 x54_2) t758 l0 (l0.length : Int) x54_2 true) else (w22_DistBits.j2 k2 l0 t752 x7_1 (wrap64 (x8_2 + 1)) ji19 (mn x10_2 t758) (rd l0 x54_2) t758 l0 (l0.length : Int) x54_2 ((t758 == 0) != ((rd l0 x54_2) == x7_1)))) else (w22_DistBits.j2 k2 l0 t752 x7_1 (wrap64 (x8_2 + 1)) ji19 (mn x10_2 t758) (rd l0 x54_2) t758 l0 (l0.length : Int) x54_2 true)) = some r := by first | (rw [hji19] at H; exact H) | (simp only [hji19] at H ⊢; exact H)
             (try rw [hji19] at A14)
             have hji19_ : (if x9_2 < t758 then t758 else x9_2) = ji19 := hji19
             obtain ⟨ji20, hji20⟩ : ∃ j_ : Int, (mn x10_2 t758) = j_ := ⟨_, rfl⟩
             replace H : (if t759 = 0 then (if t758 < 0 then (w22_DistBits.j2 k2 l0 t752 x7_1 (wrap64 (x8_2 + 1)) ji19 ji20 (rd l0 x54_2) t758 l0 (l0.length : Int) x54_2 true) else (w22_DistBits.j2 k2 l0 t752 x7_1 (wrap64 (x8_2 + 1)) ji19 ji20 (rd l0 x54_2) t758 l0 (l0.length : Int) x54_2 ((t758 == 0) != ((rd l0 x54_2) == x7_1)))) else (w22_DistBits.j2 k2 l0 t752 x7_1 (wrap64 (x8_2 + 1)) ji19 ji20 (rd l0 x54_2) t758 l0 (l0.length : Int) x54_2 true)) = some r := by first | (rw [hji20] at H; exact H) | (simp only [hji20] at H ⊢; exact H)
             (try rw [hji20] at A14)
             have hji20_ : (if t758 < x10_2 then t758 else x10_2) = ji20 := hji20
             have HC21 := zK H
             clear H
             have p757 : 0 ≤ (x54_2 : Int) := yB (by first | (with_reducible assumption) | assumption)
             have q757 : x54_2 < (l0.length : Int) := yB (by first | (with_reducible assumption) | assumption)
             obtain ⟨ad757, e757, hx757_0⟩ := Kd.at_int HR0.out x54_2 p757 q757
             cases e757
             replace hx757_0 := (HB.out.cell (World.block_lt_of_cell? w _ hx757_0)).trans hx757_0
             replace p757 := yg p757
             replace q757 := yg q757
             go_upto_region 22 with (first | ((with_reducible refine gate_callee (f := 29) rfl ?_); refine goesL_ (some 62) rfl rfl Try.func29 (by kernel_rfl) rfl #[.slice (some ad757) l0.length c0, .int .i64 x54_2] rfl (by (try simp only [yH, yI, yJ]); first | done | rfl | (simp only [yG, yF]; rfl)) ?_; (with_reducible refine (dist_Surprise.calls k2 _ _ l0 x54_2 t758 t759 _ ?side1 ?side2 A14.out).mono ?_); (case side1 => repeat (first | exact (yc HR0.out HB.out) | (with_reducible refine yS ?_ _) | (with_reducible refine yT ?_ _) | (with_reducible refine yU ?_))); (case side2 => exact HC0.out); rintro e w22 ⟨rfl, hb⟩; refine ⟨_, rfl, ?_⟩; have n0_ := zK (yL (by repeat (first | (with_reducible first | exact HB.out | apply zJ | apply zD | apply zE) | exact HB.out)) hb); clear HB; have HB := n0_; clear n0_; (try clear hb); (try clear hb2); (try clear hk); (try clear hi)))
             (try simp only [Act.put, zA, zB, zC])
             go_cut [90] (fun v90 wc => ∃ (kq : Nat) (x90_20 : Bool), v90 = .bool x90_20 ∧ Aside0 (w22_DistBits.j2 kq l0 t752 x7_1 (wrap64 (x8_2 + 1)) ji19 ji20 (rd l0 x54_2) t758 l0 (l0.length : Int) x54_2 x90_20 = some r) ∧ Aside0 (kq ≤ k2) ∧ Aside0 (Below w.heap.size w wc))
             case first =>
              have H := HC21.out
              clear HC21
              by_cases c23 : t759 = 0
              ·rw [if_pos c23] at H
               have c23b0 : (t759 == 0) = true := beq_iff_eq.mpr c23
               have c23b1 : (t759 != 0) = false := bne_eq_false_iff_eq.mpr c23
               clear c23
               (first | rw [c23b0] | (simp only [i64_w, i32_w]; rw [c23b0]) | skip)
               by_cases c24 : t758 < 0
               ·rw [if_pos c24] at H
                have c24b0 : decide (t758 < 0) = true := yC c24
                clear c24
                have H' := zK H
                clear H
                go_wp2
                go_meet
                case rel => exact ⟨_, (true), (by first | rfl | (simp; done) | (simp [*]; done)), H', ⟨by have := HK1.out; have := HK2.out; first | omega | exact yN _⟩, ⟨by repeat (first | (with_reducible first | exact HB.out | apply zJ | apply zD | apply zE) | exact HB.out)⟩⟩
               ·rw [if_neg c24] at H
                have c24b0 : decide (t758 < 0) = false := yD c24
                clear c24
                have H' := zK H
                clear H
                go_wp2
                go_meet
                case rel => exact ⟨_, (((t758 == 0) != ((rd l0 x54_2) == x7_1))), (by first | rfl | (simp; done) | (simp [*]; done)), H', ⟨by have := HK1.out; have := HK2.out; first | omega | exact yN _⟩, ⟨by repeat (first | (with_reducible first | exact HB.out | apply zJ | apply zD | apply zE) | exact HB.out)⟩⟩
              ·rw [if_neg c23] at H
               have c23b0 : (t759 == 0) = false := beq_eq_false_iff_ne.mpr c23
               have c23b1 : (t759 != 0) = true := bne_iff_ne.mpr c23
               (first | rw [c23b0] | (simp only [i64_w, i32_w]; rw [c23b0]) | skip)
               have H' := zK H
               clear H
               go_wp2
               go_meet
               case rel => exact ⟨_, (true), (by first | rfl | (simp; done) | (simp [*]; done)), H', ⟨by have := HK1.out; have := HK2.out; first | omega | exact yN _⟩, ⟨by repeat (first | (with_reducible first | exact HB.out | apply zJ | apply zD | apply zE) | exact HB.out)⟩⟩
             case rest =>
              clear HC21
              try clear c1
              try clear c2
              try clear p2
              try clear c3
              try clear c5
              try clear c5b0
              try clear c5b1
              try clear p6
              try clear p7
              try clear q7
              try clear hx7
              try clear c8
              try clear c8b0
              try clear c9
              try clear c9b0
              try clear c10
              try clear c10b0
              try clear c11
              try clear c11b0
              try clear c12
              try clear c12b0
              try clear c13
              try clear c13b0
              try clear c15
              try clear c15b0
              try clear c15b1
              try clear c16
              try clear c16b0
              try clear c16b1
              try clear c23
              try clear c23b0
              try clear c23b1
              try clear c24
              try clear c24b0
              try clear hx756_0
              try clear hx757_0
              try clear p2
              try clear p6
              try clear p7
              try clear p756
              try clear p757
              try clear q7
              try clear q756
              try clear q757
              obtain ⟨kq, x90_20, rfl, HA, HJ20, HB⟩ := hcut
              cases kq with
              | zero => exact absurd HA.out (by simp [w22_DistBits.j2])
              | succ kj20 =>
               have H := HA.out
               clear HA
               simp only [w22_DistBits.j2] at H
               by_cases c25 : x90_20 = true
               ·subst c25
                have H1 : (some false) = some r := by rw [if_pos rfl] at H; exact H
                clear H
                have H := H1
                clear H1
                obtain rfl := yY H
                go_wp2
                go_ret
                exact ⟨by first | rfl | (simp [errW_none, errW_some] <;> rfl) | (simp only [← hji19, ← hji20]; first | rfl | (simp [errW_none, errW_some] <;> rfl)) | (simp [*, errW_none, errW_some] <;> rfl), by repeat (first | (with_reducible first | exact HB.out | apply zJ | apply zD | apply zE) | exact HB.out)⟩
               ·replace c25 := yh.mpr c25
                subst c25
                have H1 : (w22_DistBits.l2 kj20 l0 t752 x7_1 (wrap64 (x8_2 + 1)) ji19 ji20 (rd l0 x54_2) t758 l0 (l0.length : Int) x54_2 l0 (l0.length : Int) 0) = some r := by rw [if_neg (show ¬ (false = true) by decide)] at H; exact H
                clear H
                have H := H1
                clear H1
                have H' := zK H
                clear H
                go_wp2
                go_loopg [93] kj20 (fun kq v93 w' => ∃ (x93_4 : Int), v93 = .int .i64 x93_4 ∧ Aside0 (w22_DistBits.l2 kq l0 t752 x7_1 (wrap64 (x8_2 + 1)) ji19 ji20 (rd l0 x54_2) t758 l0 (l0.length : Int) x54_2 l0 (l0.length : Int) x93_4 = some r) ∧ Aside0 (kq ≤ kj20) ∧ Aside0 (Below w.heap.size w w'))
                case atStart => exact ⟨(0), (by first | rfl | (simp; done) | (simp [*]; done)), H', ⟨yN _⟩, ⟨by repeat (first | (with_reducible first | exact HB.out | apply zJ | apply zD | apply zE) | exact HB.out)⟩⟩
                case round =>
                 clear H'
                 try clear c1
                 try clear c2
                 try clear p2
                 try clear c3
                 try clear c5
                 try clear c5b0
                 try clear c5b1
                 try clear p6
                 try clear p7
                 try clear q7
                 try clear hx7
                 try clear c8
                 try clear c8b0
                 try clear c9
                 try clear c9b0
                 try clear c10
                 try clear c10b0
                 try clear c11
                 try clear c11b0
                 try clear c12
                 try clear c12b0
                 try clear c13
                 try clear c13b0
                 try clear c15
                 try clear c15b0
                 try clear c15b1
                 try clear c16
                 try clear c16b0
                 try clear c16b1
                 try clear c23
                 try clear c23b0
                 try clear c23b1
                 try clear c24
                 try clear c24b0
                 try clear c25
                 try clear hx756_0
                 try clear hx757_0
                 try clear p2
                 try clear p6
                 try clear p7
                 try clear p756
                 try clear p757
                 try clear q7
                 try clear q756
                 try clear q757
                 obtain ⟨x93_4, rfl, HA, HK4, HB⟩ := hrel
                 cases gk with
                 | zero => exact absurd HA.out (by simp [w22_DistBits.l2])
                 | succ k4 =>
                  have H := HA.out
                  clear HA
                  simp only [w22_DistBits.l2] at H
                  by_cases c26 : x93_4 < (l0.length : Int)
                  ·rw [if_pos c26] at H
                   have c26b0 : decide (x93_4 < (l0.length : Int)) = true := yC c26
                   clear c26
                   by_cases c27 : 0 ≤ x93_4
                   ·rw [if_pos c27] at H
                    have c27b0 : decide (0 ≤ x93_4) = true := yC c27
                    clear c27
                    by_cases c28 : x93_4 < (l0.length : Int)
                    ·rw [if_pos c28] at H
                     have c28b0 : decide (x93_4 < (l0.length : Int)) = true := yC c28
                     clear c28
                     replace H := yA.mp H
                     obtain ⟨⟨t761, t762⟩, A290, H⟩ := H
                     replace H : (if (rd l0 x93_4) > (rd l0 x54_2) then (if t762 = 0 then (if t761 > t758 then (some false) else (w22_DistBits.l2 k4 l0 t752 x7_1 (wrap64 (x8_2 + 1)) ji19 ji20 (rd l0 x54_2) t758 l0 (l0.length : Int) x54_2 l0 (l0.length : Int) (wrap64 (x93_4 + 1)))) else (some false)) else (w22_DistBits.l2 k4 l0 t752 x7_1 (wrap64 (x8_2 + 1)) ji19 ji20 (rd l0 x54_2) t758 l0 (l0.length : Int) x54_2 l0 (l0.length : Int) (wrap64 (x93_4 + 1)))) = some r := H
                     have A29 := zK A290
                     clear A290
                     by_cases c30 : (rd l0 x93_4) > (rd l0 x54_2)
                     ·rw [if_pos c30] at H
                      have c30b0 : decide ((rd l0 x54_2) < (rd l0 x93_4)) = true := yC c30
                      clear c30
                      by_cases c31 : t762 = 0
                      ·rw [if_pos c31] at H
                       have c31b0 : (t762 == 0) = true := beq_iff_eq.mpr c31
                       have c31b1 : (t762 != 0) = false := bne_eq_false_iff_eq.mpr c31
                       clear c31
                       by_cases c32 : t761 > t758
                       ·rw [if_pos c32] at H
                        have c32b0 : decide (t758 < t761) = true := yC c32
                        clear c32
                        obtain rfl := yY H
                        have p760 : 0 ≤ (x93_4 : Int) := yB (by first | (with_reducible assumption) | assumption)
                        have q760 : x93_4 < (l0.length : Int) := yB (by first | (with_reducible assumption) | assumption)
                        obtain ⟨ad760, e760, hx760_0⟩ := Kd.at_int HR0.out x93_4 p760 q760
                        obtain rfl : ad757 = ad760 := (by injection e760)
                        replace hx760_0 := (HB.out.cell (World.block_lt_of_cell? w _ hx760_0)).trans hx760_0
                        replace p760 := yg p760
                        replace q760 := yg q760
                        go_wp2_with (first | ((with_reducible refine gate_callee (f := 29) rfl ?_); refine goesL_ (some 101) rfl rfl Try.func29 (by kernel_rfl) rfl #[.slice (some ad757) l0.length c0, .int .i64 x93_4] rfl (by (try simp only [yH, yI, yJ]); first | done | rfl | (simp only [yG, yF]; rfl)) ?_; (with_reducible refine (dist_Surprise.calls k4 _ _ l0 x93_4 t761 t762 _ ?side1 ?side2 A29.out).mono ?_); (case side1 => repeat (first | exact (yc HR0.out HB.out) | (with_reducible refine yS ?_ _) | (with_reducible refine yT ?_ _) | (with_reducible refine yU ?_))); (case side2 => exact HC0.out); rintro e w33 ⟨rfl, hb⟩; refine ⟨_, rfl, ?_⟩; have n0_ := zK (yL (by repeat (first | (with_reducible first | exact HB.out | apply zJ | apply zD | apply zE) | exact HB.out)) hb); clear HB; have HB := n0_; clear n0_; (try clear hb); (try clear hb2); (try clear hk); (try clear hi)))
                        go_ret
                        exact ⟨by first | rfl | (simp [errW_none, errW_some] <;> rfl) | (simp only [← hji19, ← hji20]; first | rfl | (simp [errW_none, errW_some] <;> rfl)) | (simp [*, errW_none, errW_some] <;> rfl), by repeat (first | (with_reducible first | exact HB.out | apply zJ | apply zD | apply zE) | exact HB.out)⟩
                       ·rw [if_neg c32] at H
                        have c32b0 : decide (t758 < t761) = false := yD c32
                        clear c32
                        have H' := zK H
                        clear H
                        have p760 : 0 ≤ (x93_4 : Int) := yB (by first | (with_reducible assumption) | assumption)
                        have q760 : x93_4 < (l0.length : Int) := yB (by first | (with_reducible assumption) | assumption)
                        obtain ⟨ad760, e760, hx760_0⟩ := Kd.at_int HR0.out x93_4 p760 q760
                        obtain rfl : ad757 = ad760 := (by injection e760)
                        replace hx760_0 := (HB.out.cell (World.block_lt_of_cell? w _ hx760_0)).trans hx760_0
                        replace p760 := yg p760
                        replace q760 := yg q760
                        go_wp2_with (first | ((with_reducible refine gate_callee (f := 29) rfl ?_); refine goesL_ (some 101) rfl rfl Try.func29 (by kernel_rfl) rfl #[.slice (some ad757) l0.length c0, .int .i64 x93_4] rfl (by (try simp only [yH, yI, yJ]); first | done | rfl | (simp only [yG, yF]; rfl)) ?_; (with_reducible refine (dist_Surprise.calls k4 _ _ l0 x93_4 t761 t762 _ ?side1 ?side2 A29.out).mono ?_); (case side1 => repeat (first | exact (yc HR0.out HB.out) | (with_reducible refine yS ?_ _) | (with_reducible refine yT ?_ _) | (with_reducible refine yU ?_))); (case side2 => exact HC0.out); rintro e w34 ⟨rfl, hb⟩; refine ⟨_, rfl, ?_⟩; have n0_ := zK (yL (by repeat (first | (with_reducible first | exact HB.out | apply zJ | apply zD | apply zE) | exact HB.out)) hb); clear HB; have HB := n0_; clear n0_; (try clear hb); (try clear hb2); (try clear hk); (try clear hi)))
                        go_roundg k4
                        case measure => have := HK1.out; have := HK2.out; have := HJ20.out; have := HK4.out; omega
                        case rel => exact ⟨(wrap64 (x93_4 + 1)), (by first | rfl | (simp; done) | (simp [*]; done)), H', ⟨by have := HK1.out; have := HK2.out; have := HJ20.out; have := HK4.out; omega⟩, ⟨by repeat (first | (with_reducible first | exact HB.out | apply zJ | apply zD | apply zE) | exact HB.out)⟩⟩
                      ·rw [if_neg c31] at H
                       have c31b0 : (t762 == 0) = false := beq_eq_false_iff_ne.mpr c31
                       have c31b1 : (t762 != 0) = true := bne_iff_ne.mpr c31
                       obtain rfl := yY H
                       have p760 : 0 ≤ (x93_4 : Int) := yB (by first | (with_reducible assumption) | assumption)
                       have q760 : x93_4 < (l0.length : Int) := yB (by first | (with_reducible assumption) | assumption)
                       obtain ⟨ad760, e760, hx760_0⟩ := Kd.at_int HR0.out x93_4 p760 q760
                       obtain rfl : ad757 = ad760 := (by injection e760)
                       replace hx760_0 := (HB.out.cell (World.block_lt_of_cell? w _ hx760_0)).trans hx760_0
                       replace p760 := yg p760
                       replace q760 := yg q760
                       go_wp2_with (first | ((with_reducible refine gate_callee (f := 29) rfl ?_); refine goesL_ (some 101) rfl rfl Try.func29 (by kernel_rfl) rfl #[.slice (some ad757) l0.length c0, .int .i64 x93_4] rfl (by (try simp only [yH, yI, yJ]); first | done | rfl | (simp only [yG, yF]; rfl)) ?_; (with_reducible refine (dist_Surprise.calls k4 _ _ l0 x93_4 t761 t762 _ ?side1 ?side2 A29.out).mono ?_); (case side1 => repeat (first | exact (yc HR0.out HB.out) | (with_reducible refine yS ?_ _) | (with_reducible refine yT ?_ _) | (with_reducible refine yU ?_))); (case side2 => exact HC0.out); rintro e w35 ⟨rfl, hb⟩; refine ⟨_, rfl, ?_⟩; have n0_ := zK (yL (by repeat (first | (with_reducible first | exact HB.out | apply zJ | apply zD | apply zE) | exact HB.out)) hb); clear HB; have HB := n0_; clear n0_; (try clear hb); (try clear hb2); (try clear hk); (try clear hi)))
                       go_ret
                       exact ⟨by first | rfl | (simp [errW_none, errW_some] <;> rfl) | (simp only [← hji19, ← hji20]; first | rfl | (simp [errW_none, errW_some] <;> rfl)) | (simp [*, errW_none, errW_some] <;> rfl), by repeat (first | (with_reducible first | exact HB.out | apply zJ | apply zD | apply zE) | exact HB.out)⟩
                     ·rw [if_neg c30] at H
                      have c30b0 : decide ((rd l0 x54_2) < (rd l0 x93_4)) = false := yD c30
                      clear c30
                      have H' := zK H
                      clear H
                      have p760 : 0 ≤ (x93_4 : Int) := yB (by first | (with_reducible assumption) | assumption)
                      have q760 : x93_4 < (l0.length : Int) := yB (by first | (with_reducible assumption) | assumption)
                      obtain ⟨ad760, e760, hx760_0⟩ := Kd.at_int HR0.out x93_4 p760 q760
                      obtain rfl : ad757 = ad760 := (by injection e760)
                      replace hx760_0 := (HB.out.cell (World.block_lt_of_cell? w _ hx760_0)).trans hx760_0
                      replace p760 := yg p760
                      replace q760 := yg q760
                      go_wp2_with (first | ((with_reducible refine gate_callee (f := 29) rfl ?_); refine goesL_ (some 101) rfl rfl Try.func29 (by kernel_rfl) rfl #[.slice (some ad757) l0.length c0, .int .i64 x93_4] rfl (by (try simp only [yH, yI, yJ]); first | done | rfl | (simp only [yG, yF]; rfl)) ?_; (with_reducible refine (dist_Surprise.calls k4 _ _ l0 x93_4 t761 t762 _ ?side1 ?side2 A29.out).mono ?_); (case side1 => repeat (first | exact (yc HR0.out HB.out) | (with_reducible refine yS ?_ _) | (with_reducible refine yT ?_ _) | (with_reducible refine yU ?_))); (case side2 => exact HC0.out); rintro e w36 ⟨rfl, hb⟩; refine ⟨_, rfl, ?_⟩; have n0_ := zK (yL (by repeat (first | (with_reducible first | exact HB.out | apply zJ | apply zD | apply zE) | exact HB.out)) hb); clear HB; have HB := n0_; clear n0_; (try clear hb); (try clear hb2); (try clear hk); (try clear hi)))
                      go_roundg k4
                      case measure => have := HK1.out; have := HK2.out; have := HJ20.out; have := HK4.out; omega
                      case rel => exact ⟨(wrap64 (x93_4 + 1)), (by first | rfl | (simp; done) | (simp [*]; done)), H', ⟨by have := HK1.out; have := HK2.out; have := HJ20.out; have := HK4.out; omega⟩, ⟨by repeat (first | (with_reducible first | exact HB.out | apply zJ | apply zD | apply zE) | exact HB.out)⟩⟩
                    ·rw [if_neg c28] at H
                     exact absurd H (by simp)
                   ·rw [if_neg c27] at H
                    exact absurd H (by simp)
                  ·rw [if_neg c26] at H
                   have c26b0 : decide (x93_4 < (l0.length : Int)) = false := yD c26
                   clear c26
                   have H' := zK H
                   clear H
                   go_wp2
                   go_roundg k4
                   case measure => have := HK1.out; have := HK2.out; have := HJ20.out; have := HK4.out; omega
                   case rel => exact ⟨((wrap64 (x8_2 + 1))), (ji19), (ji20), (wrap64 (x54_2 + 1)), (by first | rfl | (simp; done) | (simp [*]; done)), (by first | rfl | (simp; done) | (simp only [← hji19] <;> (first | rfl | simp)) | (simp [*]; done)), (by first | rfl | (simp; done) | (simp only [← hji20] <;> (first | rfl | simp)) | (simp [*]; done)), (by first | rfl | (simp; done) | (simp [*]; done)), H', ⟨by have := HK1.out; have := HK2.out; have := HJ20.out; have := HK4.out; omega⟩, ⟨by repeat (first | (with_reducible first | exact HB.out | apply zJ | apply zD | apply zE) | exact HB.out)⟩⟩
           ·rw [if_neg c13] at H
            exact absurd H (by simp)
          ·rw [if_neg c12] at H
           exact absurd H (by simp)
         ·rw [if_neg c11] at H
          have c11b0 : decide (x54_2 < (l0.length : Int)) = false := yD c11
          clear c11
          by_cases c37 : t752 ≥ 0
          ·rw [if_pos c37] at H
           have c37b0 : decide (0 ≤ t752) = true := yC c37
           clear c37
           by_cases c38 : t752 ≤ x9_2
           ·rw [if_pos c38] at H
            have c38b0 : decide (t752 ≤ x9_2) = true := yC c38
            clear c38
            by_cases c39 : t752 ≥ x10_2
            ·rw [if_pos c39] at H
             have c39b0 : decide (x10_2 ≤ t752) = true := yC c39
             clear c39
             obtain rfl := yY H
             go_wp2
             go_ret
             exact ⟨by first | rfl | (simp [errW_none, errW_some] <;> rfl) | (simp [*, errW_none, errW_some] <;> rfl), by repeat (first | (with_reducible first | exact HB.out | apply zJ | apply zD | apply zE) | exact HB.out)⟩
            ·rw [if_neg c39] at H
             have c39b0 : decide (x10_2 ≤ t752) = false := yD c39
             clear c39
             obtain rfl := yY H
             go_wp2
             go_ret
             exact ⟨by first | rfl | (simp [errW_none, errW_some] <;> rfl) | (simp [*, errW_none, errW_some] <;> rfl), by repeat (first | (with_reducible first | exact HB.out | apply zJ | apply zD | apply zE) | exact HB.out)⟩
           ·rw [if_neg c38] at H
            have c38b0 : decide (t752 ≤ x9_2) = false := yD c38
            clear c38
            obtain rfl := yY H
            go_wp2
            go_ret
            exact ⟨by first | rfl | (simp [errW_none, errW_some] <;> rfl) | (simp [*, errW_none, errW_some] <;> rfl), by repeat (first | (with_reducible first | exact HB.out | apply zJ | apply zD | apply zE) | exact HB.out)⟩
          ·rw [if_neg c37] at H
           have c37b0 : decide (0 ≤ t752) = false := yD c37
           clear c37
           obtain rfl := yY H
           go_wp2
           go_ret
           exact ⟨by first | rfl | (simp [errW_none, errW_some] <;> rfl) | (simp [*, errW_none, errW_some] <;> rfl), by repeat (first | (with_reducible first | exact HB.out | apply zJ | apply zD | apply zE) | exact HB.out)⟩
   ·rw [if_neg c5] at H
    have c5b0 : (t753 == 0) = false := beq_eq_false_iff_ne.mpr c5
    have c5b1 : (t753 != 0) = true := bne_iff_ne.mpr c5
    replace H := yA.mp H
    obtain ⟨⟨t754, t755⟩, A400, H⟩ := H
    replace H : (if t753 = t755 then (some (t752 == 0)) else (some false)) = some r := H
    have A40 := zK A400
    clear A400
    by_cases c41 : t753 = t755
    ·rw [if_pos c41] at H
     have c41b0 : (t753 == t755) = true := beq_iff_eq.mpr c41
     have c41b1 : (t753 != t755) = false := bne_eq_false_iff_eq.mpr c41
     clear c41
     obtain rfl := yY H
     go_enter Try.func12, Try.ntmps12
     go_wp2_with (first | ((with_reducible refine gate_callee (f := 13) rfl ?_); refine goesL_ (some 21) rfl rfl Try.func13 (by kernel_rfl) rfl #[] rfl (by (try simp only [yH, yI, yJ]); first | done | rfl | (simp only [yG, yF]; rfl)) ?_; (with_reducible refine (w22_awake.calls k  true _ A2.out).mono ?_); rintro e w42 ⟨rfl, hb⟩; refine ⟨_, rfl, ?_⟩; have n0_ := zK (yL (by repeat (first | (with_reducible first | exact HB.out | apply zJ | apply zD | apply zE) | exact HB.out)) hb); clear HB; have HB := n0_; clear n0_; (try clear hb); (try clear hb2); (try clear hk); (try clear hi)) | ((with_reducible refine gate_callee (f := 31) rfl ?_); refine goesL_ (some 25) rfl rfl Try.func31 (by kernel_rfl) rfl #[.slice A0 l0.length c0] rfl (by (try simp only [yH, yI, yJ]); first | done | rfl | (simp only [yG, yF]; rfl)) ?_; (with_reducible refine (dist_Entropy.calls k _ _ l0 t752 t753 _ ?side1 ?side2 A4.out).mono ?_); (case side1 => repeat (first | exact (yc HR0.out HB.out) | (with_reducible refine yS ?_ _) | (with_reducible refine yT ?_ _) | (with_reducible refine yU ?_))); (case side2 => exact HC0.out); rintro e w43 ⟨rfl, hb⟩; refine ⟨_, rfl, ?_⟩; have n0_ := zK (yL (by repeat (first | (with_reducible first | exact HB.out | apply zJ | apply zD | apply zE) | exact HB.out)) hb); clear HB; have HB := n0_; clear n0_; (try clear hb); (try clear hb2); (try clear hk); (try clear hi)) | ((with_reducible refine gate_callee (f := 32) rfl ?_); refine goesL_ (some 32) rfl rfl Try.func32 (by kernel_rfl) rfl #[.slice A0 l0.length c0] rfl (by (try simp only [yH, yI, yJ]); first | done | rfl | (simp only [yG, yF]; rfl)) ?_; (with_reducible refine (r22_Entropy.calls k _ _ l0 t754 t755 _ ?side1 ?side2 A40.out).mono ?_); (case side1 => repeat (first | exact (yc HR0.out HB.out) | (with_reducible refine yS ?_ _) | (with_reducible refine yT ?_ _) | (with_reducible refine yU ?_))); (case side2 => exact HC0.out); rintro e w44 ⟨rfl, hb⟩; refine ⟨_, rfl, ?_⟩; have n0_ := zK (yL (by repeat (first | (with_reducible first | exact HB.out | apply zJ | apply zD | apply zE) | exact HB.out)) hb); clear HB; have HB := n0_; clear n0_; (try clear hb); (try clear hb2); (try clear hk); (try clear hi)))
     go_ret
     exact ⟨by first | rfl | (simp [errW_none, errW_some] <;> rfl) | (simp [*, errW_none, errW_some] <;> rfl), by repeat (first | (with_reducible first | exact HB.out | apply zJ | apply zD | apply zE) | exact HB.out)⟩
    ·rw [if_neg c41] at H
     have c41b0 : (t753 == t755) = false := beq_eq_false_iff_ne.mpr c41
     have c41b1 : (t753 != t755) = true := bne_iff_ne.mpr c41
     obtain rfl := yY H
     go_enter Try.func12, Try.ntmps12
     go_wp2_with (first | ((with_reducible refine gate_callee (f := 13) rfl ?_); refine goesL_ (some 21) rfl rfl Try.func13 (by kernel_rfl) rfl #[] rfl (by (try simp only [yH, yI, yJ]); first | done | rfl | (simp only [yG, yF]; rfl)) ?_; (with_reducible refine (w22_awake.calls k  true _ A2.out).mono ?_); rintro e w45 ⟨rfl, hb⟩; refine ⟨_, rfl, ?_⟩; have n0_ := zK (yL (by repeat (first | (with_reducible first | exact HB.out | apply zJ | apply zD | apply zE) | exact HB.out)) hb); clear HB; have HB := n0_; clear n0_; (try clear hb); (try clear hb2); (try clear hk); (try clear hi)) | ((with_reducible refine gate_callee (f := 31) rfl ?_); refine goesL_ (some 25) rfl rfl Try.func31 (by kernel_rfl) rfl #[.slice A0 l0.length c0] rfl (by (try simp only [yH, yI, yJ]); first | done | rfl | (simp only [yG, yF]; rfl)) ?_; (with_reducible refine (dist_Entropy.calls k _ _ l0 t752 t753 _ ?side1 ?side2 A4.out).mono ?_); (case side1 => repeat (first | exact (yc HR0.out HB.out) | (with_reducible refine yS ?_ _) | (with_reducible refine yT ?_ _) | (with_reducible refine yU ?_))); (case side2 => exact HC0.out); rintro e w46 ⟨rfl, hb⟩; refine ⟨_, rfl, ?_⟩; have n0_ := zK (yL (by repeat (first | (with_reducible first | exact HB.out | apply zJ | apply zD | apply zE) | exact HB.out)) hb); clear HB; have HB := n0_; clear n0_; (try clear hb); (try clear hb2); (try clear hk); (try clear hi)) | ((with_reducible refine gate_callee (f := 32) rfl ?_); refine goesL_ (some 32) rfl rfl Try.func32 (by kernel_rfl) rfl #[.slice A0 l0.length c0] rfl (by (try simp only [yH, yI, yJ]); first | done | rfl | (simp only [yG, yF]; rfl)) ?_; (with_reducible refine (r22_Entropy.calls k _ _ l0 t754 t755 _ ?side1 ?side2 A40.out).mono ?_); (case side1 => repeat (first | exact (yc HR0.out HB.out) | (with_reducible refine yS ?_ _) | (with_reducible refine yT ?_ _) | (with_reducible refine yU ?_))); (case side2 => exact HC0.out); rintro e w47 ⟨rfl, hb⟩; refine ⟨_, rfl, ?_⟩; have n0_ := zK (yL (by repeat (first | (with_reducible first | exact HB.out | apply zJ | apply zD | apply zE) | exact HB.out)) hb); clear HB; have HB := n0_; clear n0_; (try clear hb); (try clear hb2); (try clear hk); (try clear hi)))
     go_ret
     exact ⟨by first | rfl | (simp [errW_none, errW_some] <;> rfl) | (simp [*, errW_none, errW_some] <;> rfl), by repeat (first | (with_reducible first | exact HB.out | apply zJ | apply zD | apply zE) | exact HB.out)⟩
  ·replace c3 := yh.mpr c3
   subst c3
   have H1 : (some false) = some r := by rw [if_neg (show ¬ (false = true) by decide)] at H; exact H
   clear H
   have H := H1
   clear H1
   obtain rfl := yY H
   go_enter Try.func12, Try.ntmps12
   go_wp2_with (first | ((with_reducible refine gate_callee (f := 13) rfl ?_); refine goesL_ (some 21) rfl rfl Try.func13 (by kernel_rfl) rfl #[] rfl (by (try simp only [yH, yI, yJ]); first | done | rfl | (simp only [yG, yF]; rfl)) ?_; (with_reducible refine (w22_awake.calls k  false _ A2.out).mono ?_); rintro e w48 ⟨rfl, hb⟩; refine ⟨_, rfl, ?_⟩; have n0_ := zK (yL (by repeat (first | (with_reducible first | exact HB.out | apply zJ | apply zD | apply zE) | exact HB.out)) hb); clear HB; have HB := n0_; clear n0_; (try clear hb); (try clear hb2); (try clear hk); (try clear hi)))
   go_ret
   exact ⟨by first | rfl | (simp [errW_none, errW_some] <;> rfl) | (simp [*, errW_none, errW_some] <;> rfl), by repeat (first | (with_reducible first | exact HB.out | apply zJ | apply zD | apply zE) | exact HB.out)⟩

/-- THE ONE PURE STATEMENT of w22_DistBits: yours. -/
def w22_DistBits.Pure : Prop := ∀ (l0 : List Int), l0.length ≤ maxLen → l0.length * 8 ≤ 140737488351232 → (∀ x ∈ l0, (Lit.int .i64 x).wf = true) → ∃ k, w22_DistBits.f k l0 = some true
theorem w22_DistBits.walk (P : w22_DistBits.Pure) (a0 : Option Addr) (len0 cap0 : Nat) (z0 : List Int) (w : World) (w0 : (a0 = none ∧ len0 = 0 ∧ cap0 = 0 ∧ z0 = []) ∨ ∃ x, a0 = some x ∧ len0 ≤ cap0 ∧ cap0 ≤ maxLen ∧ z0.length = cap0 ∧ (∀ i, i < z0.length → w.cell? (x.add i) = some (.int .i64 (z0.getD i 0))) ∧ ∀ n ∈ z0, (Lit.int .i64 n).wf = true) (y0 : len0 * 8 ≤ 140737488351232) :
    Calls Try.prog 12 #[.slice a0 len0 cap0] w fun e w' => e = .returned (.bool true) ∧ Below w.heap.size w w' := by
  obtain ⟨l0, rfl, hr0, hm0, hw0, hc0⟩ := ReadsInt.ofRowC w0
  obtain ⟨k, h⟩ := P l0 hm0 y0 hw0
  refine (w22_DistBits.calls k _ _ l0 true w (Kd.C_of_reads (d := (0 : Int)) (h1 := fun _ => rfl) hr0) hc0 h).mono ?_
  rintro e w' ⟨rfl, hd⟩
  exact ⟨rfl, hd⟩

end Go.Proofs.Ythmckhfjaleomaa.T
