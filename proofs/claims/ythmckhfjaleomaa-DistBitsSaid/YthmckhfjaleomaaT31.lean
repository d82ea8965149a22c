-- Printed by this session's own driver (wip/tools/xprint.py) over the kit's printer; given functions are this session's own.
import Derived.Test.YthmckhfjaleomaaT0
import Derived.Test.YthmckhfjaleomaaT29
import Derived.Test.YthmckhfjaleomaaT30
namespace Go.Proofs.Ythmckhfjaleomaa.T
open Go.RowKit Go.Proofs.YthmckhfjaleomaaW.PrintWords Go.Proofs.YthmckhfjaleomaaW.PrintLast Go.Proofs.YthmckhfjaleomaaW.PrintMore
attribute [local go_sem] max2_int min2_int max_two min_two max_three min_three max_four min_four   -- for this text's walks alone
set_option linter.unusedVariables false
set_option linter.unusedSimpArgs false

/-! ### dist_Entropy: function 31 -/
def dist_Entropy.l0 : Nat → Int → Int → List Int → Int → Int → Option (Int × Int)
  | 0, _, _, _, _, _ => none
  | k + 1, x4, x6, x16, x17, x18 => if x18 < x17 then (if 0 ≤ x18 then (if x18 < (x16.length : Int) then (if (rd x16 x18) > 0 then ((dist_surprise.f k x4 (rd x16 x18)).bind fun t730 => (dist_Entropy.l0 k x4 (wrap64 (x6 + (wrap64 ((rd x16 x18) * t730)))) x16 x17 (wrap64 (x18 + 1)))) else (dist_Entropy.l0 k x4 x6 x16 x17 (wrap64 (x18 + 1)))) else (none)) else (none)) else (if 0 ≤ x4 then (some (shr .i64 x6 x4, 0)) else (none))
def dist_Entropy.f (k : Nat) (l0 : List Int) : Option (Int × Int) := (dist_sums.f k l0).bind fun bt727 => (if bt727.2 = true then (dist_Entropy.l0 k bt727.1 0 l0 (l0.length : Int) 0) else (some (0, 221)))
theorem dist_Entropy.mono_l : ∀ k, (∀ y0 y1 y2 y3 y4, LeO (dist_Entropy.l0 k y0 y1 y2 y3 y4) (dist_Entropy.l0 (k + 1) y0 y1 y2 y3 y4))
  | 0 => fun _ _ _ _ _ r h => by simp [dist_Entropy.l0] at h
  | k + 1 => by
    have ih0 := dist_Entropy.mono_l k
    intros
    unfold dist_Entropy.l0
    all_goals repeat' first
      | (with_reducible exact ih0 _ _ _ _ _)
      | (with_reducible exact dist_sums.mono _ _)
      | (with_reducible exact dist_surprise.mono _ _ _)
      | (with_reducible exact yR _)
      | (with_reducible exact yO _)
      | (with_reducible refine yQ ?_ ?_)
      | (with_reducible refine yP ?_ (fun _ => ?_))
      | exact ih0 _ _ _ _ _
      | exact dist_sums.mono _ _
      | exact dist_surprise.mono _ _ _
      | exact yO _
      | refine yQ ?_ ?_
      | refine yP ?_ (fun _ => ?_)
theorem dist_Entropy.mono : ∀ a0 k, LeO (dist_Entropy.f k a0) (dist_Entropy.f (k + 1) a0) := by
  intro a0 k
  have ih0 := dist_Entropy.mono_l k
  unfold dist_Entropy.f
  repeat' first
      | (with_reducible exact ih0 _ _ _ _ _)
      | (with_reducible exact dist_sums.mono _ _)
      | (with_reducible exact dist_surprise.mono _ _ _)
      | (with_reducible exact yR _)
      | (with_reducible exact yO _)
      | (with_reducible refine yQ ?_ ?_)
      | (with_reducible refine yP ?_ (fun _ => ?_))
      | exact ih0 _ _ _ _ _
      | exact dist_sums.mono _ _
      | exact dist_surprise.mono _ _ _
      | exact yO _
      | refine yQ ?_ ?_
      | refine yP ?_ (fun _ => ?_)
set_option maxHeartbeats 8000000 in
set_option maxRecDepth 100000 in
theorem dist_Entropy.calls (k : Nat) (A0 : Option Addr) (c0 : Nat) (l0 : List Int) (r1 : Int) (r2 : Int) (w : World) (hr0 : Kd.C (Kd.int .i64) w A0 l0.length l0) (hc0 : l0.length ≤ c0) (h : dist_Entropy.f k l0 = some (r1, r2)) :
    Calls Try.prog 31 #[.slice A0 l0.length c0] w fun e w' => e = .returned (.tuple #[.int .i64 r1, .int .i64 r2]) ∧ Below w.heap.size w w' := by
  have HR0 := zK hr0
  have HC0 := zK hc0
  clear hr0 hc0
  have HB := zK (Below.refl w.heap.size w)
  have H : ((dist_sums.f k l0).bind fun bt727 => (if bt727.2 = true then (dist_Entropy.l0 k bt727.1 0 l0 (l0.length : Int) 0) else (some (0, 221)))) = some (r1, r2) := h
  clear h
  replace H := yA.mp H
  obtain ⟨⟨t727, t728⟩, A20, H⟩ := H
  replace H : (if t728 = true then (dist_Entropy.l0 k t727 0 l0 (l0.length : Int) 0) else (some (0, 221))) = some (r1, r2) := H
  have A2 := zK A20
  clear A20
  by_cases c3 : t728 = true
  ·subst c3
   have H1 : (dist_Entropy.l0 k t727 0 l0 (l0.length : Int) 0) = some (r1, r2) := by rw [if_pos rfl] at H; exact H
   clear H
   have H := H1
   clear H1
   have H' := zK H
   clear H
   go_enter Try.func31, Try.ntmps31
   go_wp2_with (first | ((with_reducible refine gate_callee (f := 64) rfl ?_); refine goesL_ (some 11) rfl rfl Try.func64 (by kernel_rfl) rfl #[.slice A0 l0.length c0] rfl (by (try simp only [yH, yI, yJ]); first | done | rfl | (simp only [yG, yF]; rfl)) ?_; (with_reducible refine (dist_sums.calls k _ _ l0 t727 true _ ?side1 ?side2 A2.out).mono ?_); (case side1 => repeat (first | exact HR0.out | (with_reducible refine yS ?_ _) | (with_reducible refine yT ?_ _) | (with_reducible refine yU ?_))); (case side2 => exact HC0.out); rintro e w4 ⟨rfl, hb⟩; refine ⟨_, rfl, ?_⟩; have n0_ := zK (yL (by repeat (first | (with_reducible first | exact HB.out | apply zJ | apply zD | apply zE) | exact HB.out)) hb); clear HB; have HB := n0_; clear n0_; (try clear hb); (try clear hb2); (try clear hk); (try clear hi)))
   go_loopg [6, 18] k (fun kq v6 v18 w' => ∃ (x6_1 : Int) (x18_1 : Int), v6 = .int .i64 x6_1 ∧ v18 = .int .i64 x18_1 ∧ Aside0 (dist_Entropy.l0 kq t727 x6_1 l0 (l0.length : Int) x18_1 = some (r1, r2)) ∧ Aside0 (kq ≤ k) ∧ Aside0 (Below w.heap.size w w'))
   case atStart => exact ⟨(0), (0), (by first | rfl | (simp; done) | (simp [*]; done)), (by first | rfl | (simp; done) | (simp [*]; done)), H', ⟨yN _⟩, ⟨by repeat (first | (with_reducible first | exact HB.out | apply zJ | apply zD | apply zE) | exact HB.out)⟩⟩
   case round =>
    clear H'
    try clear p2
    try clear c3
    obtain ⟨x6_1, x18_1, rfl, rfl, HA, HK1, HB⟩ := hrel
    cases gk with
    | zero => exact absurd HA.out (by simp [dist_Entropy.l0])
    | succ k1 =>
     have H := HA.out
     clear HA
     simp only [dist_Entropy.l0] at H
     by_cases c5 : x18_1 < (l0.length : Int)
     ·rw [if_pos c5] at H
      have c5b0 : decide (x18_1 < (l0.length : Int)) = true := yC c5
      clear c5
      by_cases c6 : 0 ≤ x18_1
      ·rw [if_pos c6] at H
       have c6b0 : decide (0 ≤ x18_1) = true := yC c6
       clear c6
       by_cases c7 : x18_1 < (l0.length : Int)
       ·rw [if_pos c7] at H
        have c7b0 : decide (x18_1 < (l0.length : Int)) = true := yC c7
        clear c7
        by_cases c8 : (rd l0 x18_1) > 0
        ·rw [if_pos c8] at H
         have c8b0 : decide (0 < (rd l0 x18_1)) = true := yC c8
         clear c8
         replace H := yA.mp H
         obtain ⟨t730, A90, H⟩ := H
         replace H : (dist_Entropy.l0 k1 t727 (wrap64 (x6_1 + (wrap64 ((rd l0 x18_1) * t730)))) l0 (l0.length : Int) (wrap64 (x18_1 + 1))) = some (r1, r2) := H
         have A9 := zK A90
         clear A90
         have H' := zK H
         clear H
         have p729 : 0 ≤ (x18_1 : Int) := yB (by first | (with_reducible assumption) | assumption)
         have q729 : x18_1 < (l0.length : Int) := yB (by first | (with_reducible assumption) | assumption)
         obtain ⟨ad729, e729, hx729_0⟩ := Kd.at_int HR0.out x18_1 p729 q729
         cases e729
         replace hx729_0 := (HB.out.cell (World.block_lt_of_cell? w _ hx729_0)).trans hx729_0
         replace p729 := yg p729
         replace q729 := yg q729
         go_wp2_with (first | ((with_reducible refine gate_callee (f := 65) rfl ?_); refine goesL_ (some 28) rfl rfl Try.func65 (by kernel_rfl) rfl #[.int .i64 t727, .int .i64 (rd l0 x18_1)] rfl (by (try simp only [yH, yI, yJ]); first | done | rfl | (simp only [yG, yF]; rfl)) ?_; (with_reducible refine (dist_surprise.calls k1 t727 (rd l0 x18_1) t730 _ A9.out).mono ?_); rintro e w' ⟨rfl, ⟨nd, rfl⟩⟩; refine ⟨_, rfl, ?_⟩))
         go_roundg k1
         case measure => have := HK1.out; omega
         case rel => exact ⟨(wrap64 (x6_1 + (wrap64 ((rd l0 x18_1) * t730)))), (wrap64 (x18_1 + 1)), (by first | rfl | (simp; done) | (simp [*]; done)), (by first | rfl | (simp; done) | (simp [*]; done)), H', ⟨by have := HK1.out; omega⟩, ⟨by repeat (first | (with_reducible first | exact HB.out | apply zJ | apply zD | apply zE) | exact HB.out)⟩⟩
        ·rw [if_neg c8] at H
         have c8b0 : decide (0 < (rd l0 x18_1)) = false := yD c8
         clear c8
         have H' := zK H
         clear H
         have p729 : 0 ≤ (x18_1 : Int) := yB (by first | (with_reducible assumption) | assumption)
         have q729 : x18_1 < (l0.length : Int) := yB (by first | (with_reducible assumption) | assumption)
         obtain ⟨ad729, e729, hx729_0⟩ := Kd.at_int HR0.out x18_1 p729 q729
         cases e729
         replace hx729_0 := (HB.out.cell (World.block_lt_of_cell? w _ hx729_0)).trans hx729_0
         replace p729 := yg p729
         replace q729 := yg q729
         go_wp2
         go_roundg k1
         case measure => have := HK1.out; omega
         case rel => exact ⟨(x6_1), (wrap64 (x18_1 + 1)), (by first | rfl | (simp; done) | (simp [*]; done)), (by first | rfl | (simp; done) | (simp [*]; done)), H', ⟨by have := HK1.out; omega⟩, ⟨by repeat (first | (with_reducible first | exact HB.out | apply zJ | apply zD | apply zE) | exact HB.out)⟩⟩
       ·rw [if_neg c7] at H
        exact absurd H (by simp)
      ·rw [if_neg c6] at H
       exact absurd H (by simp)
     ·rw [if_neg c5] at H
      have c5b0 : decide (x18_1 < (l0.length : Int)) = false := yD c5
      clear c5
      by_cases c10 : 0 ≤ t727
      ·rw [if_pos c10] at H
       have c10b0 := yg c10
       have c10b1 : decide (0 ≤ t727) = true := yC c10
       clear c10
       obtain ⟨ji11, hji11⟩ : ∃ j_ : Int, (shr .i64 x6_1 t727) = j_ := ⟨_, rfl⟩
       replace H : (some (ji11, 0)) = some (r1, r2) := by first | (rw [hji11] at H; exact H) | (simp only [hji11] at H ⊢; exact H)
       have hji11_ : (x6_1 / 2 ^ min t727.toNat 64) = ji11 := hji11
       have hji11z : t727 ≤ 64 → (x6_1 / 2 ^ t727.toNat) = ji11 := shr_small hji11
       simp only [yZ, ya] at H
       obtain ⟨rfl, rfl⟩ := H
       go_wp2
       go_ret2
       exact ⟨by first | rfl | (simp [errW_none, errW_some] <;> rfl) | (simp only [← hji11]; first | rfl | (simp [errW_none, errW_some] <;> rfl)) | (simp [*, errW_none, errW_some] <;> rfl), by repeat (first | (with_reducible first | exact HB.out | apply zJ | apply zD | apply zE) | exact HB.out)⟩
      ·rw [if_neg c10] at H
       exact absurd H (by simp)
  ·replace c3 := yh.mpr c3
   subst c3
   have H1 : (some (0, 221)) = some (r1, r2) := by rw [if_neg (show ¬ (false = true) by decide)] at H; exact H
   clear H
   have H := H1
   clear H1
   simp only [yZ, ya] at H
   obtain ⟨rfl, rfl⟩ := H
   go_enter Try.func31, Try.ntmps31
   go_wp2_with (first | ((with_reducible refine gate_callee (f := 64) rfl ?_); refine goesL_ (some 11) rfl rfl Try.func64 (by kernel_rfl) rfl #[.slice A0 l0.length c0] rfl (by (try simp only [yH, yI, yJ]); first | done | rfl | (simp only [yG, yF]; rfl)) ?_; (with_reducible refine (dist_sums.calls k _ _ l0 t727 false _ ?side1 ?side2 A2.out).mono ?_); (case side1 => repeat (first | exact HR0.out | (with_reducible refine yS ?_ _) | (with_reducible refine yT ?_ _) | (with_reducible refine yU ?_))); (case side2 => exact HC0.out); rintro e w12 ⟨rfl, hb⟩; refine ⟨_, rfl, ?_⟩; have n0_ := zK (yL (by repeat (first | (with_reducible first | exact HB.out | apply zJ | apply zD | apply zE) | exact HB.out)) hb); clear HB; have HB := n0_; clear n0_; (try clear hb); (try clear hb2); (try clear hk); (try clear hi)))
   go_ret2
   exact ⟨by first | rfl | (simp [errW_none, errW_some] <;> rfl) | (simp [*, errW_none, errW_some] <;> rfl), by repeat (first | (with_reducible first | exact HB.out | apply zJ | apply zD | apply zE) | exact HB.out)⟩

/-! ### r22_Entropy: function 32 -/
mutual
def r22_Entropy.l0 : Nat → List Int → Int → Int → Int → Int → Option (Int × Int)
  | 0, _, _, _, _, _ => none
  | k + 1, x0, x4, x5, x15, x16 => if x16 < x15 then ((r22_Surprise.f k x0 x16).bind fun bt732 => (if bt732.2 = 0 then (if 0 ≤ x16 then (if x16 < (x0.length : Int) then (r22_Entropy.l0 k x0 x4 (wrap64 (x5 + (wrap64 ((rd x0 x16) * bt732.1)))) x15 (wrap64 (x16 + 1))) else (none)) else (none)) else (r22_Entropy.l0 k x0 x4 x5 x15 (wrap64 (x16 + 1))))) else (r22_Entropy.l1 k x4 x5 0)
def r22_Entropy.l1 : Nat → Int → Int → Int → Option (Int × Int)
  | 0, _, _, _ => none
  | k + 1, x4, x5, x9 => if x9 < x4 then (r22_Entropy.l1 k x4 (wrap64 (Int.tdiv x5 2)) (wrap64 (x9 + 1))) else (some (x5, 0))
end
def r22_Entropy.f (k : Nat) (l0 : List Int) : Option (Int × Int) := (r22_bits.f k l0).bind fun t731 => (if t731 = 0 then (some (0, 221)) else (r22_Entropy.l0 k l0 t731 0 (l0.length : Int) 0))
theorem r22_Entropy.mono_l : ∀ k, (∀ y0 y1 y2 y3 y4, LeO (r22_Entropy.l0 k y0 y1 y2 y3 y4) (r22_Entropy.l0 (k + 1) y0 y1 y2 y3 y4)) ∧ (∀ y0 y1 y2, LeO (r22_Entropy.l1 k y0 y1 y2) (r22_Entropy.l1 (k + 1) y0 y1 y2))
  | 0 => ⟨fun _ _ _ _ _ r h => by simp [r22_Entropy.l0] at h, fun _ _ _ r h => by simp [r22_Entropy.l1] at h⟩
  | k + 1 => by
    obtain ⟨ih0, ih1⟩ := r22_Entropy.mono_l k
    refine ⟨?_, ?_⟩ <;> (intros; first | unfold r22_Entropy.l0 | unfold r22_Entropy.l1)
    all_goals repeat' first
      | (with_reducible exact ih0 _ _ _ _ _)
      | (with_reducible exact ih1 _ _ _)
      | (with_reducible exact r22_Surprise.mono _ _ _)
      | (with_reducible exact r22_bits.mono _ _)
      | (with_reducible exact yR _)
      | (with_reducible exact yO _)
      | (with_reducible refine yQ ?_ ?_)
      | (with_reducible refine yP ?_ (fun _ => ?_))
      | exact ih0 _ _ _ _ _
      | exact ih1 _ _ _
      | exact r22_Surprise.mono _ _ _
      | exact r22_bits.mono _ _
      | exact yO _
      | refine yQ ?_ ?_
      | refine yP ?_ (fun _ => ?_)
theorem r22_Entropy.mono : ∀ a0 k, LeO (r22_Entropy.f k a0) (r22_Entropy.f (k + 1) a0) := by
  intro a0 k
  obtain ⟨ih0, ih1⟩ := r22_Entropy.mono_l k
  unfold r22_Entropy.f
  repeat' first
      | (with_reducible exact ih0 _ _ _ _ _)
      | (with_reducible exact ih1 _ _ _)
      | (with_reducible exact r22_Surprise.mono _ _ _)
      | (with_reducible exact r22_bits.mono _ _)
      | (with_reducible exact yR _)
      | (with_reducible exact yO _)
      | (with_reducible refine yQ ?_ ?_)
      | (with_reducible refine yP ?_ (fun _ => ?_))
      | exact ih0 _ _ _ _ _
      | exact ih1 _ _ _
      | exact r22_Surprise.mono _ _ _
      | exact r22_bits.mono _ _
      | exact yO _
      | refine yQ ?_ ?_
      | refine yP ?_ (fun _ => ?_)
set_option maxHeartbeats 8000000 in
set_option maxRecDepth 100000 in
theorem r22_Entropy.calls (k : Nat) (A0 : Option Addr) (c0 : Nat) (l0 : List Int) (r1 : Int) (r2 : Int) (w : World) (hr0 : Kd.C (Kd.int .i64) w A0 l0.length l0) (hc0 : l0.length ≤ c0) (h : r22_Entropy.f k l0 = some (r1, r2)) :
    Calls Try.prog 32 #[.slice A0 l0.length c0] w fun e w' => e = .returned (.tuple #[.int .i64 r1, .int .i64 r2]) ∧ Below w.heap.size w w' := by
  have HR0 := zK hr0
  have HC0 := zK hc0
  clear hr0 hc0
  have HB := zK (Below.refl w.heap.size w)
  have H : ((r22_bits.f k l0).bind fun t731 => (if t731 = 0 then (some (0, 221)) else (r22_Entropy.l0 k l0 t731 0 (l0.length : Int) 0))) = some (r1, r2) := h
  clear h
  replace H := yA.mp H
  obtain ⟨t731, A20, H⟩ := H
  replace H : (if t731 = 0 then (some (0, 221)) else (r22_Entropy.l0 k l0 t731 0 (l0.length : Int) 0)) = some (r1, r2) := H
  have A2 := zK A20
  clear A20
  by_cases c3 : t731 = 0
  ·rw [if_pos c3] at H
   have c3b0 : (t731 == 0) = true := beq_iff_eq.mpr c3
   have c3b1 : (t731 != 0) = false := bne_eq_false_iff_eq.mpr c3
   clear c3
   simp only [yZ, ya] at H
   obtain ⟨rfl, rfl⟩ := H
   go_enter Try.func32, Try.ntmps32
   go_wp2_with (first | ((with_reducible refine gate_callee (f := 66) rfl ?_); refine goesL_ (some 11) rfl rfl Try.func66 (by kernel_rfl) rfl #[.slice A0 l0.length c0] rfl (by (try simp only [yH, yI, yJ]); first | done | rfl | (simp only [yG, yF]; rfl)) ?_; (with_reducible refine (r22_bits.calls k _ _ l0 t731 _ ?side1 ?side2 A2.out).mono ?_); (case side1 => repeat (first | exact HR0.out | (with_reducible refine yS ?_ _) | (with_reducible refine yT ?_ _) | (with_reducible refine yU ?_))); (case side2 => exact HC0.out); rintro e w4 ⟨rfl, hb⟩; refine ⟨_, rfl, ?_⟩; have n0_ := zK (yL (by repeat (first | (with_reducible first | exact HB.out | apply zJ | apply zD | apply zE) | exact HB.out)) hb); clear HB; have HB := n0_; clear n0_; (try clear hb); (try clear hb2); (try clear hk); (try clear hi)))
   go_ret2
   exact ⟨by first | rfl | (simp [errW_none, errW_some] <;> rfl) | (simp [*, errW_none, errW_some] <;> rfl), by repeat (first | (with_reducible first | exact HB.out | apply zJ | apply zD | apply zE) | exact HB.out)⟩
  ·rw [if_neg c3] at H
   have c3b0 : (t731 == 0) = false := beq_eq_false_iff_ne.mpr c3
   have c3b1 : (t731 != 0) = true := bne_iff_ne.mpr c3
   have H' := zK H
   clear H
   go_enter Try.func32, Try.ntmps32
   go_wp2_with (first | ((with_reducible refine gate_callee (f := 66) rfl ?_); refine goesL_ (some 11) rfl rfl Try.func66 (by kernel_rfl) rfl #[.slice A0 l0.length c0] rfl (by (try simp only [yH, yI, yJ]); first | done | rfl | (simp only [yG, yF]; rfl)) ?_; (with_reducible refine (r22_bits.calls k _ _ l0 t731 _ ?side1 ?side2 A2.out).mono ?_); (case side1 => repeat (first | exact HR0.out | (with_reducible refine yS ?_ _) | (with_reducible refine yT ?_ _) | (with_reducible refine yU ?_))); (case side2 => exact HC0.out); rintro e w5 ⟨rfl, hb⟩; refine ⟨_, rfl, ?_⟩; have n0_ := zK (yL (by repeat (first | (with_reducible first | exact HB.out | apply zJ | apply zD | apply zE) | exact HB.out)) hb); clear HB; have HB := n0_; clear n0_; (try clear hb); (try clear hb2); (try clear hk); (try clear hi)))
   go_loopg [5, 16] k (fun kq v5 v16 w' => ∃ (x5_1 : Int) (x16_1 : Int), v5 = .int .i64 x5_1 ∧ v16 = .int .i64 x16_1 ∧ Aside0 (r22_Entropy.l0 kq l0 t731 x5_1 (l0.length : Int) x16_1 = some (r1, r2)) ∧ Aside0 (kq ≤ k) ∧ Aside0 (Below w.heap.size w w'))
   case atStart => exact ⟨(0), (0), (by first | rfl | (simp; done) | (simp [*]; done)), (by first | rfl | (simp; done) | (simp [*]; done)), H', ⟨yN _⟩, ⟨by repeat (first | (with_reducible first | exact HB.out | apply zJ | apply zD | apply zE) | exact HB.out)⟩⟩
   case round =>
    clear H'
    try clear p2
    try clear c3
    try clear c3b0
    try clear c3b1
    obtain ⟨x5_1, x16_1, rfl, rfl, HA, HK1, HB⟩ := hrel
    cases gk with
    | zero => exact absurd HA.out (by simp [r22_Entropy.l0])
    | succ k1 =>
     have H := HA.out
     clear HA
     simp only [r22_Entropy.l0] at H
     by_cases c6 : x16_1 < (l0.length : Int)
     ·rw [if_pos c6] at H
      have c6b0 : decide (x16_1 < (l0.length : Int)) = true := yC c6
      clear c6
      replace H := yA.mp H
      obtain ⟨⟨t732, t733⟩, A70, H⟩ := H
      replace H : (if t733 = 0 then (if 0 ≤ x16_1 then (if x16_1 < (l0.length : Int) then (r22_Entropy.l0 k1 l0 t731 (wrap64 (x5_1 + (wrap64 ((rd l0 x16_1) * t732)))) (l0.length : Int) (wrap64 (x16_1 + 1))) else (none)) else (none)) else (r22_Entropy.l0 k1 l0 t731 x5_1 (l0.length : Int) (wrap64 (x16_1 + 1)))) = some (r1, r2) := H
      have A7 := zK A70
      clear A70
      by_cases c8 : t733 = 0
      ·rw [if_pos c8] at H
       have c8b0 : (t733 == 0) = true := beq_iff_eq.mpr c8
       have c8b1 : (t733 != 0) = false := bne_eq_false_iff_eq.mpr c8
       clear c8
       by_cases c9 : 0 ≤ x16_1
       ·rw [if_pos c9] at H
        have c9b0 : decide (0 ≤ x16_1) = true := yC c9
        clear c9
        by_cases c10 : x16_1 < (l0.length : Int)
        ·rw [if_pos c10] at H
         have c10b0 : decide (x16_1 < (l0.length : Int)) = true := yC c10
         clear c10
         have H' := zK H
         clear H
         go_wp2_with (first | ((with_reducible refine gate_callee (f := 30) rfl ?_); refine goesL_ (some 22) rfl rfl Try.func30 (by kernel_rfl) rfl #[.slice A0 l0.length c0, .int .i64 x16_1] rfl (by (try simp only [yH, yI, yJ]); first | done | rfl | (simp only [yG, yF]; rfl)) ?_; (with_reducible refine (r22_Surprise.calls k1 _ _ l0 x16_1 t732 t733 _ ?side1 ?side2 A7.out).mono ?_); (case side1 => repeat (first | exact (yc HR0.out HB.out) | (with_reducible refine yS ?_ _) | (with_reducible refine yT ?_ _) | (with_reducible refine yU ?_))); (case side2 => exact HC0.out); rintro e w11 ⟨rfl, hb⟩; refine ⟨_, rfl, ?_⟩; have n0_ := zK (yL (by repeat (first | (with_reducible first | exact HB.out | apply zJ | apply zD | apply zE) | exact HB.out)) hb); clear HB; have HB := n0_; clear n0_; (try clear hb); (try clear hb2); (try clear hk); (try clear hi); have p734 : 0 ≤ (x16_1 : Int) := yB (by first | (with_reducible assumption) | assumption); have q734 : x16_1 < (l0.length : Int) := yB (by first | (with_reducible assumption) | assumption); obtain ⟨ad734, e734, hx734_0⟩ := Kd.at_int HR0.out x16_1 p734 q734; cases e734; replace hx734_0 := (HB.out.cell (World.block_lt_of_cell? w _ hx734_0)).trans hx734_0; replace p734 := yg p734; replace q734 := yg q734))
         go_roundg k1
         case measure => have := HK1.out; omega
         case rel => exact ⟨(wrap64 (x5_1 + (wrap64 ((rd l0 x16_1) * t732)))), (wrap64 (x16_1 + 1)), (by first | rfl | (simp; done) | (simp [*]; done)), (by first | rfl | (simp; done) | (simp [*]; done)), H', ⟨by have := HK1.out; omega⟩, ⟨by repeat (first | (with_reducible first | exact HB.out | apply zJ | apply zD | apply zE) | exact HB.out)⟩⟩
        ·rw [if_neg c10] at H
         exact absurd H (by simp)
       ·rw [if_neg c9] at H
        exact absurd H (by simp)
      ·rw [if_neg c8] at H
       have c8b0 : (t733 == 0) = false := beq_eq_false_iff_ne.mpr c8
       have c8b1 : (t733 != 0) = true := bne_iff_ne.mpr c8
       have H' := zK H
       clear H
       go_wp2_with (first | ((with_reducible refine gate_callee (f := 30) rfl ?_); refine goesL_ (some 22) rfl rfl Try.func30 (by kernel_rfl) rfl #[.slice A0 l0.length c0, .int .i64 x16_1] rfl (by (try simp only [yH, yI, yJ]); first | done | rfl | (simp only [yG, yF]; rfl)) ?_; (with_reducible refine (r22_Surprise.calls k1 _ _ l0 x16_1 t732 t733 _ ?side1 ?side2 A7.out).mono ?_); (case side1 => repeat (first | exact (yc HR0.out HB.out) | (with_reducible refine yS ?_ _) | (with_reducible refine yT ?_ _) | (with_reducible refine yU ?_))); (case side2 => exact HC0.out); rintro e w12 ⟨rfl, hb⟩; refine ⟨_, rfl, ?_⟩; have n0_ := zK (yL (by repeat (first | (with_reducible first | exact HB.out | apply zJ | apply zD | apply zE) | exact HB.out)) hb); clear HB; have HB := n0_; clear n0_; (try clear hb); (try clear hb2); (try clear hk); (try clear hi)))
       go_roundg k1
       case measure => have := HK1.out; omega
       case rel => exact ⟨(x5_1), (wrap64 (x16_1 + 1)), (by first | rfl | (simp; done) | (simp [*]; done)), (by first | rfl | (simp; done) | (simp [*]; done)), H', ⟨by have := HK1.out; omega⟩, ⟨by repeat (first | (with_reducible first | exact HB.out | apply zJ | apply zD | apply zE) | exact HB.out)⟩⟩
     ·rw [if_neg c6] at H
      have c6b0 : decide (x16_1 < (l0.length : Int)) = false := yD c6
      clear c6
      have H' := zK H
      clear H
      go_wp2
      go_loopg [5, 9] k1 (fun kq v5 v9 w' => ∃ (x5_2 : Int) (x9_2 : Int), v5 = .int .i64 x5_2 ∧ v9 = .int .i64 x9_2 ∧ Aside0 (r22_Entropy.l1 kq t731 x5_2 x9_2 = some (r1, r2)) ∧ Aside0 (kq ≤ k1) ∧ Aside0 (Below w.heap.size w w'))
      case atStart => exact ⟨(x5_1), (0), (by first | rfl | (simp; done) | (simp [*]; done)), (by first | rfl | (simp; done) | (simp [*]; done)), H', ⟨yN _⟩, ⟨by repeat (first | (with_reducible first | exact HB.out | apply zJ | apply zD | apply zE) | exact HB.out)⟩⟩
      case round =>
       clear H'
       try clear c1
       try clear p2
       try clear c3
       try clear c3b0
       try clear c3b1
       try clear c6
       try clear c6b0
       try clear p6
       try clear p7
       try clear q7
       try clear hx7
       try clear c8
       try clear c8b0
       try clear c8b1
       try clear c9
       try clear c9b0
       try clear c10
       try clear c10b0
       try clear hx734_0
       try clear p2
       try clear p734
       try clear q734
       obtain ⟨x5_2, x9_2, rfl, rfl, HA, HK2, HB⟩ := hrel
       cases gk with
       | zero => exact absurd HA.out (by simp [r22_Entropy.l1])
       | succ k2 =>
        have H := HA.out
        clear HA
        simp only [r22_Entropy.l1] at H
        by_cases c13 : x9_2 < t731
        ·rw [if_pos c13] at H
         have c13b0 : decide (x9_2 < t731) = true := yC c13
         clear c13
         have H' := zK H
         clear H
         go_wp2
         go_roundg k2
         case measure => have := HK1.out; have := HK2.out; omega
         case rel => exact ⟨(wrap64 (Int.tdiv x5_2 2)), (wrap64 (x9_2 + 1)), (by first | rfl | (simp; done) | (simp [*]; done)), (by first | rfl | (simp; done) | (simp [*]; done)), H', ⟨by have := HK1.out; have := HK2.out; omega⟩, ⟨by repeat (first | (with_reducible first | exact HB.out | apply zJ | apply zD | apply zE) | exact HB.out)⟩⟩
        ·rw [if_neg c13] at H
         have c13b0 : decide (x9_2 < t731) = false := yD c13
         clear c13
         simp only [yZ, ya] at H
         obtain ⟨rfl, rfl⟩ := H
         go_wp2
         go_ret2
         exact ⟨by first | rfl | (simp [errW_none, errW_some] <;> rfl) | (simp [*, errW_none, errW_some] <;> rfl), by repeat (first | (with_reducible first | exact HB.out | apply zJ | apply zD | apply zE) | exact HB.out)⟩

end Go.Proofs.Ythmckhfjaleomaa.T
